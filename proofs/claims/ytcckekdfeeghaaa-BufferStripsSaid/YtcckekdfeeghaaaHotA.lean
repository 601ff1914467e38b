/-
  Walks of point.Clamp, hot.bound.cmp, hot.part.least, most, cut: what each returns. Conditions: none but the shape of memory.
-/
import Derived.Test.YtcckekdfeeghaaaBase
namespace Go.Proofs.Ytcckekdfeeghaaa
set_option linter.unusedSimpArgs false
set_option linter.unusedVariables false
open Go.RowKit Go.BigFrame

theorem max2_int (k k' : IntKind) (x y : Int) : Builtin.max2 (.int k x) (.int k' y) = pure (.int k (max x y)) := by
  simp only [Builtin.max2, gt_iff_lt]; congr 2; rw [Int.max_def]; split <;> split <;> omega
theorem min2_int (k k' : IntKind) (x y : Int) : Builtin.min2 (.int k x) (.int k' y) = pure (.int k (min x y)) := by
  simp only [Builtin.min2]; congr 2; rw [Int.min_def]; split <;> split <;> omega
theorem max_two (ats : Array TypeId) (ty : TypeId) (a b : Value) : Builtin.max_ ats ty #[a, b] = (Builtin.max2 a b >>= fun s => pure s) := by simp only [Builtin.max_, List.foldlM_cons, List.foldlM_nil]
theorem min_two (ats : Array TypeId) (ty : TypeId) (a b : Value) : Builtin.min_ ats ty #[a, b] = (Builtin.min2 a b >>= fun s => pure s) := by simp only [Builtin.min_, List.foldlM_cons, List.foldlM_nil]
attribute [local go_sem] max2_int min2_int max_two min_two

def clampI (x : Int) : Int := max (-1048576) (min x 1048576)

theorem limit_any (x : Int) (w : World) : Calls Try.prog 99 #[.int .i64 x, .int .i64 1048576] w fun e w' => e = .returned (.int .i64 (clampI x)) ∧ w = w' := by
  go_enter Try.func99, Try.ntmps99
  go_wp2
  go_ret
  exact ⟨rfl, rfl⟩

theorem Clamp_any (x y : Int) (w : World) : Calls Try.prog 55 #[.agg #[.int .i64 x, .int .i64 y]] w fun e w' => e = .returned (.agg #[.int .i64 (clampI x), .int .i64 (clampI y)]) ∧ Below w.heap.size w w' := by
  go_enter Try.func55, Try.ntmps55
  go_wp2
  go_region_held3 (fun w' => w'.cell? ⟨w.heap.size, 0, none⟩ = some (.int .i64 x) ∧ w'.cell? ⟨w.heap.size, 1, none⟩ = some (.int .i64 y)) (go_keep)
    (first | (go_at_call 99; refine (limit_any _ _).mono ?_; rintro e w' ⟨rfl, rfl⟩))
  go_wp2
  exact bodyPost_ret (v := .agg #[.int .i64 (clampI x), .int .i64 (clampI y)]) (by simp [results, Try.results55, go_sem]) rfl ⟨rfl, ((Below.refl _ _).alloc (Nat.le_refl _) _).alloc (by simp) _ |>.drew⟩

def bndCmp (n d n' d' : Int) : Int := if wrap64 (wrap64 (n * d') - wrap64 (n' * d)) < 0 then -1 else if wrap64 (wrap64 (n * d') - wrap64 (n' * d)) > 0 then 1 else 0

theorem cmp_any (n d n' d' : Int) (c c' : Bool) (w : World) :
    Calls Try.prog 57 #[.agg #[.int .i64 n, .int .i64 d, .bool c], .agg #[.int .i64 n', .int .i64 d', .bool c']] w fun e w' => e = .returned (.int .i64 (bndCmp n d n' d')) ∧ Below w.heap.size w w' := by
  go_enter Try.func57, Try.ntmps57
  go_wp2
  all_goals (go_ret; exact ⟨ret_int (by unfold bndCmp; simp only [gt_iff_lt]; repeat' split <;> omega), ((Below.refl _ _).alloc (Nat.le_refl _) _).alloc (by simp) _⟩)

/-- (n, d) with d above 0. -/
def bnN (n d : Int) : Int := if d < 0 then wrap64 (-n) else n
def bnD (d : Int) : Int := if d < 0 then wrap64 (-d) else d
def leastT (ln ld n d : Int) (closed : Bool) : Prop := 0 < bndCmp n d ln ld ∨ bndCmp n d ln ld = 0 ∧ closed = false
def mostT (hn hd n d : Int) (closed : Bool) : Prop := bndCmp n d hn hd < 0 ∨ bndCmp n d hn hd = 0 ∧ closed = false
instance (ln ld n d : Int) (closed : Bool) : Decidable (leastT ln ld n d closed) := by unfold leastT; infer_instance
instance (ln ld n d : Int) (closed : Bool) : Decidable (mostT ln ld n d closed) := by unfold mostT; infer_instance
def part6 (ln ld : Int) (lc : Bool) (hn hd : Int) (hc : Bool) : Array Value := #[.int .i64 ln, .int .i64 ld, .bool lc, .int .i64 hn, .int .i64 hd, .bool hc]

theorem least_pA (g : Nat) (ln ld hn hd n d : Int) (lc hc closed : Bool) (w : World) (hb : Blk w g 78 (part6 ln ld lc hn hd hc)) (hd0 : 0 ≤ d) (h1 : 0 < bndCmp (n) (d) ln ld) :
    Calls Try.prog 100 #[.pointer (some ⟨g, 0, none⟩), .int .i64 n, .int .i64 d, .bool closed] w fun e w' => e = .returned (.tuple #[]) ∧ Blk w' g 78 (part6 (n) (d) closed hn hd hc) ∧ Only g w w' := by
  have c0 : w.cell? ⟨g, 0, none⟩ = some (.int .i64 ln) := hb.cell 0
  have c1 : w.cell? ⟨g, 1, none⟩ = some (.int .i64 ld) := hb.cell 1
  have c2 : w.cell? ⟨g, 2, none⟩ = some (.bool lc) := hb.cell 2
  have hl := hb.lt
  have HB := Lib.hid hb
  clear hb
  go_enter Try.func100, Try.ntmps100
  go_wp2
  refine region_cls (fun w' => w'.cell? ⟨g, 0, none⟩ = some (.int .i64 ln) ∧ w'.cell? ⟨g, 1, none⟩ = some (.int .i64 ld) ∧ w'.cell? ⟨g, 2, none⟩ = some (.bool lc) ∧ w'.cell? ⟨w.heap.size, 0, none⟩ = some (.int .i64 (n)) ∧ w'.cell? ⟨w.heap.size, 1, none⟩ = some (.int .i64 (d)) ∧ w'.cell? ⟨w.heap.size, 2, none⟩ = some (.bool closed) ∧ Since w w') (by kernel_rfl) (by kernel_rfl) (by (repeat' refine And.intro ?_ ?_) <;> first | (simp (maxDischargeDepth := 9) [c0, c1, c2, hl,  cSetS, cSetO, cellNew, World.cell?_alloc_some, cellDrew]; done) | (repeat (first | with_reducible assumption | with_reducible exact Since.rfl_ _ | refine Since.setCell ?_ (by (try dsimp only); omega) _ | refine Since.alloc ?_ _ | refine Since.drew ?_))) ?_
  repeat (go_big_quiet_step ((first | (intro hC; go_at_call 57; refine (cmp_any _ _ _ _ _ _ _).mono ?_; rintro e w' ⟨rfl, hb⟩; refine ⟨rfl, ?_⟩; have k1 := keepC hb; have k2 := keepS hb; have hC := hC.out; (try dsimp only at hC); simp [Cls, hC, k1, k2]) | (intro hC; have hC := hC.out; (try simp only [hC, Result.andThen]); first | exact ⟨True.intro, rfl⟩ | exact ⟨rfl, rfl⟩ | rfl))))
  refine cls_end ?_
  rintro w1 ⟨d0, d1, d2, e0, e1, e2, hs⟩
  have hb1 := hs.blk HB.out
  have f0 := hb1.frozen 0
  have f1 := hb1.frozen 1
  have f2 := hb1.frozen 2
  have HB1 := Lib.hid hb1
  have HS := Lib.hid hs
  clear HB hb1 hs
  go_wp2
  go_end0
  exact ⟨rfl, ((HB1.out.set_ 0 _).set_ 1 _).set_ 2 _, (((HS.out.only g).setCell (.inl rfl) _).setCell (.inl rfl) _).setCell (.inl rfl) _⟩

theorem least_pB (g : Nat) (ln ld hn hd n d : Int) (lc hc : Bool) (w : World) (hb : Blk w g 78 (part6 ln ld lc hn hd hc)) (hd0 : 0 ≤ d) (h1 : bndCmp (n) (d) ln ld = 0) :
    Calls Try.prog 100 #[.pointer (some ⟨g, 0, none⟩), .int .i64 n, .int .i64 d, .bool false] w fun e w' => e = .returned (.tuple #[]) ∧ Blk w' g 78 (part6 (n) (d) false hn hd hc) ∧ Only g w w' := by
  have c0 : w.cell? ⟨g, 0, none⟩ = some (.int .i64 ln) := hb.cell 0
  have c1 : w.cell? ⟨g, 1, none⟩ = some (.int .i64 ld) := hb.cell 1
  have c2 : w.cell? ⟨g, 2, none⟩ = some (.bool lc) := hb.cell 2
  have hl := hb.lt
  have HB := Lib.hid hb
  clear hb
  go_enter Try.func100, Try.ntmps100
  go_wp2
  refine region_cls (fun w' => w'.cell? ⟨g, 0, none⟩ = some (.int .i64 ln) ∧ w'.cell? ⟨g, 1, none⟩ = some (.int .i64 ld) ∧ w'.cell? ⟨g, 2, none⟩ = some (.bool lc) ∧ w'.cell? ⟨w.heap.size, 0, none⟩ = some (.int .i64 (n)) ∧ w'.cell? ⟨w.heap.size, 1, none⟩ = some (.int .i64 (d)) ∧ w'.cell? ⟨w.heap.size, 2, none⟩ = some (.bool false) ∧ Since w w') (by kernel_rfl) (by kernel_rfl) (by (repeat' refine And.intro ?_ ?_) <;> first | (simp (maxDischargeDepth := 9) [c0, c1, c2, hl,  cSetS, cSetO, cellNew, World.cell?_alloc_some, cellDrew]; done) | (repeat (first | with_reducible assumption | with_reducible exact Since.rfl_ _ | refine Since.setCell ?_ (by (try dsimp only); omega) _ | refine Since.alloc ?_ _ | refine Since.drew ?_))) ?_
  repeat (go_big_quiet_step ((first | (intro hC; go_at_call 57; refine (cmp_any _ _ _ _ _ _ _).mono ?_; rintro e w' ⟨rfl, hb⟩; refine ⟨rfl, ?_⟩; have k1 := keepC hb; have k2 := keepS hb; have hC := hC.out; (try dsimp only at hC); simp [Cls, hC, k1, k2]) | (intro hC; have hC := hC.out; (try simp only [hC, Result.andThen]); first | exact ⟨True.intro, rfl⟩ | exact ⟨rfl, rfl⟩ | rfl))))
  refine cls_end ?_
  rintro w1 ⟨d0, d1, d2, e0, e1, e2, hs⟩
  have hb1 := hs.blk HB.out
  have f0 := hb1.frozen 0
  have f1 := hb1.frozen 1
  have f2 := hb1.frozen 2
  have HB1 := Lib.hid hb1
  have HS := Lib.hid hs
  clear HB hb1 hs
  go_wp2
  go_end0
  exact ⟨rfl, ((HB1.out.set_ 0 _).set_ 1 _).set_ 2 _, (((HS.out.only g).setCell (.inl rfl) _).setCell (.inl rfl) _).setCell (.inl rfl) _⟩

theorem least_pC (g : Nat) (ln ld hn hd n d : Int) (lc hc : Bool) (w : World) (hb : Blk w g 78 (part6 ln ld lc hn hd hc)) (hd0 : 0 ≤ d) (h1 : bndCmp (n) (d) ln ld = 0) :
    Calls Try.prog 100 #[.pointer (some ⟨g, 0, none⟩), .int .i64 n, .int .i64 d, .bool true] w fun e w' => e = .returned (.tuple #[]) ∧ Blk w' g 78 (part6 ln ld lc hn hd hc) ∧ Only g w w' := by
  have c0 : w.cell? ⟨g, 0, none⟩ = some (.int .i64 ln) := hb.cell 0
  have c1 : w.cell? ⟨g, 1, none⟩ = some (.int .i64 ld) := hb.cell 1
  have c2 : w.cell? ⟨g, 2, none⟩ = some (.bool lc) := hb.cell 2
  have hl := hb.lt
  have HB := Lib.hid hb
  clear hb
  go_enter Try.func100, Try.ntmps100
  go_wp2
  refine region_cls (fun w' => w'.cell? ⟨g, 0, none⟩ = some (.int .i64 ln) ∧ w'.cell? ⟨g, 1, none⟩ = some (.int .i64 ld) ∧ w'.cell? ⟨g, 2, none⟩ = some (.bool lc) ∧ w'.cell? ⟨w.heap.size, 0, none⟩ = some (.int .i64 (n)) ∧ w'.cell? ⟨w.heap.size, 1, none⟩ = some (.int .i64 (d)) ∧ w'.cell? ⟨w.heap.size, 2, none⟩ = some (.bool true) ∧ Since w w') (by kernel_rfl) (by kernel_rfl) (by (repeat' refine And.intro ?_ ?_) <;> first | (simp (maxDischargeDepth := 9) [c0, c1, c2, hl,  cSetS, cSetO, cellNew, World.cell?_alloc_some, cellDrew]; done) | (repeat (first | with_reducible assumption | with_reducible exact Since.rfl_ _ | refine Since.setCell ?_ (by (try dsimp only); omega) _ | refine Since.alloc ?_ _ | refine Since.drew ?_))) ?_
  repeat (go_big_quiet_step ((first | (intro hC; go_at_call 57; refine (cmp_any _ _ _ _ _ _ _).mono ?_; rintro e w' ⟨rfl, hb⟩; refine ⟨rfl, ?_⟩; have k1 := keepC hb; have k2 := keepS hb; have hC := hC.out; (try dsimp only at hC); simp [Cls, hC, k1, k2]) | (intro hC; have hC := hC.out; (try simp only [hC, Result.andThen]); first | exact ⟨True.intro, rfl⟩ | exact ⟨rfl, rfl⟩ | rfl))))
  refine cls_end ?_
  rintro w1 ⟨d0, d1, d2, e0, e1, e2, hs⟩
  have hb1 := hs.blk HB.out
  have f0 := hb1.frozen 0
  have f1 := hb1.frozen 1
  have f2 := hb1.frozen 2
  have HB1 := Lib.hid hb1
  have HS := Lib.hid hs
  clear HB hb1 hs
  go_wp2
  go_end0
  exact ⟨rfl, HB1.out, HS.out.only g⟩

theorem least_pD (g : Nat) (ln ld hn hd n d : Int) (lc hc closed : Bool) (w : World) (hb : Blk w g 78 (part6 ln ld lc hn hd hc)) (hd0 : 0 ≤ d) (h1 : bndCmp (n) (d) ln ld < 0) :
    Calls Try.prog 100 #[.pointer (some ⟨g, 0, none⟩), .int .i64 n, .int .i64 d, .bool closed] w fun e w' => e = .returned (.tuple #[]) ∧ Blk w' g 78 (part6 ln ld lc hn hd hc) ∧ Only g w w' := by
  have hz : (bndCmp (n) (d) ln ld == 0) = false := by rw [beq_eq_false_iff_ne]; omega
  have hz1 : decide (0 < bndCmp (n) (d) ln ld) = false := by rw [decide_eq_false_iff_not]; omega
  have c0 : w.cell? ⟨g, 0, none⟩ = some (.int .i64 ln) := hb.cell 0
  have c1 : w.cell? ⟨g, 1, none⟩ = some (.int .i64 ld) := hb.cell 1
  have c2 : w.cell? ⟨g, 2, none⟩ = some (.bool lc) := hb.cell 2
  have hl := hb.lt
  have HB := Lib.hid hb
  clear hb
  go_enter Try.func100, Try.ntmps100
  go_wp2
  refine region_cls (fun w' => w'.cell? ⟨g, 0, none⟩ = some (.int .i64 ln) ∧ w'.cell? ⟨g, 1, none⟩ = some (.int .i64 ld) ∧ w'.cell? ⟨g, 2, none⟩ = some (.bool lc) ∧ w'.cell? ⟨w.heap.size, 0, none⟩ = some (.int .i64 (n)) ∧ w'.cell? ⟨w.heap.size, 1, none⟩ = some (.int .i64 (d)) ∧ w'.cell? ⟨w.heap.size, 2, none⟩ = some (.bool closed) ∧ Since w w') (by kernel_rfl) (by kernel_rfl) (by (repeat' refine And.intro ?_ ?_) <;> first | (simp (maxDischargeDepth := 9) [c0, c1, c2, hl,  cSetS, cSetO, cellNew, World.cell?_alloc_some, cellDrew]; done) | (repeat (first | with_reducible assumption | with_reducible exact Since.rfl_ _ | refine Since.setCell ?_ (by (try dsimp only); omega) _ | refine Since.alloc ?_ _ | refine Since.drew ?_))) ?_
  repeat (go_big_quiet_step ((first | (intro hC; go_at_call 57; refine (cmp_any _ _ _ _ _ _ _).mono ?_; rintro e w' ⟨rfl, hb⟩; refine ⟨rfl, ?_⟩; have k1 := keepC hb; have k2 := keepS hb; have hC := hC.out; (try dsimp only at hC); simp [Cls, hC, k1, k2]) | (intro hC; have hC := hC.out; (try simp only [hC, Result.andThen]); first | exact ⟨True.intro, rfl⟩ | exact ⟨rfl, rfl⟩ | rfl))))
  refine cls_end ?_
  rintro w1 ⟨d0, d1, d2, e0, e1, e2, hs⟩
  have hb1 := hs.blk HB.out
  have f0 := hb1.frozen 0
  have f1 := hb1.frozen 1
  have f2 := hb1.frozen 2
  have HB1 := Lib.hid hb1
  have HS := Lib.hid hs
  clear HB hb1 hs
  go_wp2
  go_end0
  exact ⟨rfl, HB1.out, HS.out.only g⟩

theorem least_nA (g : Nat) (ln ld hn hd n d : Int) (lc hc closed : Bool) (w : World) (hb : Blk w g 78 (part6 ln ld lc hn hd hc)) (hd0 : d < 0) (h1 : 0 < bndCmp (wrap64 (-n)) (wrap64 (-d)) ln ld) :
    Calls Try.prog 100 #[.pointer (some ⟨g, 0, none⟩), .int .i64 n, .int .i64 d, .bool closed] w fun e w' => e = .returned (.tuple #[]) ∧ Blk w' g 78 (part6 (wrap64 (-n)) (wrap64 (-d)) closed hn hd hc) ∧ Only g w w' := by
  have c0 : w.cell? ⟨g, 0, none⟩ = some (.int .i64 ln) := hb.cell 0
  have c1 : w.cell? ⟨g, 1, none⟩ = some (.int .i64 ld) := hb.cell 1
  have c2 : w.cell? ⟨g, 2, none⟩ = some (.bool lc) := hb.cell 2
  have hl := hb.lt
  have HB := Lib.hid hb
  clear hb
  go_enter Try.func100, Try.ntmps100
  go_wp2
  refine region_cls (fun w' => w'.cell? ⟨g, 0, none⟩ = some (.int .i64 ln) ∧ w'.cell? ⟨g, 1, none⟩ = some (.int .i64 ld) ∧ w'.cell? ⟨g, 2, none⟩ = some (.bool lc) ∧ w'.cell? ⟨w.heap.size, 0, none⟩ = some (.int .i64 (wrap64 (-n))) ∧ w'.cell? ⟨w.heap.size, 1, none⟩ = some (.int .i64 (wrap64 (-d))) ∧ w'.cell? ⟨w.heap.size, 2, none⟩ = some (.bool closed) ∧ Since w w') (by kernel_rfl) (by kernel_rfl) (by (repeat' refine And.intro ?_ ?_) <;> first | (simp (maxDischargeDepth := 9) [c0, c1, c2, hl,  cSetS, cSetO, cellNew, World.cell?_alloc_some, cellDrew]; done) | (repeat (first | with_reducible assumption | with_reducible exact Since.rfl_ _ | refine Since.setCell ?_ (by (try dsimp only); omega) _ | refine Since.alloc ?_ _ | refine Since.drew ?_))) ?_
  repeat (go_big_quiet_step ((first | (intro hC; go_at_call 57; refine (cmp_any _ _ _ _ _ _ _).mono ?_; rintro e w' ⟨rfl, hb⟩; refine ⟨rfl, ?_⟩; have k1 := keepC hb; have k2 := keepS hb; have hC := hC.out; (try dsimp only at hC); simp [Cls, hC, k1, k2]) | (intro hC; have hC := hC.out; (try simp only [hC, Result.andThen]); first | exact ⟨True.intro, rfl⟩ | exact ⟨rfl, rfl⟩ | rfl))))
  refine cls_end ?_
  rintro w1 ⟨d0, d1, d2, e0, e1, e2, hs⟩
  have hb1 := hs.blk HB.out
  have f0 := hb1.frozen 0
  have f1 := hb1.frozen 1
  have f2 := hb1.frozen 2
  have HB1 := Lib.hid hb1
  have HS := Lib.hid hs
  clear HB hb1 hs
  go_wp2
  go_end0
  exact ⟨rfl, ((HB1.out.set_ 0 _).set_ 1 _).set_ 2 _, (((HS.out.only g).setCell (.inl rfl) _).setCell (.inl rfl) _).setCell (.inl rfl) _⟩

theorem least_nB (g : Nat) (ln ld hn hd n d : Int) (lc hc : Bool) (w : World) (hb : Blk w g 78 (part6 ln ld lc hn hd hc)) (hd0 : d < 0) (h1 : bndCmp (wrap64 (-n)) (wrap64 (-d)) ln ld = 0) :
    Calls Try.prog 100 #[.pointer (some ⟨g, 0, none⟩), .int .i64 n, .int .i64 d, .bool false] w fun e w' => e = .returned (.tuple #[]) ∧ Blk w' g 78 (part6 (wrap64 (-n)) (wrap64 (-d)) false hn hd hc) ∧ Only g w w' := by
  have c0 : w.cell? ⟨g, 0, none⟩ = some (.int .i64 ln) := hb.cell 0
  have c1 : w.cell? ⟨g, 1, none⟩ = some (.int .i64 ld) := hb.cell 1
  have c2 : w.cell? ⟨g, 2, none⟩ = some (.bool lc) := hb.cell 2
  have hl := hb.lt
  have HB := Lib.hid hb
  clear hb
  go_enter Try.func100, Try.ntmps100
  go_wp2
  refine region_cls (fun w' => w'.cell? ⟨g, 0, none⟩ = some (.int .i64 ln) ∧ w'.cell? ⟨g, 1, none⟩ = some (.int .i64 ld) ∧ w'.cell? ⟨g, 2, none⟩ = some (.bool lc) ∧ w'.cell? ⟨w.heap.size, 0, none⟩ = some (.int .i64 (wrap64 (-n))) ∧ w'.cell? ⟨w.heap.size, 1, none⟩ = some (.int .i64 (wrap64 (-d))) ∧ w'.cell? ⟨w.heap.size, 2, none⟩ = some (.bool false) ∧ Since w w') (by kernel_rfl) (by kernel_rfl) (by (repeat' refine And.intro ?_ ?_) <;> first | (simp (maxDischargeDepth := 9) [c0, c1, c2, hl,  cSetS, cSetO, cellNew, World.cell?_alloc_some, cellDrew]; done) | (repeat (first | with_reducible assumption | with_reducible exact Since.rfl_ _ | refine Since.setCell ?_ (by (try dsimp only); omega) _ | refine Since.alloc ?_ _ | refine Since.drew ?_))) ?_
  repeat (go_big_quiet_step ((first | (intro hC; go_at_call 57; refine (cmp_any _ _ _ _ _ _ _).mono ?_; rintro e w' ⟨rfl, hb⟩; refine ⟨rfl, ?_⟩; have k1 := keepC hb; have k2 := keepS hb; have hC := hC.out; (try dsimp only at hC); simp [Cls, hC, k1, k2]) | (intro hC; have hC := hC.out; (try simp only [hC, Result.andThen]); first | exact ⟨True.intro, rfl⟩ | exact ⟨rfl, rfl⟩ | rfl))))
  refine cls_end ?_
  rintro w1 ⟨d0, d1, d2, e0, e1, e2, hs⟩
  have hb1 := hs.blk HB.out
  have f0 := hb1.frozen 0
  have f1 := hb1.frozen 1
  have f2 := hb1.frozen 2
  have HB1 := Lib.hid hb1
  have HS := Lib.hid hs
  clear HB hb1 hs
  go_wp2
  go_end0
  exact ⟨rfl, ((HB1.out.set_ 0 _).set_ 1 _).set_ 2 _, (((HS.out.only g).setCell (.inl rfl) _).setCell (.inl rfl) _).setCell (.inl rfl) _⟩

theorem least_nC (g : Nat) (ln ld hn hd n d : Int) (lc hc : Bool) (w : World) (hb : Blk w g 78 (part6 ln ld lc hn hd hc)) (hd0 : d < 0) (h1 : bndCmp (wrap64 (-n)) (wrap64 (-d)) ln ld = 0) :
    Calls Try.prog 100 #[.pointer (some ⟨g, 0, none⟩), .int .i64 n, .int .i64 d, .bool true] w fun e w' => e = .returned (.tuple #[]) ∧ Blk w' g 78 (part6 ln ld lc hn hd hc) ∧ Only g w w' := by
  have c0 : w.cell? ⟨g, 0, none⟩ = some (.int .i64 ln) := hb.cell 0
  have c1 : w.cell? ⟨g, 1, none⟩ = some (.int .i64 ld) := hb.cell 1
  have c2 : w.cell? ⟨g, 2, none⟩ = some (.bool lc) := hb.cell 2
  have hl := hb.lt
  have HB := Lib.hid hb
  clear hb
  go_enter Try.func100, Try.ntmps100
  go_wp2
  refine region_cls (fun w' => w'.cell? ⟨g, 0, none⟩ = some (.int .i64 ln) ∧ w'.cell? ⟨g, 1, none⟩ = some (.int .i64 ld) ∧ w'.cell? ⟨g, 2, none⟩ = some (.bool lc) ∧ w'.cell? ⟨w.heap.size, 0, none⟩ = some (.int .i64 (wrap64 (-n))) ∧ w'.cell? ⟨w.heap.size, 1, none⟩ = some (.int .i64 (wrap64 (-d))) ∧ w'.cell? ⟨w.heap.size, 2, none⟩ = some (.bool true) ∧ Since w w') (by kernel_rfl) (by kernel_rfl) (by (repeat' refine And.intro ?_ ?_) <;> first | (simp (maxDischargeDepth := 9) [c0, c1, c2, hl,  cSetS, cSetO, cellNew, World.cell?_alloc_some, cellDrew]; done) | (repeat (first | with_reducible assumption | with_reducible exact Since.rfl_ _ | refine Since.setCell ?_ (by (try dsimp only); omega) _ | refine Since.alloc ?_ _ | refine Since.drew ?_))) ?_
  repeat (go_big_quiet_step ((first | (intro hC; go_at_call 57; refine (cmp_any _ _ _ _ _ _ _).mono ?_; rintro e w' ⟨rfl, hb⟩; refine ⟨rfl, ?_⟩; have k1 := keepC hb; have k2 := keepS hb; have hC := hC.out; (try dsimp only at hC); simp [Cls, hC, k1, k2]) | (intro hC; have hC := hC.out; (try simp only [hC, Result.andThen]); first | exact ⟨True.intro, rfl⟩ | exact ⟨rfl, rfl⟩ | rfl))))
  refine cls_end ?_
  rintro w1 ⟨d0, d1, d2, e0, e1, e2, hs⟩
  have hb1 := hs.blk HB.out
  have f0 := hb1.frozen 0
  have f1 := hb1.frozen 1
  have f2 := hb1.frozen 2
  have HB1 := Lib.hid hb1
  have HS := Lib.hid hs
  clear HB hb1 hs
  go_wp2
  go_end0
  exact ⟨rfl, HB1.out, HS.out.only g⟩

theorem least_nD (g : Nat) (ln ld hn hd n d : Int) (lc hc closed : Bool) (w : World) (hb : Blk w g 78 (part6 ln ld lc hn hd hc)) (hd0 : d < 0) (h1 : bndCmp (wrap64 (-n)) (wrap64 (-d)) ln ld < 0) :
    Calls Try.prog 100 #[.pointer (some ⟨g, 0, none⟩), .int .i64 n, .int .i64 d, .bool closed] w fun e w' => e = .returned (.tuple #[]) ∧ Blk w' g 78 (part6 ln ld lc hn hd hc) ∧ Only g w w' := by
  have hz : (bndCmp (wrap64 (-n)) (wrap64 (-d)) ln ld == 0) = false := by rw [beq_eq_false_iff_ne]; omega
  have hz1 : decide (0 < bndCmp (wrap64 (-n)) (wrap64 (-d)) ln ld) = false := by rw [decide_eq_false_iff_not]; omega
  have c0 : w.cell? ⟨g, 0, none⟩ = some (.int .i64 ln) := hb.cell 0
  have c1 : w.cell? ⟨g, 1, none⟩ = some (.int .i64 ld) := hb.cell 1
  have c2 : w.cell? ⟨g, 2, none⟩ = some (.bool lc) := hb.cell 2
  have hl := hb.lt
  have HB := Lib.hid hb
  clear hb
  go_enter Try.func100, Try.ntmps100
  go_wp2
  refine region_cls (fun w' => w'.cell? ⟨g, 0, none⟩ = some (.int .i64 ln) ∧ w'.cell? ⟨g, 1, none⟩ = some (.int .i64 ld) ∧ w'.cell? ⟨g, 2, none⟩ = some (.bool lc) ∧ w'.cell? ⟨w.heap.size, 0, none⟩ = some (.int .i64 (wrap64 (-n))) ∧ w'.cell? ⟨w.heap.size, 1, none⟩ = some (.int .i64 (wrap64 (-d))) ∧ w'.cell? ⟨w.heap.size, 2, none⟩ = some (.bool closed) ∧ Since w w') (by kernel_rfl) (by kernel_rfl) (by (repeat' refine And.intro ?_ ?_) <;> first | (simp (maxDischargeDepth := 9) [c0, c1, c2, hl,  cSetS, cSetO, cellNew, World.cell?_alloc_some, cellDrew]; done) | (repeat (first | with_reducible assumption | with_reducible exact Since.rfl_ _ | refine Since.setCell ?_ (by (try dsimp only); omega) _ | refine Since.alloc ?_ _ | refine Since.drew ?_))) ?_
  repeat (go_big_quiet_step ((first | (intro hC; go_at_call 57; refine (cmp_any _ _ _ _ _ _ _).mono ?_; rintro e w' ⟨rfl, hb⟩; refine ⟨rfl, ?_⟩; have k1 := keepC hb; have k2 := keepS hb; have hC := hC.out; (try dsimp only at hC); simp [Cls, hC, k1, k2]) | (intro hC; have hC := hC.out; (try simp only [hC, Result.andThen]); first | exact ⟨True.intro, rfl⟩ | exact ⟨rfl, rfl⟩ | rfl))))
  refine cls_end ?_
  rintro w1 ⟨d0, d1, d2, e0, e1, e2, hs⟩
  have hb1 := hs.blk HB.out
  have f0 := hb1.frozen 0
  have f1 := hb1.frozen 1
  have f2 := hb1.frozen 2
  have HB1 := Lib.hid hb1
  have HS := Lib.hid hs
  clear HB hb1 hs
  go_wp2
  go_end0
  exact ⟨rfl, HB1.out, HS.out.only g⟩

theorem most_pA (g : Nat) (ln ld hn hd n d : Int) (lc hc closed : Bool) (w : World) (hb : Blk w g 78 (part6 ln ld lc hn hd hc)) (hd0 : 0 ≤ d) (h1 : bndCmp (n) (d) hn hd < 0) :
    Calls Try.prog 101 #[.pointer (some ⟨g, 0, none⟩), .int .i64 n, .int .i64 d, .bool closed] w fun e w' => e = .returned (.tuple #[]) ∧ Blk w' g 78 (part6 ln ld lc (n) (d) closed) ∧ Only g w w' := by
  have c0 : w.cell? ⟨g, 3, none⟩ = some (.int .i64 hn) := hb.cell 3
  have c1 : w.cell? ⟨g, 4, none⟩ = some (.int .i64 hd) := hb.cell 4
  have c2 : w.cell? ⟨g, 5, none⟩ = some (.bool hc) := hb.cell 5
  have hl := hb.lt
  have HB := Lib.hid hb
  clear hb
  go_enter Try.func101, Try.ntmps101
  go_wp2
  refine region_cls (fun w' => w'.cell? ⟨g, 3, none⟩ = some (.int .i64 hn) ∧ w'.cell? ⟨g, 4, none⟩ = some (.int .i64 hd) ∧ w'.cell? ⟨g, 5, none⟩ = some (.bool hc) ∧ w'.cell? ⟨w.heap.size, 0, none⟩ = some (.int .i64 (n)) ∧ w'.cell? ⟨w.heap.size, 1, none⟩ = some (.int .i64 (d)) ∧ w'.cell? ⟨w.heap.size, 2, none⟩ = some (.bool closed) ∧ Since w w') (by kernel_rfl) (by kernel_rfl) (by (repeat' refine And.intro ?_ ?_) <;> first | (simp (maxDischargeDepth := 9) [c0, c1, c2, hl,  cSetS, cSetO, cellNew, World.cell?_alloc_some, cellDrew]; done) | (repeat (first | with_reducible assumption | with_reducible exact Since.rfl_ _ | refine Since.setCell ?_ (by (try dsimp only); omega) _ | refine Since.alloc ?_ _ | refine Since.drew ?_))) ?_
  repeat (go_big_quiet_step ((first | (intro hC; go_at_call 57; refine (cmp_any _ _ _ _ _ _ _).mono ?_; rintro e w' ⟨rfl, hb⟩; refine ⟨rfl, ?_⟩; have k1 := keepC hb; have k2 := keepS hb; have hC := hC.out; (try dsimp only at hC); simp [Cls, hC, k1, k2]) | (intro hC; have hC := hC.out; (try simp only [hC, Result.andThen]); first | exact ⟨True.intro, rfl⟩ | exact ⟨rfl, rfl⟩ | rfl))))
  refine cls_end ?_
  rintro w1 ⟨d0, d1, d2, e0, e1, e2, hs⟩
  have hb1 := hs.blk HB.out
  have f0 := hb1.frozen 3
  have f1 := hb1.frozen 4
  have f2 := hb1.frozen 5
  have HB1 := Lib.hid hb1
  have HS := Lib.hid hs
  clear HB hb1 hs
  go_wp2
  go_end0
  exact ⟨rfl, ((HB1.out.set_ 3 _).set_ 4 _).set_ 5 _, (((HS.out.only g).setCell (.inl rfl) _).setCell (.inl rfl) _).setCell (.inl rfl) _⟩

theorem most_pB (g : Nat) (ln ld hn hd n d : Int) (lc hc : Bool) (w : World) (hb : Blk w g 78 (part6 ln ld lc hn hd hc)) (hd0 : 0 ≤ d) (h1 : bndCmp (n) (d) hn hd = 0) :
    Calls Try.prog 101 #[.pointer (some ⟨g, 0, none⟩), .int .i64 n, .int .i64 d, .bool false] w fun e w' => e = .returned (.tuple #[]) ∧ Blk w' g 78 (part6 ln ld lc (n) (d) false) ∧ Only g w w' := by
  have c0 : w.cell? ⟨g, 3, none⟩ = some (.int .i64 hn) := hb.cell 3
  have c1 : w.cell? ⟨g, 4, none⟩ = some (.int .i64 hd) := hb.cell 4
  have c2 : w.cell? ⟨g, 5, none⟩ = some (.bool hc) := hb.cell 5
  have hl := hb.lt
  have HB := Lib.hid hb
  clear hb
  go_enter Try.func101, Try.ntmps101
  go_wp2
  refine region_cls (fun w' => w'.cell? ⟨g, 3, none⟩ = some (.int .i64 hn) ∧ w'.cell? ⟨g, 4, none⟩ = some (.int .i64 hd) ∧ w'.cell? ⟨g, 5, none⟩ = some (.bool hc) ∧ w'.cell? ⟨w.heap.size, 0, none⟩ = some (.int .i64 (n)) ∧ w'.cell? ⟨w.heap.size, 1, none⟩ = some (.int .i64 (d)) ∧ w'.cell? ⟨w.heap.size, 2, none⟩ = some (.bool false) ∧ Since w w') (by kernel_rfl) (by kernel_rfl) (by (repeat' refine And.intro ?_ ?_) <;> first | (simp (maxDischargeDepth := 9) [c0, c1, c2, hl,  cSetS, cSetO, cellNew, World.cell?_alloc_some, cellDrew]; done) | (repeat (first | with_reducible assumption | with_reducible exact Since.rfl_ _ | refine Since.setCell ?_ (by (try dsimp only); omega) _ | refine Since.alloc ?_ _ | refine Since.drew ?_))) ?_
  repeat (go_big_quiet_step ((first | (intro hC; go_at_call 57; refine (cmp_any _ _ _ _ _ _ _).mono ?_; rintro e w' ⟨rfl, hb⟩; refine ⟨rfl, ?_⟩; have k1 := keepC hb; have k2 := keepS hb; have hC := hC.out; (try dsimp only at hC); simp [Cls, hC, k1, k2]) | (intro hC; have hC := hC.out; (try simp only [hC, Result.andThen]); first | exact ⟨True.intro, rfl⟩ | exact ⟨rfl, rfl⟩ | rfl))))
  refine cls_end ?_
  rintro w1 ⟨d0, d1, d2, e0, e1, e2, hs⟩
  have hb1 := hs.blk HB.out
  have f0 := hb1.frozen 3
  have f1 := hb1.frozen 4
  have f2 := hb1.frozen 5
  have HB1 := Lib.hid hb1
  have HS := Lib.hid hs
  clear HB hb1 hs
  go_wp2
  go_end0
  exact ⟨rfl, ((HB1.out.set_ 3 _).set_ 4 _).set_ 5 _, (((HS.out.only g).setCell (.inl rfl) _).setCell (.inl rfl) _).setCell (.inl rfl) _⟩

theorem most_pC (g : Nat) (ln ld hn hd n d : Int) (lc hc : Bool) (w : World) (hb : Blk w g 78 (part6 ln ld lc hn hd hc)) (hd0 : 0 ≤ d) (h1 : bndCmp (n) (d) hn hd = 0) :
    Calls Try.prog 101 #[.pointer (some ⟨g, 0, none⟩), .int .i64 n, .int .i64 d, .bool true] w fun e w' => e = .returned (.tuple #[]) ∧ Blk w' g 78 (part6 ln ld lc hn hd hc) ∧ Only g w w' := by
  have c0 : w.cell? ⟨g, 3, none⟩ = some (.int .i64 hn) := hb.cell 3
  have c1 : w.cell? ⟨g, 4, none⟩ = some (.int .i64 hd) := hb.cell 4
  have c2 : w.cell? ⟨g, 5, none⟩ = some (.bool hc) := hb.cell 5
  have hl := hb.lt
  have HB := Lib.hid hb
  clear hb
  go_enter Try.func101, Try.ntmps101
  go_wp2
  refine region_cls (fun w' => w'.cell? ⟨g, 3, none⟩ = some (.int .i64 hn) ∧ w'.cell? ⟨g, 4, none⟩ = some (.int .i64 hd) ∧ w'.cell? ⟨g, 5, none⟩ = some (.bool hc) ∧ w'.cell? ⟨w.heap.size, 0, none⟩ = some (.int .i64 (n)) ∧ w'.cell? ⟨w.heap.size, 1, none⟩ = some (.int .i64 (d)) ∧ w'.cell? ⟨w.heap.size, 2, none⟩ = some (.bool true) ∧ Since w w') (by kernel_rfl) (by kernel_rfl) (by (repeat' refine And.intro ?_ ?_) <;> first | (simp (maxDischargeDepth := 9) [c0, c1, c2, hl,  cSetS, cSetO, cellNew, World.cell?_alloc_some, cellDrew]; done) | (repeat (first | with_reducible assumption | with_reducible exact Since.rfl_ _ | refine Since.setCell ?_ (by (try dsimp only); omega) _ | refine Since.alloc ?_ _ | refine Since.drew ?_))) ?_
  repeat (go_big_quiet_step ((first | (intro hC; go_at_call 57; refine (cmp_any _ _ _ _ _ _ _).mono ?_; rintro e w' ⟨rfl, hb⟩; refine ⟨rfl, ?_⟩; have k1 := keepC hb; have k2 := keepS hb; have hC := hC.out; (try dsimp only at hC); simp [Cls, hC, k1, k2]) | (intro hC; have hC := hC.out; (try simp only [hC, Result.andThen]); first | exact ⟨True.intro, rfl⟩ | exact ⟨rfl, rfl⟩ | rfl))))
  refine cls_end ?_
  rintro w1 ⟨d0, d1, d2, e0, e1, e2, hs⟩
  have hb1 := hs.blk HB.out
  have f0 := hb1.frozen 3
  have f1 := hb1.frozen 4
  have f2 := hb1.frozen 5
  have HB1 := Lib.hid hb1
  have HS := Lib.hid hs
  clear HB hb1 hs
  go_wp2
  go_end0
  exact ⟨rfl, HB1.out, HS.out.only g⟩

theorem most_pD (g : Nat) (ln ld hn hd n d : Int) (lc hc closed : Bool) (w : World) (hb : Blk w g 78 (part6 ln ld lc hn hd hc)) (hd0 : 0 ≤ d) (h1 : 0 < bndCmp (n) (d) hn hd) :
    Calls Try.prog 101 #[.pointer (some ⟨g, 0, none⟩), .int .i64 n, .int .i64 d, .bool closed] w fun e w' => e = .returned (.tuple #[]) ∧ Blk w' g 78 (part6 ln ld lc hn hd hc) ∧ Only g w w' := by
  have hz : (bndCmp (n) (d) hn hd == 0) = false := by rw [beq_eq_false_iff_ne]; omega
  have hz1 : decide (bndCmp (n) (d) hn hd < 0) = false := by rw [decide_eq_false_iff_not]; omega
  have c0 : w.cell? ⟨g, 3, none⟩ = some (.int .i64 hn) := hb.cell 3
  have c1 : w.cell? ⟨g, 4, none⟩ = some (.int .i64 hd) := hb.cell 4
  have c2 : w.cell? ⟨g, 5, none⟩ = some (.bool hc) := hb.cell 5
  have hl := hb.lt
  have HB := Lib.hid hb
  clear hb
  go_enter Try.func101, Try.ntmps101
  go_wp2
  refine region_cls (fun w' => w'.cell? ⟨g, 3, none⟩ = some (.int .i64 hn) ∧ w'.cell? ⟨g, 4, none⟩ = some (.int .i64 hd) ∧ w'.cell? ⟨g, 5, none⟩ = some (.bool hc) ∧ w'.cell? ⟨w.heap.size, 0, none⟩ = some (.int .i64 (n)) ∧ w'.cell? ⟨w.heap.size, 1, none⟩ = some (.int .i64 (d)) ∧ w'.cell? ⟨w.heap.size, 2, none⟩ = some (.bool closed) ∧ Since w w') (by kernel_rfl) (by kernel_rfl) (by (repeat' refine And.intro ?_ ?_) <;> first | (simp (maxDischargeDepth := 9) [c0, c1, c2, hl,  cSetS, cSetO, cellNew, World.cell?_alloc_some, cellDrew]; done) | (repeat (first | with_reducible assumption | with_reducible exact Since.rfl_ _ | refine Since.setCell ?_ (by (try dsimp only); omega) _ | refine Since.alloc ?_ _ | refine Since.drew ?_))) ?_
  repeat (go_big_quiet_step ((first | (intro hC; go_at_call 57; refine (cmp_any _ _ _ _ _ _ _).mono ?_; rintro e w' ⟨rfl, hb⟩; refine ⟨rfl, ?_⟩; have k1 := keepC hb; have k2 := keepS hb; have hC := hC.out; (try dsimp only at hC); simp [Cls, hC, k1, k2]) | (intro hC; have hC := hC.out; (try simp only [hC, Result.andThen]); first | exact ⟨True.intro, rfl⟩ | exact ⟨rfl, rfl⟩ | rfl))))
  refine cls_end ?_
  rintro w1 ⟨d0, d1, d2, e0, e1, e2, hs⟩
  have hb1 := hs.blk HB.out
  have f0 := hb1.frozen 3
  have f1 := hb1.frozen 4
  have f2 := hb1.frozen 5
  have HB1 := Lib.hid hb1
  have HS := Lib.hid hs
  clear HB hb1 hs
  go_wp2
  go_end0
  exact ⟨rfl, HB1.out, HS.out.only g⟩

theorem most_nA (g : Nat) (ln ld hn hd n d : Int) (lc hc closed : Bool) (w : World) (hb : Blk w g 78 (part6 ln ld lc hn hd hc)) (hd0 : d < 0) (h1 : bndCmp (wrap64 (-n)) (wrap64 (-d)) hn hd < 0) :
    Calls Try.prog 101 #[.pointer (some ⟨g, 0, none⟩), .int .i64 n, .int .i64 d, .bool closed] w fun e w' => e = .returned (.tuple #[]) ∧ Blk w' g 78 (part6 ln ld lc (wrap64 (-n)) (wrap64 (-d)) closed) ∧ Only g w w' := by
  have c0 : w.cell? ⟨g, 3, none⟩ = some (.int .i64 hn) := hb.cell 3
  have c1 : w.cell? ⟨g, 4, none⟩ = some (.int .i64 hd) := hb.cell 4
  have c2 : w.cell? ⟨g, 5, none⟩ = some (.bool hc) := hb.cell 5
  have hl := hb.lt
  have HB := Lib.hid hb
  clear hb
  go_enter Try.func101, Try.ntmps101
  go_wp2
  refine region_cls (fun w' => w'.cell? ⟨g, 3, none⟩ = some (.int .i64 hn) ∧ w'.cell? ⟨g, 4, none⟩ = some (.int .i64 hd) ∧ w'.cell? ⟨g, 5, none⟩ = some (.bool hc) ∧ w'.cell? ⟨w.heap.size, 0, none⟩ = some (.int .i64 (wrap64 (-n))) ∧ w'.cell? ⟨w.heap.size, 1, none⟩ = some (.int .i64 (wrap64 (-d))) ∧ w'.cell? ⟨w.heap.size, 2, none⟩ = some (.bool closed) ∧ Since w w') (by kernel_rfl) (by kernel_rfl) (by (repeat' refine And.intro ?_ ?_) <;> first | (simp (maxDischargeDepth := 9) [c0, c1, c2, hl,  cSetS, cSetO, cellNew, World.cell?_alloc_some, cellDrew]; done) | (repeat (first | with_reducible assumption | with_reducible exact Since.rfl_ _ | refine Since.setCell ?_ (by (try dsimp only); omega) _ | refine Since.alloc ?_ _ | refine Since.drew ?_))) ?_
  repeat (go_big_quiet_step ((first | (intro hC; go_at_call 57; refine (cmp_any _ _ _ _ _ _ _).mono ?_; rintro e w' ⟨rfl, hb⟩; refine ⟨rfl, ?_⟩; have k1 := keepC hb; have k2 := keepS hb; have hC := hC.out; (try dsimp only at hC); simp [Cls, hC, k1, k2]) | (intro hC; have hC := hC.out; (try simp only [hC, Result.andThen]); first | exact ⟨True.intro, rfl⟩ | exact ⟨rfl, rfl⟩ | rfl))))
  refine cls_end ?_
  rintro w1 ⟨d0, d1, d2, e0, e1, e2, hs⟩
  have hb1 := hs.blk HB.out
  have f0 := hb1.frozen 3
  have f1 := hb1.frozen 4
  have f2 := hb1.frozen 5
  have HB1 := Lib.hid hb1
  have HS := Lib.hid hs
  clear HB hb1 hs
  go_wp2
  go_end0
  exact ⟨rfl, ((HB1.out.set_ 3 _).set_ 4 _).set_ 5 _, (((HS.out.only g).setCell (.inl rfl) _).setCell (.inl rfl) _).setCell (.inl rfl) _⟩

theorem most_nB (g : Nat) (ln ld hn hd n d : Int) (lc hc : Bool) (w : World) (hb : Blk w g 78 (part6 ln ld lc hn hd hc)) (hd0 : d < 0) (h1 : bndCmp (wrap64 (-n)) (wrap64 (-d)) hn hd = 0) :
    Calls Try.prog 101 #[.pointer (some ⟨g, 0, none⟩), .int .i64 n, .int .i64 d, .bool false] w fun e w' => e = .returned (.tuple #[]) ∧ Blk w' g 78 (part6 ln ld lc (wrap64 (-n)) (wrap64 (-d)) false) ∧ Only g w w' := by
  have c0 : w.cell? ⟨g, 3, none⟩ = some (.int .i64 hn) := hb.cell 3
  have c1 : w.cell? ⟨g, 4, none⟩ = some (.int .i64 hd) := hb.cell 4
  have c2 : w.cell? ⟨g, 5, none⟩ = some (.bool hc) := hb.cell 5
  have hl := hb.lt
  have HB := Lib.hid hb
  clear hb
  go_enter Try.func101, Try.ntmps101
  go_wp2
  refine region_cls (fun w' => w'.cell? ⟨g, 3, none⟩ = some (.int .i64 hn) ∧ w'.cell? ⟨g, 4, none⟩ = some (.int .i64 hd) ∧ w'.cell? ⟨g, 5, none⟩ = some (.bool hc) ∧ w'.cell? ⟨w.heap.size, 0, none⟩ = some (.int .i64 (wrap64 (-n))) ∧ w'.cell? ⟨w.heap.size, 1, none⟩ = some (.int .i64 (wrap64 (-d))) ∧ w'.cell? ⟨w.heap.size, 2, none⟩ = some (.bool false) ∧ Since w w') (by kernel_rfl) (by kernel_rfl) (by (repeat' refine And.intro ?_ ?_) <;> first | (simp (maxDischargeDepth := 9) [c0, c1, c2, hl,  cSetS, cSetO, cellNew, World.cell?_alloc_some, cellDrew]; done) | (repeat (first | with_reducible assumption | with_reducible exact Since.rfl_ _ | refine Since.setCell ?_ (by (try dsimp only); omega) _ | refine Since.alloc ?_ _ | refine Since.drew ?_))) ?_
  repeat (go_big_quiet_step ((first | (intro hC; go_at_call 57; refine (cmp_any _ _ _ _ _ _ _).mono ?_; rintro e w' ⟨rfl, hb⟩; refine ⟨rfl, ?_⟩; have k1 := keepC hb; have k2 := keepS hb; have hC := hC.out; (try dsimp only at hC); simp [Cls, hC, k1, k2]) | (intro hC; have hC := hC.out; (try simp only [hC, Result.andThen]); first | exact ⟨True.intro, rfl⟩ | exact ⟨rfl, rfl⟩ | rfl))))
  refine cls_end ?_
  rintro w1 ⟨d0, d1, d2, e0, e1, e2, hs⟩
  have hb1 := hs.blk HB.out
  have f0 := hb1.frozen 3
  have f1 := hb1.frozen 4
  have f2 := hb1.frozen 5
  have HB1 := Lib.hid hb1
  have HS := Lib.hid hs
  clear HB hb1 hs
  go_wp2
  go_end0
  exact ⟨rfl, ((HB1.out.set_ 3 _).set_ 4 _).set_ 5 _, (((HS.out.only g).setCell (.inl rfl) _).setCell (.inl rfl) _).setCell (.inl rfl) _⟩

theorem most_nC (g : Nat) (ln ld hn hd n d : Int) (lc hc : Bool) (w : World) (hb : Blk w g 78 (part6 ln ld lc hn hd hc)) (hd0 : d < 0) (h1 : bndCmp (wrap64 (-n)) (wrap64 (-d)) hn hd = 0) :
    Calls Try.prog 101 #[.pointer (some ⟨g, 0, none⟩), .int .i64 n, .int .i64 d, .bool true] w fun e w' => e = .returned (.tuple #[]) ∧ Blk w' g 78 (part6 ln ld lc hn hd hc) ∧ Only g w w' := by
  have c0 : w.cell? ⟨g, 3, none⟩ = some (.int .i64 hn) := hb.cell 3
  have c1 : w.cell? ⟨g, 4, none⟩ = some (.int .i64 hd) := hb.cell 4
  have c2 : w.cell? ⟨g, 5, none⟩ = some (.bool hc) := hb.cell 5
  have hl := hb.lt
  have HB := Lib.hid hb
  clear hb
  go_enter Try.func101, Try.ntmps101
  go_wp2
  refine region_cls (fun w' => w'.cell? ⟨g, 3, none⟩ = some (.int .i64 hn) ∧ w'.cell? ⟨g, 4, none⟩ = some (.int .i64 hd) ∧ w'.cell? ⟨g, 5, none⟩ = some (.bool hc) ∧ w'.cell? ⟨w.heap.size, 0, none⟩ = some (.int .i64 (wrap64 (-n))) ∧ w'.cell? ⟨w.heap.size, 1, none⟩ = some (.int .i64 (wrap64 (-d))) ∧ w'.cell? ⟨w.heap.size, 2, none⟩ = some (.bool true) ∧ Since w w') (by kernel_rfl) (by kernel_rfl) (by (repeat' refine And.intro ?_ ?_) <;> first | (simp (maxDischargeDepth := 9) [c0, c1, c2, hl,  cSetS, cSetO, cellNew, World.cell?_alloc_some, cellDrew]; done) | (repeat (first | with_reducible assumption | with_reducible exact Since.rfl_ _ | refine Since.setCell ?_ (by (try dsimp only); omega) _ | refine Since.alloc ?_ _ | refine Since.drew ?_))) ?_
  repeat (go_big_quiet_step ((first | (intro hC; go_at_call 57; refine (cmp_any _ _ _ _ _ _ _).mono ?_; rintro e w' ⟨rfl, hb⟩; refine ⟨rfl, ?_⟩; have k1 := keepC hb; have k2 := keepS hb; have hC := hC.out; (try dsimp only at hC); simp [Cls, hC, k1, k2]) | (intro hC; have hC := hC.out; (try simp only [hC, Result.andThen]); first | exact ⟨True.intro, rfl⟩ | exact ⟨rfl, rfl⟩ | rfl))))
  refine cls_end ?_
  rintro w1 ⟨d0, d1, d2, e0, e1, e2, hs⟩
  have hb1 := hs.blk HB.out
  have f0 := hb1.frozen 3
  have f1 := hb1.frozen 4
  have f2 := hb1.frozen 5
  have HB1 := Lib.hid hb1
  have HS := Lib.hid hs
  clear HB hb1 hs
  go_wp2
  go_end0
  exact ⟨rfl, HB1.out, HS.out.only g⟩

theorem most_nD (g : Nat) (ln ld hn hd n d : Int) (lc hc closed : Bool) (w : World) (hb : Blk w g 78 (part6 ln ld lc hn hd hc)) (hd0 : d < 0) (h1 : 0 < bndCmp (wrap64 (-n)) (wrap64 (-d)) hn hd) :
    Calls Try.prog 101 #[.pointer (some ⟨g, 0, none⟩), .int .i64 n, .int .i64 d, .bool closed] w fun e w' => e = .returned (.tuple #[]) ∧ Blk w' g 78 (part6 ln ld lc hn hd hc) ∧ Only g w w' := by
  have hz : (bndCmp (wrap64 (-n)) (wrap64 (-d)) hn hd == 0) = false := by rw [beq_eq_false_iff_ne]; omega
  have hz1 : decide (bndCmp (wrap64 (-n)) (wrap64 (-d)) hn hd < 0) = false := by rw [decide_eq_false_iff_not]; omega
  have c0 : w.cell? ⟨g, 3, none⟩ = some (.int .i64 hn) := hb.cell 3
  have c1 : w.cell? ⟨g, 4, none⟩ = some (.int .i64 hd) := hb.cell 4
  have c2 : w.cell? ⟨g, 5, none⟩ = some (.bool hc) := hb.cell 5
  have hl := hb.lt
  have HB := Lib.hid hb
  clear hb
  go_enter Try.func101, Try.ntmps101
  go_wp2
  refine region_cls (fun w' => w'.cell? ⟨g, 3, none⟩ = some (.int .i64 hn) ∧ w'.cell? ⟨g, 4, none⟩ = some (.int .i64 hd) ∧ w'.cell? ⟨g, 5, none⟩ = some (.bool hc) ∧ w'.cell? ⟨w.heap.size, 0, none⟩ = some (.int .i64 (wrap64 (-n))) ∧ w'.cell? ⟨w.heap.size, 1, none⟩ = some (.int .i64 (wrap64 (-d))) ∧ w'.cell? ⟨w.heap.size, 2, none⟩ = some (.bool closed) ∧ Since w w') (by kernel_rfl) (by kernel_rfl) (by (repeat' refine And.intro ?_ ?_) <;> first | (simp (maxDischargeDepth := 9) [c0, c1, c2, hl,  cSetS, cSetO, cellNew, World.cell?_alloc_some, cellDrew]; done) | (repeat (first | with_reducible assumption | with_reducible exact Since.rfl_ _ | refine Since.setCell ?_ (by (try dsimp only); omega) _ | refine Since.alloc ?_ _ | refine Since.drew ?_))) ?_
  repeat (go_big_quiet_step ((first | (intro hC; go_at_call 57; refine (cmp_any _ _ _ _ _ _ _).mono ?_; rintro e w' ⟨rfl, hb⟩; refine ⟨rfl, ?_⟩; have k1 := keepC hb; have k2 := keepS hb; have hC := hC.out; (try dsimp only at hC); simp [Cls, hC, k1, k2]) | (intro hC; have hC := hC.out; (try simp only [hC, Result.andThen]); first | exact ⟨True.intro, rfl⟩ | exact ⟨rfl, rfl⟩ | rfl))))
  refine cls_end ?_
  rintro w1 ⟨d0, d1, d2, e0, e1, e2, hs⟩
  have hb1 := hs.blk HB.out
  have f0 := hb1.frozen 3
  have f1 := hb1.frozen 4
  have f2 := hb1.frozen 5
  have HB1 := Lib.hid hb1
  have HS := Lib.hid hs
  clear HB hb1 hs
  go_wp2
  go_end0
  exact ⟨rfl, HB1.out, HS.out.only g⟩

end Go.Proofs.Ytcckekdfeeghaaa
