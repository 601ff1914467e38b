/-
  Walks of the reference of Meets: near, sign, spot.in, the closures. Conditions: bounds of the numbers.
-/
import Derived.Test.YtcckekdfeeghaaaHotB
namespace Go.Proofs.Ytcckekdfeeghaaa
set_option linter.unusedSimpArgs false
set_option linter.unusedVariables false
open Go.RowKit Go.BigFrame
attribute [local go_sem] max2_int min2_int max_two min_two

theorem mul_bd {a b : Int} {A B : Nat} (ha : a.natAbs ≤ A) (hb : b.natAbs ≤ B) : (a * b).natAbs ≤ A * B := by rw [Int.natAbs_mul]; exact Nat.mul_le_mul ha hb
theorem wrap_id {x : Int} (h : x.natAbs ≤ 4611686018427387904) : wrap64 x = x := by unfold wrap64; omega

theorem Near_any (x y : Int) (w : World) : Calls Try.prog 58 #[.agg #[.int .i64 x, .int .i64 y]] w fun e w' => e = .returned (.agg #[.int .i64 (clampI x), .int .i64 (clampI y)]) ∧ Below w.heap.size w w' := by
  have h1 : min (max x (-1048576)) 1048576 = clampI x := by unfold clampI; omega
  have h2 : min (max y (-1048576)) 1048576 = clampI y := by unfold clampI; omega
  go_enter Try.func58, Try.ntmps58
  go_wp2
  exact bodyPost_ret (v := .agg #[.int .i64 (clampI x), .int .i64 (clampI y)]) (by simp [results, Try.results58, go_sem]) rfl ⟨rfl, ((Since.rfl_ w).alloc _).alloc _⟩

def sgn (n : Int) : Int := if 0 < n then 1 else if n < 0 then -1 else 0
theorem sign_any (n : Int) (w : World) : Calls Try.prog 60 #[.int .i64 n] w fun e w' => e = .returned (.int .i64 (sgn n)) ∧ w = w' := by
  go_enter Try.func60, Try.ntmps60
  go_wp2
  all_goals (go_ret; exact ⟨ret_int (by unfold sgn; (repeat' split) <;> omega), rfl⟩)

def nearB (n d at_ : Int) : Bool := decide ((2 * at_ - 1) * d ≤ n) && decide (n < (2 * at_ + 1) * d)
theorem near_any (n d at_ : Int) (w : World) (hd : d.natAbs ≤ 2097152) (ha : at_.natAbs ≤ 2097152) :
    Calls Try.prog 62 #[.int .i64 n, .int .i64 d, .int .i64 at_] w fun e w' => e = .returned (.bool (nearB n d at_)) ∧ w = w' := by
  have h1 : wrap64 ((2 * at_ - 1) * d) = (2 * at_ - 1) * d := wrap_id (Nat.le_trans (mul_bd (A := 4194305) (by omega) hd) (by decide))
  have h2 : wrap64 ((2 * at_ + 1) * d) = (2 * at_ + 1) * d := wrap_id (Nat.le_trans (mul_bd (A := 4194305) (by omega) hd) (by decide))
  have b1 : -4611686018427387904 ≤ 2 * at_ := by omega
  have b2 : 2 * at_ ≤ 4611686018427387904 := by omega
  have HF : Hid (nearB n d at_ = (decide ((2 * at_ - 1) * d ≤ n) && decide (n < (2 * at_ + 1) * d))) := rfl
  cases g1 : decide ((2 * at_ - 1) * d ≤ n)
  all_goals
    go_enter Try.func62, Try.ntmps62
    go_wp2
    go_ret
    exact ⟨ret_bool (by rw [HF.out, g1]; simp), rfl⟩

/-- A spot: x, y over d. -/
abbrev Spt := Int × Int × Int
def sptV (s : Spt) : List Value := [.int .i64 s.1, .int .i64 s.2.1, .int .i64 s.2.2]
def inB (s : Spt) (px py : Int) : Bool := nearB s.1 s.2.2 px && nearB s.2.1 s.2.2 py

theorem in_any (s : Spt) (px py : Int) (w : World) (hd : s.2.2.natAbs ≤ 2097152) (hx : px.natAbs ≤ 2097152) (hy : py.natAbs ≤ 2097152) :
    Calls Try.prog 65 #[.agg #[.int .i64 s.1, .int .i64 s.2.1, .int .i64 s.2.2], .agg #[.int .i64 px, .int .i64 py]] w fun e w' => e = .returned (.bool (inB s px py)) ∧ Since w w' := by
  obtain ⟨x, y, d⟩ := s
  have HF : Hid (inB (x, y, d) px py = (nearB x d px && nearB y d py)) := rfl
  cases h : nearB x d px
  all_goals
    go_enter Try.func65, Try.ntmps65
    go_wp2_with fail
    refine (near_any _ _ _ _ hd hx).mono ?_
    rintro e w' ⟨rfl, rfl⟩
    go_wp2_with (go_at_call 62; refine (near_any _ _ _ _ hd hy).mono ?_; rintro e w' ⟨rfl, rfl⟩)
    go_ret
    exact ⟨ret_bool (by rw [HF.out, h]; simp), ((Since.rfl_ w).alloc _).alloc _⟩

/-- Where the segment's line has the coordinate x. -/
def atB (x ax bx dx : Int) : Bool := if dx = 0 then false else decide (¬ 0 < (x - 2 * ax) * (x - 2 * bx))
def atS (x ax ay dx dy : Int) : Spt := (x * max dx (-dx), 2 * ay * max dx (-dx) + (x - 2 * ax) * dy * sgn dx, max dx (-dx))

def atT (x ax ay dx dy : Int) : Spt := (2 * ay * max dx (-dx) + (x - 2 * ax) * dy * sgn dx, x * max dx (-dx), max dx (-dx))
theorem sgn_bd (n : Int) : (sgn n).natAbs ≤ 1 := by unfold sgn; (repeat' split) <;> omega

/-- What a closure of the reference returns: a spot, and whether there is one. -/
def AtPost (b : Bool) (t : Spt) (w : World) (e : Ending) (w' : World) : Prop := ∃ s : Spt, e = .returned (.tuple #[.agg #[.int .i64 s.1, .int .i64 s.2.1, .int .i64 s.2.2], .bool b]) ∧ (b = true → s = t) ∧ Since w w'

theorem atX_any (x ax ay bx by_ dx dy : Int) (gx ga gb gy : Nat) (w : World) (hx : x.natAbs ≤ 4194304) (h1 : ax.natAbs ≤ 1048576) (h2 : ay.natAbs ≤ 1048576) (h3 : bx.natAbs ≤ 1048576) (h5 : dx.natAbs ≤ 2097152) (h6 : dy.natAbs ≤ 2097152)
    (c1 : w.cell? ⟨gx, 0, none⟩ = some (.int .i64 dx)) (c2 : w.cell? ⟨ga, 0, none⟩ = some (.int .i64 ax)) (c3 : w.cell? ⟨ga, 1, none⟩ = some (.int .i64 ay)) (c4 : w.cell? ⟨gb, 0, none⟩ = some (.int .i64 bx)) (c5 : w.cell? ⟨gy, 0, none⟩ = some (.int .i64 dy)) :
    Calls Try.prog 59 #[.int .i64 x, .pointer (some ⟨gx, 0, none⟩), .pointer (some ⟨ga, 0, none⟩), .pointer (some ⟨gb, 0, none⟩), .pointer (some ⟨gy, 0, none⟩)] w (AtPost (atB x ax bx dx) (atS x ax ay dx dy) w) := by
  have e1 : wrap64 ((x - 2 * ax) * (x - 2 * bx)) = (x - 2 * ax) * (x - 2 * bx) := wrap_id (Nat.le_trans (mul_bd (A := 6291456) (B := 6291456) (by omega) (by omega)) (by decide))
  have e2 : wrap64 (x * max dx (-dx)) = x * max dx (-dx) := wrap_id (Nat.le_trans (mul_bd (B := 2097152) hx (by omega)) (by decide))
  have m3 : (2 * ay * max dx (-dx)).natAbs ≤ 4398046511104 := Nat.le_trans (mul_bd (A := 2097152) (B := 2097152) (by omega) (by omega)) (by decide)
  have e3 : wrap64 (2 * ay * max dx (-dx)) = 2 * ay * max dx (-dx) := wrap_id (Nat.le_trans m3 (by decide))
  have m4 : ((x - 2 * ax) * dy).natAbs ≤ 13194139533312 := Nat.le_trans (mul_bd (A := 6291456) (by omega) h6) (by decide)
  have e4 : wrap64 ((x - 2 * ax) * dy) = (x - 2 * ax) * dy := wrap_id (Nat.le_trans m4 (by decide))
  have m5 : ((x - 2 * ax) * dy * sgn dx).natAbs ≤ 13194139533312 := Nat.le_trans (mul_bd m4 (sgn_bd dx)) (by decide)
  have e5 : wrap64 ((x - 2 * ax) * dy * sgn dx) = (x - 2 * ax) * dy * sgn dx := wrap_id (Nat.le_trans m5 (by decide))
  have e6 : wrap64 (2 * ay * max dx (-dx) + (x - 2 * ax) * dy * sgn dx) = 2 * ay * max dx (-dx) + (x - 2 * ax) * dy * sgn dx := wrap_id (by omega)
  have lx : gx < w.heap.size := World.block_lt_of_cell? w _ c1
  have la : ga < w.heap.size := World.block_lt_of_cell? w _ c2
  have lb : gb < w.heap.size := World.block_lt_of_cell? w _ c4
  have ly : gy < w.heap.size := World.block_lt_of_cell? w _ c5
  have q1 : -4194304 ≤ x ∧ x ≤ 4194304 := by omega
  have q2 : -1048576 ≤ ax ∧ ax ≤ 1048576 := by omega
  have q3 : -1048576 ≤ ay ∧ ay ≤ 1048576 := by omega
  have q4 : -1048576 ≤ bx ∧ bx ≤ 1048576 := by omega
  have q5 : -2097152 ≤ dx ∧ dx ≤ 2097152 := by omega
  have q6 : -2097152 ≤ dy ∧ dy ≤ 2097152 := by omega
  clear hx h1 h2 h3 h5 h6 m3 m4 m5
  by_cases hz : dx = 0
  · subst hz
    have HF : Hid (atB x ax bx 0 = false) := rfl
    go_enter Try.func59, Try.ntmps59
    go_wp2
    refine bodyPost_ret (v := .tuple #[.agg #[.int .i64 0, .int .i64 0, .int .i64 0], .bool false]) (by simp [results, Try.results59, go_sem]) rfl ⟨(0, 0, 0), by rw [HF.out], by rw [HF.out]; simp, (Since.rfl_ w).alloc _⟩
  · have hzb : (dx == 0) = false := by rw [beq_eq_false_iff_ne]; exact hz
    cases g : decide (0 < (x - 2 * ax) * (x - 2 * bx))
    · have HF : Hid (atB x ax bx dx = true) := by show _ = _; unfold atB; rw [if_neg hz, decide_not, g]; rfl
      clear hz
      go_enter Try.func59, Try.ntmps59
      go_wp2
      refine region_tail 21 (fun w' => w'.cell? ⟨gx, 0, none⟩ = some (.int .i64 dx) ∧ w'.cell? ⟨ga, 0, none⟩ = some (.int .i64 ax) ∧ w'.cell? ⟨ga, 1, none⟩ = some (.int .i64 ay) ∧ w'.cell? ⟨gy, 0, none⟩ = some (.int .i64 dy) ∧ Since (w.alloc (.cells #[.int .i64 0, .int .i64 0, .int .i64 0] 82)) w') (by kernel_rfl) (by kernel_rfl) (by (repeat' refine And.intro ?_ ?_) <;> first | (simp (maxDischargeDepth := 9) [c1, c2, c3, c5, lx, la, ly,  cSetS, cSetO, cellNew, World.cell?_alloc_some, cellDrew]; done) | (repeat (first | with_reducible assumption | with_reducible exact Since.rfl_ _ | refine Since.setCell ?_ (by (try dsimp only); omega) _ | refine Since.alloc ?_ _ | refine Since.drew ?_))) ?_
      simp only [List.take_succ_cons, List.take_zero, List.drop_succ_cons, List.drop_zero]
      repeat (go_big_quiet_step ((first | (intro hC; go_at_call 60; refine (sign_any _ _).mono ?_; rintro e w' ⟨rfl, rfl⟩; exact ⟨rfl, hC⟩) | (intro hC; have hC := hC.out; (try simp only [hC, Result.andThen]); first | exact ⟨True.intro, rfl⟩ | exact ⟨rfl, rfl⟩ | rfl))))
      refine tail_end ?_
      rintro w1 ⟨-, -, -, -, hs⟩
      have hb := hs.blk (Blk.new w _ _)
      have f0 := hb.frozen 0
      have f1 := hb.frozen 1
      have f2 := hb.frozen 2
      have d0 : w1.cell? ⟨w.heap.size, 0, none⟩ = some (.int .i64 0) := hb.cell 0
      have d1 : w1.cell? ⟨w.heap.size, 1, none⟩ = some (.int .i64 0) := hb.cell 1
      have d2 : w1.cell? ⟨w.heap.size, 2, none⟩ = some (.int .i64 0) := hb.cell 2
      have HS := Lib.hid (((Since.rfl_ w).alloc _).trans hs)
      clear hb hs c1 c2 c3 c4 c5 e1
      go_wp2
      refine bodyPost_ret (v := .tuple #[.agg #[.int .i64 (atS x ax ay dx dy).1, .int .i64 (atS x ax ay dx dy).2.1, .int .i64 (atS x ax ay dx dy).2.2], .bool true]) (by simp [results, Try.results59, go_sem, atS, cSetS, cSetO, d0, d1, d2]) rfl ⟨atS x ax ay dx dy, by rw [HF.out], fun _ => rfl, ((HS.out.setCell (Nat.le_refl _) _).setCell (Nat.le_refl _) _).setCell (Nat.le_refl _) _⟩
    · have HF : Hid (atB x ax bx dx = false) := by show _ = _; unfold atB; rw [if_neg hz, decide_not, g]; rfl
      clear hz
      go_enter Try.func59, Try.ntmps59
      go_wp2
      refine bodyPost_ret (v := .tuple #[.agg #[.int .i64 0, .int .i64 0, .int .i64 0], .bool false]) (by simp [results, Try.results59, go_sem]) rfl ⟨(0, 0, 0), by rw [HF.out], by rw [HF.out]; simp, (Since.rfl_ w).alloc _⟩

theorem atY_any (x ax ay bx by_ dx dy : Int) (gx ga gb gy : Nat) (w : World) (hx : x.natAbs ≤ 4194304) (h1 : ax.natAbs ≤ 1048576) (h2 : ay.natAbs ≤ 1048576) (h3 : bx.natAbs ≤ 1048576) (h5 : dx.natAbs ≤ 2097152) (h6 : dy.natAbs ≤ 2097152)
    (c1 : w.cell? ⟨gx, 0, none⟩ = some (.int .i64 dx)) (c2 : w.cell? ⟨ga, 1, none⟩ = some (.int .i64 ax)) (c3 : w.cell? ⟨ga, 0, none⟩ = some (.int .i64 ay)) (c4 : w.cell? ⟨gb, 1, none⟩ = some (.int .i64 bx)) (c5 : w.cell? ⟨gy, 0, none⟩ = some (.int .i64 dy)) :
    Calls Try.prog 61 #[.int .i64 x, .pointer (some ⟨gx, 0, none⟩), .pointer (some ⟨ga, 0, none⟩), .pointer (some ⟨gb, 0, none⟩), .pointer (some ⟨gy, 0, none⟩)] w (AtPost (atB x ax bx dx) (atT x ax ay dx dy) w) := by
  have e1 : wrap64 ((x - 2 * ax) * (x - 2 * bx)) = (x - 2 * ax) * (x - 2 * bx) := wrap_id (Nat.le_trans (mul_bd (A := 6291456) (B := 6291456) (by omega) (by omega)) (by decide))
  have e2 : wrap64 (x * max dx (-dx)) = x * max dx (-dx) := wrap_id (Nat.le_trans (mul_bd (B := 2097152) hx (by omega)) (by decide))
  have m3 : (2 * ay * max dx (-dx)).natAbs ≤ 4398046511104 := Nat.le_trans (mul_bd (A := 2097152) (B := 2097152) (by omega) (by omega)) (by decide)
  have e3 : wrap64 (2 * ay * max dx (-dx)) = 2 * ay * max dx (-dx) := wrap_id (Nat.le_trans m3 (by decide))
  have m4 : ((x - 2 * ax) * dy).natAbs ≤ 13194139533312 := Nat.le_trans (mul_bd (A := 6291456) (by omega) h6) (by decide)
  have e4 : wrap64 ((x - 2 * ax) * dy) = (x - 2 * ax) * dy := wrap_id (Nat.le_trans m4 (by decide))
  have m5 : ((x - 2 * ax) * dy * sgn dx).natAbs ≤ 13194139533312 := Nat.le_trans (mul_bd m4 (sgn_bd dx)) (by decide)
  have e5 : wrap64 ((x - 2 * ax) * dy * sgn dx) = (x - 2 * ax) * dy * sgn dx := wrap_id (Nat.le_trans m5 (by decide))
  have e6 : wrap64 (2 * ay * max dx (-dx) + (x - 2 * ax) * dy * sgn dx) = 2 * ay * max dx (-dx) + (x - 2 * ax) * dy * sgn dx := wrap_id (by omega)
  have lx : gx < w.heap.size := World.block_lt_of_cell? w _ c1
  have la : ga < w.heap.size := World.block_lt_of_cell? w _ c2
  have lb : gb < w.heap.size := World.block_lt_of_cell? w _ c4
  have ly : gy < w.heap.size := World.block_lt_of_cell? w _ c5
  have q1 : -4194304 ≤ x ∧ x ≤ 4194304 := by omega
  have q2 : -1048576 ≤ ax ∧ ax ≤ 1048576 := by omega
  have q3 : -1048576 ≤ ay ∧ ay ≤ 1048576 := by omega
  have q4 : -1048576 ≤ bx ∧ bx ≤ 1048576 := by omega
  have q5 : -2097152 ≤ dx ∧ dx ≤ 2097152 := by omega
  have q6 : -2097152 ≤ dy ∧ dy ≤ 2097152 := by omega
  clear hx h1 h2 h3 h5 h6 m3 m4 m5
  by_cases hz : dx = 0
  · subst hz
    have HF : Hid (atB x ax bx 0 = false) := rfl
    go_enter Try.func61, Try.ntmps61
    go_wp2
    refine bodyPost_ret (v := .tuple #[.agg #[.int .i64 0, .int .i64 0, .int .i64 0], .bool false]) (by simp [results, Try.results61, go_sem]) rfl ⟨(0, 0, 0), by rw [HF.out], by rw [HF.out]; simp, (Since.rfl_ w).alloc _⟩
  · have hzb : (dx == 0) = false := by rw [beq_eq_false_iff_ne]; exact hz
    cases g : decide (0 < (x - 2 * ax) * (x - 2 * bx))
    · have HF : Hid (atB x ax bx dx = true) := by show _ = _; unfold atB; rw [if_neg hz, decide_not, g]; rfl
      clear hz
      go_enter Try.func61, Try.ntmps61
      go_wp2
      refine region_tail 21 (fun w' => w'.cell? ⟨gx, 0, none⟩ = some (.int .i64 dx) ∧ w'.cell? ⟨ga, 1, none⟩ = some (.int .i64 ax) ∧ w'.cell? ⟨ga, 0, none⟩ = some (.int .i64 ay) ∧ w'.cell? ⟨gy, 0, none⟩ = some (.int .i64 dy) ∧ Since (w.alloc (.cells #[.int .i64 0, .int .i64 0, .int .i64 0] 82)) w') (by kernel_rfl) (by kernel_rfl) (by (repeat' refine And.intro ?_ ?_) <;> first | (simp (maxDischargeDepth := 9) [c1, c2, c3, c5, lx, la, ly,  cSetS, cSetO, cellNew, World.cell?_alloc_some, cellDrew]; done) | (repeat (first | with_reducible assumption | with_reducible exact Since.rfl_ _ | refine Since.setCell ?_ (by (try dsimp only); omega) _ | refine Since.alloc ?_ _ | refine Since.drew ?_))) ?_
      simp only [List.take_succ_cons, List.take_zero, List.drop_succ_cons, List.drop_zero]
      repeat (go_big_quiet_step ((first | (intro hC; go_at_call 60; refine (sign_any _ _).mono ?_; rintro e w' ⟨rfl, rfl⟩; exact ⟨rfl, hC⟩) | (intro hC; have hC := hC.out; (try simp only [hC, Result.andThen]); first | exact ⟨True.intro, rfl⟩ | exact ⟨rfl, rfl⟩ | rfl))))
      refine tail_end ?_
      rintro w1 ⟨-, -, -, -, hs⟩
      have hb := hs.blk (Blk.new w _ _)
      have f0 := hb.frozen 0
      have f1 := hb.frozen 1
      have f2 := hb.frozen 2
      have d0 : w1.cell? ⟨w.heap.size, 0, none⟩ = some (.int .i64 0) := hb.cell 0
      have d1 : w1.cell? ⟨w.heap.size, 1, none⟩ = some (.int .i64 0) := hb.cell 1
      have d2 : w1.cell? ⟨w.heap.size, 2, none⟩ = some (.int .i64 0) := hb.cell 2
      have HS := Lib.hid (((Since.rfl_ w).alloc _).trans hs)
      clear hb hs c1 c2 c3 c4 c5 e1
      go_wp2
      refine bodyPost_ret (v := .tuple #[.agg #[.int .i64 (atT x ax ay dx dy).1, .int .i64 (atT x ax ay dx dy).2.1, .int .i64 (atT x ax ay dx dy).2.2], .bool true]) (by simp [results, Try.results61, go_sem, atT, cSetS, cSetO, d0, d1, d2]) rfl ⟨atT x ax ay dx dy, by rw [HF.out], fun _ => rfl, ((HS.out.setCell (Nat.le_refl _) _).setCell (Nat.le_refl _) _).setCell (Nat.le_refl _) _⟩
    · have HF : Hid (atB x ax bx dx = false) := by show _ = _; unfold atB; rw [if_neg hz, decide_not, g]; rfl
      clear hz
      go_enter Try.func61, Try.ntmps61
      go_wp2
      refine bodyPost_ret (v := .tuple #[.agg #[.int .i64 0, .int .i64 0, .int .i64 0], .bool false]) (by simp [results, Try.results61, go_sem]) rfl ⟨(0, 0, 0), by rw [HF.out], by rw [HF.out]; simp, (Since.rfl_ w).alloc _⟩

end Go.Proofs.Ytcckekdfeeghaaa
