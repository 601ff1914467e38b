/-
  Walks of point.Ok, box.Ok, clip.round, clip.cut.less and of '==' of points: what each returns. Conditions: bounds of the numbers.
-/
import Derived.Test.YtcckekdfeeghaaaHotR
import Derived.Test.YtcckekdfeeghaaaTail
import Derived.Laws.StructEq
namespace Go.Proofs.Ytcckekdfeeghaaa
set_option linter.unusedSimpArgs false
set_option linter.unusedVariables false
open Go.RowKit Go.BigFrame

theorem hpt : Try.prog.stoodInHeld 23 = false := by kernel_rfl
theorem eqPtS (x y x' y' : Int) (d : Nat) (w : World) : (Op.equalIn (d + 1 + 1) 23 (.agg #[.int .i64 x, .int .i64 y]) (.agg #[.int .i64 x', .int .i64 y'])).run Try.prog w = .ok (x == x' && y == y') w := by
  rw [run_equalIn_struct (P := Try.prog) w (d + 1) 23 _ _ (by simp [Program.fieldsOf, Try.underlying23]) hpt]
  simp only [Program.fieldsOf, Try.underlying23]
  have h1 := run_equalIn_int (P := Try.prog) w d 3 .i64 .i64 x x' Try.underlying3
  have h2 := run_equalIn_int (P := Try.prog) w d 3 .i64 .i64 y y' Try.underlying3
  cases e1 : (x == x') <;> cases e2 : (y == y') <;> simp [Op.eqFields, go_sem, h1, h2, e1, e2]
theorem eqPt (x y x' y' : Int) (w : World) : (binOp .eql 23 (.agg #[.int .i64 x, .int .i64 y]) (.agg #[.int .i64 x', .int .i64 y'])).run Try.prog w = .ok (.bool (x == x' && y == y')) w := by
  have h : (Op.equal 23 (.agg #[.int .i64 x, .int .i64 y]) (.agg #[.int .i64 x', .int .i64 y'])).run Try.prog w = .ok (x == x' && y == y') w := eqPtS x y x' y' 9998 w
  simp only [binOp]
  simp [h]
theorem neqPt (x y x' y' : Int) (w : World) : (binOp .neq 23 (.agg #[.int .i64 x, .int .i64 y]) (.agg #[.int .i64 x', .int .i64 y'])).run Try.prog w = .ok (.bool (!(x == x' && y == y'))) w := by
  have h : (Op.equal 23 (.agg #[.int .i64 x, .int .i64 y]) (.agg #[.int .i64 x', .int .i64 y'])).run Try.prog w = .ok (x == x' && y == y') w := eqPtS x y x' y' 9998 w
  simp only [binOp]
  simp [h]

attribute [local go_sem ↓] eqPt neqPt

/-- A point is valid. -/
def okP (x y : Int) : Bool := decide (-1048576 ≤ x) && decide (x ≤ 1048576) && decide (-1048576 ≤ y) && decide (y ≤ 1048576)
theorem okP_iff {x y : Int} : okP x y = true ↔ (-1048576 ≤ x ∧ x ≤ 1048576) ∧ (-1048576 ≤ y ∧ y ≤ 1048576) := by
  unfold okP; simp only [Bool.and_eq_true, decide_eq_true_eq]; omega
theorem okP_eq (x y : Int) : (x == clampI x && y == clampI y) = okP x y := by
  rw [Bool.eq_iff_iff, okP_iff, Bool.and_eq_true, beq_iff_eq, beq_iff_eq]; unfold clampI; omega

theorem Ok_any (x y : Int) (w : World) : Calls Try.prog 70 #[.agg #[.int .i64 x, .int .i64 y]] w fun e w' => e = .returned (.bool (okP x y)) ∧ Since w w' := by
  go_enter Try.func70, Try.ntmps70
  go_wp2
  refine region_cls (fun w' => w'.cell? ⟨w.heap.size, 0, none⟩ = some (.int .i64 x) ∧ w'.cell? ⟨w.heap.size, 1, none⟩ = some (.int .i64 y) ∧ Since w w') (by kernel_rfl) (by kernel_rfl) (by (repeat' refine And.intro ?_ ?_) <;> first | (simp (maxDischargeDepth := 9) [ cSetS, cSetO, cellNew, World.cell?_alloc_some, cellDrew]; done) | (repeat (first | with_reducible assumption | with_reducible exact Since.rfl_ _ | refine Since.setCell ?_ (by (try dsimp only); omega) _ | refine Since.alloc ?_ _ | refine Since.drew ?_))) ?_
  repeat (go_big_quiet_step ((first | (intro hC; go_at_call 55; refine (Clamp_any _ _ _).mono ?_; rintro e w' ⟨rfl, hb⟩; refine ⟨rfl, ?_⟩; have k1 := keepC hb; have k2 := keepS hb; have hC := hC.out; (try dsimp only at hC); simp [Cls, hC, k1, k2]) | (intro hC; have hC := hC.out; (try simp only [hC, Result.andThen]); first | exact ⟨True.intro, rfl⟩ | exact ⟨rfl, rfl⟩ | rfl))))
  refine cls_end ?_
  rintro w1 ⟨-, -, hs⟩
  have HS := Lib.hid hs
  clear hs
  go_wp2
  go_ret
  exact ⟨ret_bool (okP_eq x y), HS.out⟩

/-- A box is valid. -/
def okB (lx ly hx hy : Int) : Bool := okP lx ly && okP hx hy && decide (lx ≤ hx) && decide (ly ≤ hy)
theorem okB_iff {lx ly hx hy : Int} : okB lx ly hx hy = true ↔ ((-1048576 ≤ lx ∧ lx ≤ 1048576) ∧ (-1048576 ≤ ly ∧ ly ≤ 1048576)) ∧ ((-1048576 ≤ hx ∧ hx ≤ 1048576) ∧ (-1048576 ≤ hy ∧ hy ≤ 1048576)) ∧ lx ≤ hx ∧ ly ≤ hy := by
  unfold okB; rw [Bool.and_eq_true, Bool.and_eq_true, Bool.and_eq_true, okP_iff, okP_iff, decide_eq_true_eq, decide_eq_true_eq]
  simp only [and_assoc]

theorem OkB_any (lx ly hx hy : Int) (w : World) : Calls Try.prog 67 #[.agg #[.int .i64 lx, .int .i64 ly, .int .i64 hx, .int .i64 hy]] w fun e w' => e = .returned (.bool (okB lx ly hx hy)) ∧ Since w w' := by
  have HF : Hid (okB lx ly hx hy = (okP lx ly && okP hx hy && decide (lx ≤ hx) && decide (ly ≤ hy))) := rfl
  cases h1 : okP lx ly
  · go_enter Try.func67, Try.ntmps67
    go_wp2_with fail
    refine (Ok_any _ _ _).mono ?_
    rintro e w1 ⟨rfl, hs⟩
    have HS := Lib.hid (((Since.rfl_ w).alloc _).trans hs)
    clear hs
    go_wp2
    go_ret
    exact ⟨ret_bool (by rw [HF.out, h1]; rfl), HS.out⟩
  · cases h2 : okP hx hy
    · go_enter Try.func67, Try.ntmps67
      go_wp2_with fail
      refine (Ok_any _ _ _).mono ?_
      rintro e w1 ⟨rfl, hs⟩
      have HS := Lib.hid (((Since.rfl_ w).alloc _).trans hs)
      have hb := hs.blk (Blk.new w _ _)
      have c2 : w1.cell? ⟨w.heap.size, 2, none⟩ = some (.int .i64 hx) := hb.cell 2
      have c3 : w1.cell? ⟨w.heap.size, 3, none⟩ = some (.int .i64 hy) := hb.cell 3
      clear hs hb
      go_wp2_with fail
      refine (Ok_any _ _ _).mono ?_
      rintro e w2 ⟨rfl, hs⟩
      have HS2 := Lib.hid (HS.out.trans hs)
      clear hs
      go_wp2
      go_ret
      exact ⟨ret_bool (by rw [HF.out, h1, h2]; rfl), HS2.out⟩
    · cases h3 : decide (lx ≤ hx)
      all_goals
        go_enter Try.func67, Try.ntmps67
        go_wp2_with fail
        refine (Ok_any _ _ _).mono ?_
        rintro e w1 ⟨rfl, hs⟩
        have HS := Lib.hid (((Since.rfl_ w).alloc _).trans hs)
        have hb := hs.blk (Blk.new w _ _)
        have HB := Lib.hid hb
        have c2 : w1.cell? ⟨w.heap.size, 2, none⟩ = some (.int .i64 hx) := hb.cell 2
        have c3 : w1.cell? ⟨w.heap.size, 3, none⟩ = some (.int .i64 hy) := hb.cell 3
        clear hs hb
        go_wp2_with fail
        refine (Ok_any _ _ _).mono ?_
        rintro e w2 ⟨rfl, hs⟩
        have HS2 := Lib.hid (HS.out.trans hs)
        have hb := hs.blk HB.out
        have c0' : w2.cell? ⟨w.heap.size, 0, none⟩ = some (.int .i64 lx) := hb.cell 0
        have c1' : w2.cell? ⟨w.heap.size, 1, none⟩ = some (.int .i64 ly) := hb.cell 1
        have c2' : w2.cell? ⟨w.heap.size, 2, none⟩ = some (.int .i64 hx) := hb.cell 2
        have c3' : w2.cell? ⟨w.heap.size, 3, none⟩ = some (.int .i64 hy) := hb.cell 3
        clear hs hb
        go_wp2
        go_ret
        exact ⟨ret_bool (by rw [HF.out, h1, h2, h3]; simp), HS2.out⟩

/-- n / d rounded, halves up. -/
def rnd (n d : Int) : Int := (2 * n + d) / (2 * d)
theorem tdiv_floor (a b : Int) (hb : 0 < b) : (if a.tmod b < 0 then a.tdiv b - 1 else a.tdiv b) = a / b := by
  have h1 := Int.mul_tdiv_add_tmod a b
  have h2 := Int.tmod_lt_of_pos a hb
  have h3 := Int.lt_tmod_of_pos a hb
  split
  · exact ((Int.ediv_emod_unique (r := a.tmod b + b) (q := a.tdiv b - 1) hb).2 ⟨by rw [Int.mul_sub]; omega, by omega, by omega⟩).1.symm
  · exact ((Int.ediv_emod_unique (r := a.tmod b) (q := a.tdiv b) hb).2 ⟨by omega, by omega, by omega⟩).1.symm

theorem round_any (n d : Int) (w : World) (hn : n.natAbs ≤ 35184372088832) (hd : 0 < d) (hd2 : d ≤ 8388608) :
    Calls Try.prog 77 #[.int .i64 n, .int .i64 d] w fun e w' => e = .returned (.int .i64 (rnd n d)) ∧ w = w' := by
  have hz : ((2 * d : Int) == 0) = false := by rw [beq_eq_false_iff_ne]; omega
  have hq : ((2 * n + d).tdiv (2 * d)).natAbs ≤ (2 * n + d).natAbs := by rw [Int.natAbs_tdiv]; exact Nat.div_le_self _ _
  have hr1 := Int.tmod_lt_of_pos (2 * n + d) (show 0 < 2 * d by omega)
  have hr2 := Int.lt_tmod_of_pos (2 * n + d) (show 0 < 2 * d by omega)
  have b1 : -35184372088832 ≤ n ∧ n ≤ 35184372088832 := by omega
  have b2 : -140737488355328 ≤ (2 * n + d).tdiv (2 * d) ∧ (2 * n + d).tdiv (2 * d) ≤ 140737488355328 := by omega
  have HF := Lib.hid (tdiv_floor (2 * n + d) (2 * d) (by omega))
  clear hn hq
  go_enter Try.func77, Try.ntmps77
  go_wp2
  all_goals (go_ret; exact ⟨ret_int (by have h := HF.out; unfold rnd; rw [← h]; first | rw [if_pos (by assumption)] | rw [if_neg (by omega)]), rfl⟩)

def ltV (n d n' d' : Int) : Bool := decide (n * d' < n' * d)
theorem less_any (n d x y n' d' x' y' : Int) (w : World) (h1 : n.natAbs ≤ 16777216) (h2 : n'.natAbs ≤ 16777216) (h3 : d.natAbs ≤ 16777216) (h4 : d'.natAbs ≤ 16777216) :
    Calls Try.prog 78 #[.agg #[.int .i64 n, .int .i64 d, .int .i64 x, .int .i64 y], .agg #[.int .i64 n', .int .i64 d', .int .i64 x', .int .i64 y']] w fun e w' => e = .returned (.bool (ltV n d n' d')) ∧ Since w w' := by
  have e1 : wrap64 (n * d') = n * d' := wrap_id (Nat.le_trans (mul_bd h1 h4) (by decide))
  have e2 : wrap64 (n' * d) = n' * d := wrap_id (Nat.le_trans (mul_bd h2 h3) (by decide))
  clear h1 h2 h3 h4
  go_enter Try.func78, Try.ntmps78
  go_wp2
  go_ret
  exact ⟨rfl, ((Since.rfl_ w).alloc _).alloc _⟩

end Go.Proofs.Ytcckekdfeeghaaa
