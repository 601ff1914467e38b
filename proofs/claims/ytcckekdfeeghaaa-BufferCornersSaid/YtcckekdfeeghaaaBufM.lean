/-
  Walks of terrref3.On, Less, byPoint, slices.MinFunc. Conditions: bounds of the numbers.
-/
import Derived.Test.YtcckekdfeeghaaaBufL
namespace Go.Proofs.Ytcckekdfeeghaaa
set_option linter.unusedSimpArgs false
set_option linter.unusedVariables false
open Go.RowKit Go.BigFrame
attribute [local go_sem ↓] eqPt neqPt

def onR (a b x : Pt2) : Bool := (crs a b x == 0) && decide (min a.1 b.1 ≤ x.1) && decide (x.1 ≤ max a.1 b.1) && decide (min a.2 b.2 ≤ x.2) && decide (x.2 ≤ max a.2 b.2)
set_option maxHeartbeats 1000000 in
theorem OnR_any {a b x : Pt2} (ha : okP a.1 a.2 = true) (hb : okP b.1 b.2 = true) (hx : okP x.1 x.2 = true) (w : World) :
    Calls Try.prog 91 #[.agg #[.int .i64 a.1, .int .i64 a.2], .agg #[.int .i64 b.1, .int .i64 b.2], .agg #[.int .i64 x.1, .int .i64 x.2]] w fun e w' => e = .returned (.bool (onR a b x)) ∧ Since w w' := by
  have HF : Hid (onR a b x = ((crs a b x == 0) && decide (min a.1 b.1 ≤ x.1) && decide (x.1 ≤ max a.1 b.1) && decide (min a.2 b.2 ≤ x.2) && decide (x.2 ≤ max a.2 b.2))) := rfl
  have HC := Lib.hid (fun w => crossR_any ha hb hx w)
  generalize crs a b x = c at *
  cases h1 : (c == 0) <;> cases h2 : decide (min a.1 b.1 ≤ x.1) <;> cases h3 : decide (x.1 ≤ max a.1 b.1) <;> cases h4 : decide (min a.2 b.2 ≤ x.2) <;> cases h5 : decide (x.2 ≤ max a.2 b.2)
  all_goals
    go_enter Try.func91, Try.ntmps91
    go_wp2_with fail
    refine (HC.out _).mono ?_
    rintro e w1 ⟨rfl, hs⟩
    have ha := hs.blk (((Blk.new w 23 #[.int .i64 a.1, .int .i64 a.2]).alloc _).alloc _)
    have hb := hs.blk ((Blk.new' (w := w.alloc (.cells #[.int .i64 a.1, .int .i64 a.2] 23)) (g := w.heap.size + 1) (t := 23) (cs := #[.int .i64 b.1, .int .i64 b.2]) (by simp)).alloc _)
    have hc := hs.blk (Blk.new' (w := (w.alloc (.cells #[.int .i64 a.1, .int .i64 a.2] 23)).alloc (.cells #[.int .i64 b.1, .int .i64 b.2] 23)) (g := w.heap.size + 1 + 1) (t := 23) (cs := #[.int .i64 x.1, .int .i64 x.2]) (by simp))
    have HS := Lib.hid (Since.trans ((((Since.rfl_ w).alloc _).alloc _).alloc _) hs)
    have a0 : w1.cell? ⟨w.heap.size, 0, none⟩ = some (.int .i64 a.1) := ha.cell 0
    have a1 : w1.cell? ⟨w.heap.size, 1, none⟩ = some (.int .i64 a.2) := ha.cell 1
    have b0 : w1.cell? ⟨w.heap.size + 1, 0, none⟩ = some (.int .i64 b.1) := hb.cell 0
    have b1 : w1.cell? ⟨w.heap.size + 1, 1, none⟩ = some (.int .i64 b.2) := hb.cell 1
    have c0 : w1.cell? ⟨w.heap.size + 1 + 1, 0, none⟩ = some (.int .i64 x.1) := hc.cell 0
    have c1 : w1.cell? ⟨w.heap.size + 1 + 1, 1, none⟩ = some (.int .i64 x.2) := hc.cell 1
    clear ha hb hc hs
    go_wp2_with fail
    go_ret
    exact ⟨ret_bool (by rw [HF.out, h1, h2, h3, h4, h5]; rfl), HS.out⟩

set_option maxHeartbeats 1000000 in
theorem Less_any (a b : Pt2) (w : World) : Calls Try.prog 112 #[.agg #[.int .i64 a.1, .int .i64 a.2], .agg #[.int .i64 b.1, .int .i64 b.2]] w fun e w' => e = .returned (.bool (lxB a b)) ∧ Since w w' := by
  have HF : Hid (lxB a b = (decide (a.1 < b.1) || (decide (a.1 = b.1) && decide (a.2 < b.2)))) := rfl
  have HQ : Hid ((a.1 == b.1) = decide (a.1 = b.1)) := by show _ = _; rw [Bool.eq_iff_iff]; simp
  cases h1 : decide (a.1 < b.1) <;> cases h2 : (a.1 == b.1) <;> cases h3 : decide (a.2 < b.2)
  all_goals
    go_enter Try.func112, Try.ntmps112
    go_wp2
    go_ret
    exact ⟨ret_bool (by rw [HF.out, ← HQ.out, h1, h2, h3]; rfl), ((Since.rfl_ w).alloc _).alloc _⟩
theorem Less_val {a b : Pt2} {c : Bool} (h : lxB a b = c) (w : World) : Calls Try.prog 112 #[.agg #[.int .i64 a.1, .int .i64 a.2], .agg #[.int .i64 b.1, .int .i64 b.2]] w fun e w' => e = .returned (.bool c) ∧ Since w w' := h ▸ Less_any a b w

set_option maxHeartbeats 1000000 in
theorem byPoint_any (a b : Pt2) (w : World) : Calls Try.prog 89 #[.agg #[.int .i64 a.1, .int .i64 a.2], .agg #[.int .i64 b.1, .int .i64 b.2]] w fun e w' => ∃ r : Int, e = .returned (.int .i64 r) ∧ decide (r < 0) = lxB a b ∧ Since w w' := by
  cases h1 : lxB a b
  · cases h2 : lxB b a
    all_goals
      go_enter Try.func89, Try.ntmps89
      go_wp2_with fail
      refine (Less_val h1 _).mono ?_
      rintro e w1 ⟨rfl, hs⟩
      have ha := hs.blk ((Blk.new w 23 #[.int .i64 a.1, .int .i64 a.2]).alloc _)
      have hb := hs.blk (Blk.new' (w := w.alloc (.cells #[.int .i64 a.1, .int .i64 a.2] 23)) (g := w.heap.size + 1) (t := 23) (cs := #[.int .i64 b.1, .int .i64 b.2]) (by simp))
      have HS := Lib.hid (Since.trans (((Since.rfl_ w).alloc _).alloc _) hs)
      have a0 : w1.cell? ⟨w.heap.size, 0, none⟩ = some (.int .i64 a.1) := ha.cell 0
      have a1 : w1.cell? ⟨w.heap.size, 1, none⟩ = some (.int .i64 a.2) := ha.cell 1
      have b0 : w1.cell? ⟨w.heap.size + 1, 0, none⟩ = some (.int .i64 b.1) := hb.cell 0
      have b1 : w1.cell? ⟨w.heap.size + 1, 1, none⟩ = some (.int .i64 b.2) := hb.cell 1
      clear ha hb hs
      go_wp2_with fail
      refine (Less_val h2 _).mono ?_
      rintro e w2 ⟨rfl, hs⟩
      have HS2 := Lib.hid (HS.out.trans hs)
      clear hs a0 a1 b0 b1
      go_wp2_with fail
      go_ret
      exact ⟨_, rfl, by rfl, HS2.out⟩
  · go_enter Try.func89, Try.ntmps89
    go_wp2_with fail
    refine (Less_val h1 _).mono ?_
    rintro e w1 ⟨rfl, hs⟩
    have HS := Lib.hid (Since.trans (((Since.rfl_ w).alloc _).alloc _) hs)
    clear hs
    go_wp2_with fail
    go_ret
    exact ⟨_, rfl, by rfl, HS.out⟩
end Go.Proofs.Ytcckekdfeeghaaa
