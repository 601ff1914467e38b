/-
  The walk of terrref3.Around. Conditions: bounds of the numbers.
-/
import Derived.Test.YtcckekdfeeghaaaBufI
namespace Go.Proofs.Ytcckekdfeeghaaa
set_option linter.unusedSimpArgs false
set_option linter.unusedVariables false
open Go.RowKit Go.BigFrame
attribute [local go_sem ↓] eqPt neqPt

def arD (k b : Int) (i : Nat) : Pt2 := [(b, k), (k, b), (-k, b), (-b, k), (-b, -k), (-k, -b), (k, -b), (b, -k)].getD i (0, 0)
theorem arIdx (k b : Int) (w : World) : ∀ i : Nat, i < 8 → (Instr.index 113 (.agg #[.int .i64 b, .int .i64 k, .int .i64 k, .int .i64 b, .int .i64 (-k), .int .i64 b, .int .i64 (-b), .int .i64 k, .int .i64 (-b), .int .i64 (-k), .int .i64 (-k), .int .i64 (-b), .int .i64 k, .int .i64 (-b), .int .i64 b, .int .i64 (-k)]) (.int .i64 (i : Int))).run Try.prog w = .ok (.agg #[.int .i64 (arD k b i).1, .int .i64 (arD k b i).2]) w
  | 0, _ => by kernel_rfl
  | 1, _ => by kernel_rfl
  | 2, _ => by kernel_rfl
  | 3, _ => by kernel_rfl
  | 4, _ => by kernel_rfl
  | 5, _ => by kernel_rfl
  | 6, _ => by kernel_rfl
  | 7, _ => by kernel_rfl
  | n + 8, h => by omega
def arI (p : Pt2) (k b : Int) (m : Nat) : List Pt2 := (List.range m).map fun i => (p.1 + (arD k b i).1, p.2 + (arD k b i).2)
theorem arI_succ (p : Pt2) (k b : Int) (m : Nat) : arI p k b (m + 1) = arI p k b m ++ [(p.1 + (arD k b m).1, p.2 + (arD k b m).2)] := by unfold arI; rw [List.range_succ, List.map_append]; rfl
/-- The reference's corners around a point. -/
def arL (p : Pt2) (b : Int) : List Pt2 := arI p (b * 5 / 12) b 8
theorem arL_form (p : Pt2) (b : Int) : arL p b = [(p.1 + b, p.2 + b * 5 / 12), (p.1 + b * 5 / 12, p.2 + b), (p.1 + -(b * 5 / 12), p.2 + b), (p.1 + -b, p.2 + b * 5 / 12), (p.1 + -b, p.2 + -(b * 5 / 12)), (p.1 + -(b * 5 / 12), p.2 + -b), (p.1 + b * 5 / 12, p.2 + -b), (p.1 + b, p.2 + -(b * 5 / 12))] := rfl
theorem arL_len (p : Pt2) (b : Int) : (arL p b).length = 8 := rfl
theorem arL_mem {p : Pt2} {b : Int} {q : Pt2} : q ∈ arL p b ↔ q ∈ crnV p b := by
  rw [arL_form, crnV_form, Int.mul_comm b 5]
  generalize 5 * b / 12 = k
  simp only [List.mem_cons, List.not_mem_nil, or_false, Int.neg_mul, Int.one_mul]
  constructor <;> (intro h; rcases h with h | h | h | h | h | h | h | h <;> rw [h] <;> simp)

set_option maxRecDepth 100000 in
set_option maxHeartbeats 4000000 in
theorem Around_any (x y b : Int) (w : World) (hx : -1048576 ≤ x ∧ x ≤ 1048576) (hy : -1048576 ≤ y ∧ y ≤ 1048576) (hb : 1 ≤ b ∧ b ≤ 10000) :
    Calls Try.prog 47 #[.agg #[.int .i64 x, .int .i64 y], .int .i64 b] w fun e w' => ∃ v, e = .returned v ∧ w'.ownsRow w.heap.size 23 2 v 8 ((arL (x, y) b).flatMap ptV) ∧ Since w w' := by
  have hk : 0 ≤ b * 5 / 12 ∧ b * 5 / 12 ≤ 10000 := by omega
  have HC : Hid (arI (x, y) (b * 5 / 12) b 8 = arL (x, y) b) := rfl
  go_enter Try.func47, Try.ntmps47
  go_wp2
  generalize b * 5 / 12 = k at *
  refine atW (fun w' => Blk w' w.heap.size 23 #[.int .i64 x, .int .i64 y] ∧ Since w w') ⟨Blk.new _ _ _, (Since.rfl_ w).alloc _⟩ ?_
  rintro w1 ⟨hp, hs⟩
  have HP := Lib.hid (And.intro hp hs)
  clear hp hs
  go_loopw [6, 12] (fun v6 v wr => ∃ i : Nat, i ≤ 8 ∧ v = .int .i64 i ∧ Hid (wr.ownsRow (w.heap.size + 1) 23 2 v6 i ((arI (x, y) k b i).flatMap ptV)) ∧ Hid (Blk wr w.heap.size 23 #[.int .i64 x, .int .i64 y] ∧ Since w wr)) (fun _ v _ => 8 - (intOf v).toNat)
  case atStart => exact ⟨0, by omega, rfl, World.ownsRow_nil _ _ _ _, HP⟩
  case round =>
    clear HP
    obtain ⟨i, hi, rfl, HO, HM⟩ := hrel
    obtain ⟨ar, cr, rfl⟩ := own_slice HO.out
    rcases Nat.lt_or_ge i 8 with hlt | hge
    · obtain ⟨d, HD⟩ : ∃ d : Pt2, Hid (d = arD k b i) := ⟨_, rfl⟩
      have hz2 : decide ((i : Int) < 8) = true := by rw [decide_eq_true_eq]; omega
      have hbd : (-10000 ≤ d.1 ∧ d.1 ≤ 10000) ∧ (-10000 ≤ d.2 ∧ d.2 ≤ 10000) := by
        rw [HD.out]
        have : i = 0 ∨ i = 1 ∨ i = 2 ∨ i = 3 ∨ i = 4 ∨ i = 5 ∨ i = 6 ∨ i = 7 := by omega
        rcases this with rfl | rfl | rfl | rfl | rfl | rfl | rfl | rfl <;> simp [arD] <;> omega
      have hw := HM.out.2.size
      have x0 : wr.cell? ⟨w.heap.size, 0, none⟩ = some (.int .i64 x) := HM.out.1.cell 0
      have x1 : wr.cell? ⟨w.heap.size, 1, none⟩ = some (.int .i64 y) := HM.out.1.cell 1
      go_upto_region 6 with fail
      go_cut [8] from 14 to 64 (fun v8 w' => ∃ g8 : Nat, v8 = .pointer (some ⟨g8, 0, none⟩) ∧ Since wr w' ∧ Blk w' g8 23 #[.int .i64 d.1, .int .i64 d.2])
      case first =>
        have hix := fun w => arIdx k b w i hlt
        rw [← HD.out] at hix
        clear HC HO HM x0 x1
        go_wp2_with fail
        go_meet
        exact ⟨_, rfl, (Since.rfl_ _).alloc _, Blk.new _ _ _⟩
      case rest =>
        obtain ⟨g8, rfl, hs, h8⟩ := hcut
        obtain ⟨w2, rfl⟩ : ∃ w2, w2 = wc := ⟨_, rfl⟩
        have x0 : w2.cell? ⟨w.heap.size, 0, none⟩ = some (.int .i64 x) := (hs.blk HM.out.1).cell 0
        have x1 : w2.cell? ⟨w.heap.size, 1, none⟩ = some (.int .i64 y) := (hs.blk HM.out.1).cell 1
        have d0 : w2.cell? ⟨g8, 0, none⟩ = some (.int .i64 d.1) := h8.cell 0
        have d1 : w2.cell? ⟨g8, 1, none⟩ = some (.int .i64 d.2) := h8.cell 1
        have HM2 : Hid (Blk w2 w.heap.size 23 #[.int .i64 x, .int .i64 y] ∧ Since w w2) := ⟨hs.blk HM.out.1, HM.out.2.trans hs⟩
        have HO2 := Lib.hid (own_since hs HO.out)
        have hw2 := HM2.out.2.size
        have hw3 := HM2.out.1.lt
        clear hs h8 HM HO
        obtain ⟨i0, hi0, hz0, hz1, hz3⟩ := info_parts infoPt
        have HI := Lib.hid hi0
        have HZ := Lib.hid (And.intro hz0 (And.intro hz1 hz3))
        clear hi0 hz0 hz1 hz3
        go_wp2_with (at_builtin; refine wpList_append_own _ rfl _ _ 32 rfl (w.heap.size + 1) 23 i0 _ 2 16 Try.underlying32 HI.out HZ.out.1 HZ.out.2.1 HZ.out.2.2 rfl (by decide) _ _ _ rfl (own_since ((Since.rfl_ w2).alloc _) HO2.out) _ _ _ [.int .i64 (x + d.1), .int .i64 (y + d.2)] rfl rfl (cell2_new _ _ _ _) (one2 _ _ _ _) (by unfold maxLen; omega) (by omega) (by simp only [World.size_alloc]; omega) ?_)
        intro v' w' hown hgrow _
        have hA := ((Since.rfl_ w2).alloc (.cells #[.int .i64 (x + d.1), .int .i64 (y + d.2)] 23))
        have hoA := own_since hA HO2.out
        have HO3 : Hid (w'.ownsRow (w.heap.size + 1) 23 2 v' (i + 1) ((arI (x, y) k b (i + 1)).flatMap ptV)) := by
          show World.ownsRow _ _ _ _ _ _ _
          rw [arI_succ, List.flatMap_append]
          have : ([(x + (arD k b i).1, y + (arD k b i).2)].flatMap ptV) = [.int .i64 (x + d.1), .int .i64 (y + d.2)] := by rw [HD.out]; rfl
          rw [this]; exact hown
        have HM3 : Hid (Blk w' w.heap.size 23 #[.int .i64 x, .int .i64 y] ∧ Since w w') :=
          ⟨(hgrow.block _ (hA.blk HM2.out.1).lt (own_ne hoA (by omega))).trans (hA.blk HM2.out.1), (HM2.out.2.trans hA).app (hoA.mono (by omega)) hgrow⟩
        clear hown hgrow hA hoA HO2 HM2
        go_wp2_with fail
        go_roundw
        case rel => exact ⟨i + 1, by omega, by go_num, HO3, HM3⟩
        case measure => simp [intOf]; omega
    · obtain rfl : i = 8 := by omega
      go_wp2
      go_ret
      exact ⟨_, rfl, by rw [← HC.out]; exact HO.out.mono (by omega), HM.out.2⟩
end Go.Proofs.Ytcckekdfeeghaaa
