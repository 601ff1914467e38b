/-
  Walks of buffer: corners, Octagon, Strip. Conditions: bounds of the numbers.
-/
import Derived.Test.YtcckekdfeeghaaaClipN
import Derived.Test.YtcckekdfeeghaaaHull
import Derived.Deep.Onto
namespace Go.Proofs.Ytcckekdfeeghaaa
set_option linter.unusedSimpArgs false
set_option linter.unusedVariables false
open Go.RowKit Go.BigFrame
attribute [local go_sem ↓] eqPt neqPt

theorem cell2_at {w : World} {g : Nat} {t : TypeId} {a b : Value} (h : Blk w g t #[a, b]) : ∀ (j : Nat) (u : Value), [a, b][j]? = some u → w.cell? ((⟨g, 0, none⟩ : Addr).add j) = some u := fun j u hu => by
  have hadd : (⟨g, 0, none⟩ : Addr).add j = ⟨g, j, none⟩ := by unfold Addr.add; split <;> simp_all
  rw [hadd, h.cell j]; simpa using hu
def crnS (j : Nat) : Pt2 := [(-1, -1), (1, -1), (1, 1), (-1, 1)].getD j (0, 0)
def crnD (k y : Int) (i : Nat) : Pt2 := if i = 0 then (k, y) else (y, k)
/-- The corner j of the round i. -/
def crn (p : Pt2) (k y : Int) (i j : Nat) : Pt2 := (p.1 + (crnS j).1 * (crnD k y i).1, p.2 + (crnS j).2 * (crnD k y i).2)
def crnI (p : Pt2) (k y : Int) (i m : Nat) : List Pt2 := (List.range m).map (crn p k y i)
def crnN (p : Pt2) (k y : Int) : Nat → List Pt2
  | 0 => []
  | i + 1 => crnN p k y i ++ crnI p k y i 4
theorem crnI_succ (p : Pt2) (k y : Int) (i m : Nat) : crnI p k y i (m + 1) = crnI p k y i m ++ [crn p k y i m] := by unfold crnI; rw [List.range_succ, List.map_append]; rfl
theorem crnI_len (p : Pt2) (k y : Int) (i m : Nat) : (crnI p k y i m).length = m := by unfold crnI; simp
theorem crnN_len (p : Pt2) (k y : Int) : ∀ i, (crnN p k y i).length = 4 * i
  | 0 => rfl
  | i + 1 => by rw [crnN, List.length_append, crnN_len, crnI_len]; omega
/-- The corners around a point. -/
def crnV (p : Pt2) (b : Int) : List Pt2 := crnN p (5 * b / 12) b 2

set_option maxRecDepth 100000 in
set_option maxHeartbeats 4000000 in
theorem corners_any (x y b : Int) (w : World) (hx : -1048576 ≤ x ∧ x ≤ 1048576) (hy : -1048576 ≤ y ∧ y ≤ 1048576) (hb : 1 ≤ b ∧ b ≤ 10000) :
    Calls Try.prog 85 #[.agg #[.int .i64 x, .int .i64 y], .int .i64 b] w fun e w' => ∃ v, e = .returned v ∧ w'.ownsRow w.heap.size 23 2 v 8 ((crnV (x, y) b).flatMap ptV) ∧ Since w w' := by
  have hk : 0 ≤ 5 * b / 12 ∧ 5 * b / 12 ≤ 10000 := by omega
  have HC : Hid (crnN (x, y) (5 * b / 12) b 2 = crnV (x, y) b) := rfl
  go_enter Try.func85, Try.ntmps85
  go_wp2
  generalize 5 * b / 12 = k at *
  refine atW (fun w' => Blk w' w.heap.size 23 #[.int .i64 x, .int .i64 y] ∧ Blk w' (w.heap.size + 1) 134 #[.int .i64 k, .int .i64 b, .int .i64 b, .int .i64 k] ∧ Since w w' ∧ w.heap.size + 1 < w'.heap.size) ⟨(Blk.new _ _ _).alloc _, Blk.new' (by simp), ((Since.rfl_ w).alloc _).alloc _, by simp⟩ ?_
  rintro w1 ⟨hp, hd, hs, hz⟩
  have HP := Lib.hid (And.intro hp (And.intro hd hs))
  clear hp hd hs
  obtain ⟨B, HB⟩ : ∃ B, B = w.heap.size := ⟨_, rfl⟩
  have hB1 : B ≤ w1.heap.size := by omega
  go_loopw [6, 22] (fun v6 v wr => ∃ i : Nat, i ≤ 2 ∧ v = .int .i64 i ∧ Hid (wr.ownsRow (w.heap.size + 2) 23 2 v6 (4 * i) ((crnN (x, y) k b i).flatMap ptV)) ∧ Hid (Blk wr w.heap.size 23 #[.int .i64 x, .int .i64 y] ∧ Blk wr (w.heap.size + 1) 134 #[.int .i64 k, .int .i64 b, .int .i64 b, .int .i64 k] ∧ Since w wr)) (fun _ v _ => 2 - (intOf v).toNat)
  case atStart => exact ⟨0, by omega, rfl, World.ownsRow_nil _ _ _ _, HP⟩
  case round =>
    obtain ⟨i, hi, rfl, HO, HM⟩ := hrel
    rcases Nat.lt_or_ge i 2 with hlt | hge
    · obtain ⟨d, HDD⟩ : ∃ d : Pt2, Hid (d = crnD k b i) := ⟨_, rfl⟩
      have hz2 : decide ((i : Int) < 2) = true := by rw [decide_eq_true_eq]; omega
      have d0 : wr.cell? ⟨w.heap.size + 1, i * 2, none⟩ = some (.int .i64 d.1) := by
        rw [HDD.out]
        have : i = 0 ∨ i = 1 := by omega
        rcases this with rfl | rfl
        · exact HM.out.2.1.cell 0
        · exact HM.out.2.1.cell 2
      have d1 : wr.cell? ⟨w.heap.size + 1, i * 2 + 1, none⟩ = some (.int .i64 d.2) := by
        rw [HDD.out]
        have : i = 0 ∨ i = 1 := by omega
        rcases this with rfl | rfl
        · exact HM.out.2.1.cell 1
        · exact HM.out.2.1.cell 3
      have hw := HM.out.2.2.size
      go_wp2
      refine atW (fun w' => Blk w' w.heap.size 23 #[.int .i64 x, .int .i64 y] ∧ Blk w' (w.heap.size + 1) 134 #[.int .i64 k, .int .i64 b, .int .i64 b, .int .i64 k] ∧ Since w w' ∧ Blk w' wr.heap.size 134 #[.int .i64 d.1, .int .i64 d.2] ∧
        Blk w' (wr.heap.size + 1) 134 #[.int .i64 (-1), .int .i64 (-1), .int .i64 1, .int .i64 (-1), .int .i64 1, .int .i64 1, .int .i64 (-1), .int .i64 1] ∧ w'.ownsRow (w.heap.size + 2) 23 2 u6 (4 * i) ((crnN (x, y) k b i).flatMap ptV))
        ⟨(HM.out.1.alloc _).alloc _, (HM.out.2.1.alloc _).alloc _, (HM.out.2.2.alloc _).alloc _, (Blk.new _ _ _).alloc _, Blk.new' (by simp), own_since (((Since.rfl_ _).alloc _).alloc _) HO.out⟩ ?_
      rintro w2 ⟨h1, h2, h3, h4, h5, h6⟩
      have HN := Lib.hid (And.intro h1 (And.intro h2 (And.intro h3 (And.intro h4 h5))))
      have HO2 := Lib.hid h6
      clear h1 h2 h3 h4 h5 h6 d0 d1 HO HM
      obtain ⟨g, HG⟩ : ∃ g, g = wr.heap.size := ⟨_, rfl⟩
      rw [← HG] at HN ⊢
      clear HG
      have hdb : (-10000 ≤ d.1 ∧ d.1 ≤ 10000) ∧ (-10000 ≤ d.2 ∧ d.2 ≤ 10000) := by
        rw [HDD.out]; unfold crnD; split <;> dsimp only <;> omega
      go_loopw [6, 32] (fun v6 v wr => ∃ j : Nat, j ≤ 4 ∧ v = .int .i64 j ∧ Hid (wr.ownsRow (w.heap.size + 2) 23 2 v6 (4 * i + j) ((crnN (x, y) k b i ++ crnI (x, y) k b i j).flatMap ptV)) ∧
        Hid (Blk wr w.heap.size 23 #[.int .i64 x, .int .i64 y] ∧ Blk wr (w.heap.size + 1) 134 #[.int .i64 k, .int .i64 b, .int .i64 b, .int .i64 k] ∧ Since w wr ∧ Blk wr g 134 #[.int .i64 d.1, .int .i64 d.2] ∧
        Blk wr (g + 1) 134 #[.int .i64 (-1), .int .i64 (-1), .int .i64 1, .int .i64 (-1), .int .i64 1, .int .i64 1, .int .i64 (-1), .int .i64 1])) (fun _ v _ => 4 - (intOf v).toNat)
      case atStart => exact ⟨0, by omega, by go_num, by simpa [crnI, Hid, Lib.hid] using HO2, HN⟩
      case round =>
        clear HO2 HN
        obtain ⟨j, hj, rfl, HO, HM⟩ := hrel
        obtain ⟨ar, cr, rfl⟩ := own_slice HO.out
        rcases Nat.lt_or_ge j 4 with hlt4 | hge4
        · obtain ⟨s, HS⟩ : ∃ s : Pt2, Hid (s = crnS j) := ⟨_, rfl⟩
          have hz3 : decide ((j : Int) < 4) = true := by rw [decide_eq_true_eq]; omega
          have hsb : (-1 ≤ s.1 ∧ s.1 ≤ 1) ∧ (-1 ≤ s.2 ∧ s.2 ≤ 1) := by
            rw [HS.out]
            have : j = 0 ∨ j = 1 ∨ j = 2 ∨ j = 3 := by omega
            rcases this with rfl | rfl | rfl | rfl <;> decide
          have s0 : wr.cell? ⟨g + 1, j * 2, none⟩ = some (.int .i64 s.1) ∧ wr.cell? ⟨g + 1, j * 2 + 1, none⟩ = some (.int .i64 s.2) := by
            rw [HS.out]
            have : j = 0 ∨ j = 1 ∨ j = 2 ∨ j = 3 := by omega
            rcases this with rfl | rfl | rfl | rfl <;> exact ⟨HM.out.2.2.2.2.cell _, HM.out.2.2.2.2.cell _⟩
          obtain ⟨s0, s1⟩ := s0
          have x0 : wr.cell? ⟨w.heap.size, 0, none⟩ = some (.int .i64 x) := HM.out.1.cell 0
          have x1 : wr.cell? ⟨w.heap.size, 1, none⟩ = some (.int .i64 y) := HM.out.1.cell 1
          have d0 : wr.cell? ⟨g, 0, none⟩ = some (.int .i64 d.1) := HM.out.2.2.2.1.cell 0
          have d1 : wr.cell? ⟨g, 1, none⟩ = some (.int .i64 d.2) := HM.out.2.2.2.1.cell 1
          have m0 : -10000 ≤ s.1 * d.1 ∧ s.1 * d.1 ≤ 10000 := by
            have : s.1 = -1 ∨ s.1 = 0 ∨ s.1 = 1 := by omega
            rcases this with h | h | h <;> rw [h] <;> omega
          have m1 : -10000 ≤ s.2 * d.2 ∧ s.2 * d.2 ≤ 10000 := by
            have : s.2 = -1 ∨ s.2 = 0 ∨ s.2 = 1 := by omega
            rcases this with h | h | h <;> rw [h] <;> omega
          have n0 : wrap64 (s.1 * d.1) = s.1 * d.1 := wrap_id (by omega)
          have n1 : wrap64 (s.2 * d.2) = s.2 * d.2 := wrap_id (by omega)
          have gl : g < wr.heap.size := HM.out.2.2.2.1.lt
          have gl2 : w.heap.size < wr.heap.size := HM.out.1.lt
          obtain ⟨i0, hi, hz0, hz1, hz2⟩ := info_parts infoPt
          have HI := Lib.hid hi
          have HZ := Lib.hid (And.intro hz0 (And.intro hz1 hz2))
          clear hi hz0 hz1 hz2
          have hw2 := HM.out.2.2.1.size
          go_wp2_with (at_builtin; refine wpList_append_own _ rfl _ _ 32 rfl (w.heap.size + 2) 23 i0 _ 2 16 Try.underlying32 HI.out HZ.out.1 HZ.out.2.1 HZ.out.2.2 rfl (by decide) _ _ _ rfl (own_since (((Since.rfl_ wr).alloc _).alloc _) HO.out) _ _ _ [.int .i64 (x + s.1 * d.1), .int .i64 (y + s.2 * d.2)] rfl rfl (cell2_at (Blk.new' (by simp only [World.size_alloc]))) (one2 _ _ _ _) (by unfold maxLen; omega) (by omega) (by simp only [World.size_alloc]; omega) ?_)
          intro v' w' hown hgrow _
          have hA := ((Since.rfl_ wr).alloc (.cells #[.int .i64 s.1, .int .i64 s.2] 134)).alloc (.cells #[.int .i64 (x + s.1 * d.1), .int .i64 (y + s.2 * d.2)] 23)
          have hoA := own_since hA HO.out
          have HO3 : Hid (w'.ownsRow (w.heap.size + 2) 23 2 v' (4 * i + (j + 1)) ((crnN (x, y) k b i ++ crnI (x, y) k b i (j + 1)).flatMap ptV)) := by
            show World.ownsRow _ _ _ _ _ _ _
            rw [crnI_succ, ← List.append_assoc, List.flatMap_append, ← Nat.add_assoc]
            have : ([crn (x, y) k b i j].flatMap ptV) = [.int .i64 (x + s.1 * d.1), .int .i64 (y + s.2 * d.2)] := by
              rw [HS.out, HDD.out]; rfl
            rw [this, List.flatMap_append, List.append_assoc]; exact hown
          have HM3 : Hid (Blk w' w.heap.size 23 #[.int .i64 x, .int .i64 y] ∧ Blk w' (w.heap.size + 1) 134 #[.int .i64 k, .int .i64 b, .int .i64 b, .int .i64 k] ∧ Since w w' ∧ Blk w' g 134 #[.int .i64 d.1, .int .i64 d.2] ∧
            Blk w' (g + 1) 134 #[.int .i64 (-1), .int .i64 (-1), .int .i64 1, .int .i64 (-1), .int .i64 1, .int .i64 1, .int .i64 (-1), .int .i64 1]) :=
            ⟨(hgrow.block _ (hA.blk HM.out.1).lt (own_ne hoA (by omega))).trans (hA.blk HM.out.1), (hA.blk HM.out.2.1).app hoA (by decide) hgrow,
              (HM.out.2.2.1.trans hA).app (hoA.mono (by omega)) hgrow, (hA.blk HM.out.2.2.2.1).app hoA (by decide) hgrow, (hA.blk HM.out.2.2.2.2).app hoA (by decide) hgrow⟩
          clear hown hgrow hA hoA HO HM
          go_wp2_with fail
          go_roundw
          case rel => exact ⟨j + 1, by omega, by go_num, HO3, HM3⟩
          case measure => simp [intOf]; omega
        · obtain rfl : j = 4 := by omega
          go_wp2
          go_roundw
          case rel => exact ⟨i + 1, by omega, by go_num, HO, HM.out.1, HM.out.2.1, HM.out.2.2.1⟩
          case measure => simp [intOf]; omega
    · obtain rfl : i = 2 := by omega
      go_wp2
      go_ret
      exact ⟨_, rfl, by rw [← HC.out]; exact World.ownsRow.mono HO.out (by omega), HM.out.2.2⟩
end Go.Proofs.Ytcckekdfeeghaaa
