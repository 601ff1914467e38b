/-
  The walk of seg.shared's closure. Conditions: bounds of the numbers.
-/
import Derived.Test.YtcckekdfeeghaaaHullE
namespace Go.Proofs.Ytcckekdfeeghaaa
set_option linter.unusedSimpArgs false
set_option linter.unusedVariables false
open Go.RowKit Go.BigFrame
attribute [local go_sem ↓] eqPt neqPt

/-- A point added if it is on a segment and not yet there. -/
def addS (L : List Pt2) (p q r : Pt2) : List Pt2 := if onV q r p = true ∧ p ∉ L then L ++ [p] else L
theorem On_val {a b p : Pt2} {c : Bool} (h : onV a b p = c) (w : World) : Calls Try.prog 41 #[.agg #[.int .i64 a.1, .int .i64 a.2], .agg #[.int .i64 b.1, .int .i64 b.2], .agg #[.int .i64 p.1, .int .i64 p.2]] w fun e w' =>
    e = .returned (.bool c) ∧ Since w w' := h ▸ On_any a b p w

set_option maxRecDepth 100000 in
set_option maxHeartbeats 4000000 in
theorem add_any (gs B : Nat) (L : List Pt2) (p q r : Pt2) (v : Value) (w : World) (hb : Blk w gs 32 #[v]) (ho : w.ownsRow B 23 2 v L.length (L.flatMap ptV)) (hB : gs < B) (hBw : B ≤ w.heap.size) (hl : L.length ≤ 4) :
    Calls Try.prog 149 #[.agg #[.int .i64 p.1, .int .i64 p.2], .agg #[.int .i64 q.1, .int .i64 q.2], .agg #[.int .i64 r.1, .int .i64 r.2], .pointer (some ⟨gs, 0, none⟩)] w fun e w' =>
      e = .returned (.tuple #[]) ∧ ∃ v', Blk w' gs 32 #[v'] ∧ w'.ownsRow B 23 2 v' (addS L p q r).length ((addS L p q r).flatMap ptV) ∧ Below gs w w' ∧ B ≤ w'.heap.size := by
  have HB := Lib.hid hb
  have HO := Lib.hid ho
  have hgl := hb.lt
  obtain ⟨av, cv, rfl⟩ := own_slice ho
  clear hb ho
  have HA : Hid (addS L p q r = if onV q r p = true ∧ p ∉ L then L ++ [p] else L) := rfl
  go_enter Try.func149, Try.ntmps149
  go_upto_region 1 with fail
  refine atW (fun w' => Since w w' ∧ Blk w' w.heap.size 23 #[.int .i64 p.1, .int .i64 p.2] ∧ Blk w' (w.heap.size + 1) 23 #[.int .i64 q.1, .int .i64 q.2] ∧ Blk w' (w.heap.size + 1 + 1) 23 #[.int .i64 r.1, .int .i64 r.2]) ⟨(((Since.rfl_ w).alloc _).alloc _).alloc _, ((Blk.new w _ _).alloc _).alloc _, (Blk.new' (by simp)).alloc _, Blk.new' (by simp)⟩ ?_
  rintro w1 ⟨hs, hp, hq, hr⟩
  have p0 : w1.cell? ⟨w.heap.size, 0, none⟩ = some (.int .i64 p.1) := hp.cell 0
  have p1 : w1.cell? ⟨w.heap.size, 1, none⟩ = some (.int .i64 p.2) := hp.cell 1
  have q0 : w1.cell? ⟨w.heap.size + 1, 0, none⟩ = some (.int .i64 q.1) := hq.cell 0
  have q1 : w1.cell? ⟨w.heap.size + 1, 1, none⟩ = some (.int .i64 q.2) := hq.cell 1
  have r0 : w1.cell? ⟨w.heap.size + 1 + 1, 0, none⟩ = some (.int .i64 r.1) := hr.cell 0
  have r1 : w1.cell? ⟨w.heap.size + 1 + 1, 1, none⟩ = some (.int .i64 r.2) := hr.cell 1
  have HS1 := Lib.hid hs
  have HP1 := Lib.hid hp
  clear hs hp hq hr
  cases hon : onV q r p
  · have HE : Hid (addS L p q r = L) := by show _ = _; rw [HA.out, if_neg]; rw [hon]; simp
    go_wp2_with fail
    refine (On_val hon _).mono ?_
    rintro e w2 ⟨rfl, hs⟩
    have HS2 := Lib.hid (HS1.out.trans hs)
    clear hs
    go_wp2_with fail
    refine bodyPost_ret (v := .tuple #[]) (by simp [results, Try.results149, go_sem]) rfl ?_
    exact ⟨rfl, _, HS2.out.blk HB.out, by rw [HE.out]; exact own_since HS2.out HO.out, Below.mono HS2.out (by omega), Nat.le_trans hBw HS2.out.size⟩
  · go_wp2_with fail
    refine (On_val hon _).mono ?_
    rintro e w2 ⟨rfl, hs⟩
    have HS2 := Lib.hid (HS1.out.trans hs)
    have HP2 := Lib.hid (hs.blk HP1.out)
    have s0 : w2.cell? ⟨gs, 0, none⟩ = some (.slice av L.length cv) := (HS2.out.blk HB.out).cell 0
    clear hs HS1 HP1 p0 p1 q0 q1 r0 r1
    go_wp2_with fail
    go_loopw [16] (fun v wr => ∃ k : Nat, k ≤ L.length ∧ v = .int .i64 k ∧ Hid (∀ i, i < k → pAt L i ≠ p) ∧ Hid (Since w wr ∧ Blk wr w.heap.size 23 #[.int .i64 p.1, .int .i64 p.2])) (fun v _ => L.length - (intOf v).toNat)
    case atStart => exact ⟨0, by omega, rfl, fun i hi => absurd hi (Nat.not_lt_zero _), HS2.out, HP2.out⟩
    case round =>
      clear HS2 HP2 s0
      obtain ⟨k, hk, rfl, HG, HW⟩ := hrel
      have s0 : wr.cell? ⟨gs, 0, none⟩ = some (.slice av L.length cv) := (HW.out.1.blk HB.out).cell 0
      have p0 : wr.cell? ⟨w.heap.size, 0, none⟩ = some (.int .i64 p.1) := HW.out.2.cell 0
      have p1 : wr.cell? ⟨w.heap.size, 1, none⟩ = some (.int .i64 p.2) := HW.out.2.cell 1
      have hlp := HW.out.2.lt
      rcases Nat.lt_or_ge k L.length with hlt | hge
      · have hz : decide ((k : Int) < (L.length : Int)) = true := by rw [decide_eq_true_eq]; omega
        obtain ⟨x, HX⟩ : ∃ x : Pt2, Hid (x = pAt L k) := ⟨_, rfl⟩
        have hpts := (own_pts (own_since HW.out.1 HO.out) (Nat.le_refl _)).pts
        obtain ⟨a', c', hv, hpts⟩ := hpts
        injection hv with hv1 hv2 hv3
        subst hv1 hv3
        obtain ⟨g, o, ha, x0, x1⟩ := hpts k hlt
        subst ha
        rw [← HX.out] at x0 x1
        have hne : ¬ wr.heap.size = w.heap.size := by omega
        clear hpts
        by_cases hxp : x = p
        · have HE : Hid (addS L p q r = L) := by
            show _ = _
            rw [HA.out, if_neg]
            rintro ⟨-, h⟩
            exact h (by rw [← hxp, HX.out]; exact pAt_mem hlt)
          have h1 : (x.1 == p.1) = true := by rw [hxp]; simp
          have h2 : (x.2 == p.2) = true := by rw [hxp]; simp
          have HS3 := Lib.hid (HW.out.1.alloc (.cells #[.int .i64 x.1, .int .i64 x.2] 23))
          clear hxp
          go_wp2_with fail
          refine bodyPost_ret (v := .tuple #[]) (by simp [results, Try.results149, go_sem]) rfl ?_
          exact ⟨rfl, _, HS3.out.blk HB.out, by rw [HE.out]; exact own_since HS3.out HO.out, Below.mono HS3.out (by omega), Nat.le_trans hBw HS3.out.size⟩
        · have HG2 : Hid (∀ i, i < k + 1 → pAt L i ≠ p) := fun i hi => by
            rcases Nat.lt_succ_iff_lt_or_eq.1 hi with h | h
            · exact HG.out i h
            · rw [h, ← HX.out]; exact hxp
          have HW3 : Hid (Since w (wr.alloc (.cells #[.int .i64 x.1, .int .i64 x.2] 23)) ∧ Blk (wr.alloc (.cells #[.int .i64 x.1, .int .i64 x.2] 23)) w.heap.size 23 #[.int .i64 p.1, .int .i64 p.2]) := ⟨HW.out.1.alloc _, HW.out.2.alloc _⟩
          cases h1 : (x.1 == p.1) <;> cases h2 : (x.2 == p.2)
          case true.true => exact absurd (Prod.ext (beq_iff_eq.1 h1) (beq_iff_eq.1 h2)) hxp
          all_goals
            go_wp2_with fail
            go_roundw
            case rel => exact ⟨k + 1, by omega, by go_num, HG2, HW3⟩
            case measure => simp [intOf]; omega
      · obtain rfl : k = L.length := by omega
        have hz : decide ((L.length : Int) < (L.length : Int)) = false := by rw [decide_eq_false_iff_not]; omega
        have HE : Hid (addS L p q r = L ++ [p]) := by
          show _ = _
          rw [HA.out, if_pos]
          refine ⟨hon, fun h => ?_⟩
          obtain ⟨i, hi, e⟩ := mem_pAt h
          exact HG.out i hi e
        have HO2 := Lib.hid (own_since HW.out.1 HO.out)
        have HB2 := Lib.hid (HW.out.1.blk HB.out)
        have hwr := HW.out.1.size
        obtain ⟨i0, hi0, hz0, hz1, hz3⟩ := info_parts infoPt
        have HI := Lib.hid hi0
        have HZ := Lib.hid (And.intro hz0 (And.intro hz1 hz3))
        clear hi0 hz0 hz1 hz3
        go_wp2_with (at_builtin; refine wpList_append_own _ rfl _ _ 32 rfl B 23 i0 _ 2 16 Try.underlying32 HI.out HZ.out.1 HZ.out.2.1 HZ.out.2.2 rfl (by decide) _ _ _ rfl (own_since ((Since.rfl_ wr).alloc _) HO2.out) _ _ _ [.int .i64 p.1, .int .i64 p.2] rfl rfl (cell2_new _ _ _ _) (one2 _ _ _ _) (by unfold maxLen; omega) (by omega) (by simp only [World.size_alloc]; omega) ?_)
        intro v' w' hown hgrow _
        obtain ⟨ao', co', rfl⟩ := own_slice hown
        have hA := (Since.rfl_ wr).alloc (.cells #[.int .i64 p.1, .int .i64 p.2] 23)
        have hoA := own_since hA HO2.out
        have hgb := (hgrow.block _ (hA.blk HB2.out).lt (own_ne hoA hB)).trans (hA.blk HB2.out)
        have HB3 : Hid (Blk w' gs 32 #[.slice av L.length cv]) := hgb
        have HL3 : Hid (Below gs w w') := (Below.mono (HW.out.1.trans hA) (show gs ≤ w.heap.size by omega)).grown hgrow (by simp only [World.size_alloc]; omega) fun k hk => by have := (hoA.lt k hk).1; omega
        have HO3 : Hid (w'.ownsRow B 23 2 (.slice ao' (L.length + 1) co') (addS L p q r).length ((addS L p q r).flatMap ptV)) := by
          show World.ownsRow _ _ _ _ _ _ _
          rw [HE.out, List.flatMap_append, List.length_append]
          exact hown
        have hsz : B ≤ w'.heap.size := Nat.le_trans (Nat.le_trans hBw hwr) (Nat.le_trans hA.size hgrow.size)
        have s1 : w'.cell? ⟨gs, 0, none⟩ = some (.slice av L.length cv) := HB3.out.cell 0
        have sf := HB3.out.frozen 0
        have hne3 : some gs ≠ (Value.slice ao' (L.length + 1) co').ownBlock := own_ne HO3.out hB
        have HF4 := Lib.hid (And.intro (HB3.out.set_ 0 (.slice ao' (L.length + 1) co')) (And.intro (own_far (p := ⟨gs, 0, none⟩) HO3.out hne3 (.slice ao' (L.length + 1) co')) (HL3.out.setCell (p := ⟨gs, 0, none⟩) (Nat.le_refl _) (.slice ao' (L.length + 1) co'))))
        clear hown hgrow hA hoA hgb HO2 HB2 HB3 HL3 HO3 s0 p0 p1 hne3
        go_wp2_with fail
        go_end0
        exact ⟨rfl, _, HF4.out.1, HF4.out.2.1, HF4.out.2.2, by simpa [World.setCell] using hsz⟩
end Go.Proofs.Ytcckekdfeeghaaa
