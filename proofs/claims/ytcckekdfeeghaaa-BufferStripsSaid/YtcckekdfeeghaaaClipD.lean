/-
  Walks of slices.Equal and EqualFunc over points and lists of points. Conditions: bounds of the numbers.
-/
import Derived.Test.YtcckekdfeeghaaaClipC
namespace Go.Proofs.Ytcckekdfeeghaaa
set_option linter.unusedSimpArgs false
set_option linter.unusedVariables false
open Go.RowKit Go.BigFrame
attribute [local go_sem ↓] eqPt neqPt

theorem pAt_ext {l m : List Pt2} (h : l.length = m.length) (k : ∀ i, i < l.length → pAt l i = pAt m i) : l = m := by
  refine List.ext_getElem h fun i h1 h2 => ?_
  have := k i h1
  unfold pAt at this
  simpa [List.getD, h1, h2] using this
def rAt (l : List (List Pt2)) (i : Nat) : List Pt2 := l.getD i []
theorem rAt_ext {l m : List (List Pt2)} (h : l.length = m.length) (k : ∀ i, i < l.length → rAt l i = rAt m i) : l = m := by
  refine List.ext_getElem h fun i h1 h2 => ?_
  have := k i h1
  unfold rAt at this
  simpa [List.getD, h1, h2] using this

set_option maxHeartbeats 1000000 in
theorem Equal_any (v v' : Value) (l m : List Pt2) (w : World) (hl : l.length ≤ 1000000000000000) (hm : m.length ≤ 1000000000000000) (hv : PtsS w v l) (hv' : PtsS w v' m) :
    Calls Try.prog 45 #[v, v'] w fun e w' => e = .returned (.bool (decide (l = m))) ∧ Since w w' := by
  obtain ⟨a, c, rfl, hv⟩ := hv
  obtain ⟨a', c', rfl, hv'⟩ := hv'
  have HV := Lib.hid hv
  have HV' := Lib.hid hv'
  clear hv hv'
  by_cases hlen : l.length = m.length
  · have hz : ((l.length : Int) == m.length) = true := by rw [beq_iff_eq]; omega
    have hz' : ((l.length : Int) != m.length) = false := by unfold bne; rw [hz]; rfl
    have HL := Lib.hid hlen
    clear hlen
    go_enter Try.func45, Try.ntmps45
    go_wp2
    go_loopw [13] (fun v wr => ∃ k : Nat, k ≤ l.length ∧ v = .int .i64 k ∧ Hid (∀ i, i < k → pAt l i = pAt m i) ∧ Since w wr) (fun v _ => l.length - (intOf v).toNat)
    case atStart => exact ⟨0, Nat.zero_le _, rfl, fun i hi => absurd hi (Nat.not_lt_zero _), by first | exact Since.rfl_ w | exact (Since.rfl_ w).drew⟩
    case round =>
      obtain ⟨k, hk, rfl, HG, hs⟩ := hrel
      rcases Nat.lt_or_ge k l.length with hlt | hge
      · have hlt' : k < m.length := by have := HL.out; omega
        obtain ⟨g, o, ha, e0, e1⟩ := HV.out k hlt
        subst ha
        obtain ⟨g', o', ha', d0, d1⟩ := HV'.out k hlt'
        subst ha'
        replace e0 := keepC hs _ _ e0
        replace e1 := keepC hs _ _ e1
        replace d0 := keepC hs _ _ d0
        replace d1 := keepC hs _ _ d1
        have HS := Lib.hid hs
        clear hs
        by_cases hb : pAt l k = pAt m k
        · have HG2 : Hid (∀ i, i < k + 1 → pAt l i = pAt m i) := fun i hi => by
            rcases Nat.lt_succ_iff_lt_or_eq.1 hi with h | h
            · exact HG.out i h
            · rw [h]; exact hb
          have hx : ((pAt l k).1 == (pAt m k).1) = true := by rw [hb]; simp
          have hy : ((pAt l k).2 == (pAt m k).2) = true := by rw [hb]; simp
          clear HG hb
          go_wp2
          refine region_cls (fun w' => w'.cell? ⟨g, o + k * 2, none⟩ = some (.int .i64 (pAt l k).1) ∧ w'.cell? ⟨g, o + k * 2 + 1, none⟩ = some (.int .i64 (pAt l k).2) ∧ w'.cell? ⟨g', o' + k * 2, none⟩ = some (.int .i64 (pAt m k).1) ∧ w'.cell? ⟨g', o' + k * 2 + 1, none⟩ = some (.int .i64 (pAt m k).2) ∧ Since wr w') (by kernel_rfl) (by kernel_rfl) (by (repeat' refine And.intro ?_ ?_) <;> first | (simp (maxDischargeDepth := 9) [e0, e1, d0, d1,  cSetS, cSetO, cellNew, World.cell?_alloc_some, cellDrew]; done) | (repeat (first | with_reducible assumption | with_reducible exact Since.rfl_ _ | refine Since.setCell ?_ (by (try dsimp only); omega) _ | refine Since.alloc ?_ _ | refine Since.drew ?_))) ?_
          repeat (go_big_quiet_step ((first | (intro hC; have hC := hC.out; (try simp only [hC, Result.andThen]); first | exact ⟨True.intro, rfl⟩ | exact ⟨rfl, rfl⟩ | rfl))))
          refine cls_end ?_
          clear e0 e1 d0 d1
          rintro w3 ⟨-, -, -, -, hs⟩
          have HS2 := Lib.hid (HS.out.trans hs)
          clear hs
          go_wp2
          go_roundw
          case rel => exact ⟨k + 1, by omega, by go_num, HG2, HS2.out⟩
          case measure => simp [intOf]; omega
        · have HN : Hid (decide (l = m) = false) := by
            show _ = _
            rw [decide_eq_false_iff_not]
            rintro rfl
            exact hb rfl
          have HB := Lib.hid hb
          clear hb
          cases hx : ((pAt l k).1 == (pAt m k).1)
          · go_wp2
            refine region_cls (fun w' => w'.cell? ⟨g, o + k * 2, none⟩ = some (.int .i64 (pAt l k).1) ∧ w'.cell? ⟨g, o + k * 2 + 1, none⟩ = some (.int .i64 (pAt l k).2) ∧ w'.cell? ⟨g', o' + k * 2, none⟩ = some (.int .i64 (pAt m k).1) ∧ w'.cell? ⟨g', o' + k * 2 + 1, none⟩ = some (.int .i64 (pAt m k).2) ∧ Since wr w') (by kernel_rfl) (by kernel_rfl) (by (repeat' refine And.intro ?_ ?_) <;> first | (simp (maxDischargeDepth := 9) [e0, e1, d0, d1,  cSetS, cSetO, cellNew, World.cell?_alloc_some, cellDrew]; done) | (repeat (first | with_reducible assumption | with_reducible exact Since.rfl_ _ | refine Since.setCell ?_ (by (try dsimp only); omega) _ | refine Since.alloc ?_ _ | refine Since.drew ?_))) ?_
            repeat (go_big_quiet_step ((first | (intro hC; have hC := hC.out; (try simp only [hC, Result.andThen]); first | exact ⟨True.intro, rfl⟩ | exact ⟨rfl, rfl⟩ | rfl))))
            refine cls_end ?_
            clear e0 e1 d0 d1
            rintro w3 ⟨-, -, -, -, hs⟩
            have HS2 := Lib.hid (HS.out.trans hs)
            clear hs
            go_wp2
            go_ret
            exact ⟨ret_bool HN.out.symm, HS2.out⟩
          · cases hy : ((pAt l k).2 == (pAt m k).2)
            · go_wp2
              refine region_cls (fun w' => w'.cell? ⟨g, o + k * 2, none⟩ = some (.int .i64 (pAt l k).1) ∧ w'.cell? ⟨g, o + k * 2 + 1, none⟩ = some (.int .i64 (pAt l k).2) ∧ w'.cell? ⟨g', o' + k * 2, none⟩ = some (.int .i64 (pAt m k).1) ∧ w'.cell? ⟨g', o' + k * 2 + 1, none⟩ = some (.int .i64 (pAt m k).2) ∧ Since wr w') (by kernel_rfl) (by kernel_rfl) (by (repeat' refine And.intro ?_ ?_) <;> first | (simp (maxDischargeDepth := 9) [e0, e1, d0, d1,  cSetS, cSetO, cellNew, World.cell?_alloc_some, cellDrew]; done) | (repeat (first | with_reducible assumption | with_reducible exact Since.rfl_ _ | refine Since.setCell ?_ (by (try dsimp only); omega) _ | refine Since.alloc ?_ _ | refine Since.drew ?_))) ?_
              repeat (go_big_quiet_step ((first | (intro hC; have hC := hC.out; (try simp only [hC, Result.andThen]); first | exact ⟨True.intro, rfl⟩ | exact ⟨rfl, rfl⟩ | rfl))))
              refine cls_end ?_
              clear e0 e1 d0 d1
              rintro w3 ⟨-, -, -, -, hs⟩
              have HS2 := Lib.hid (HS.out.trans hs)
              clear hs
              go_wp2
              go_ret
              exact ⟨ret_bool HN.out.symm, HS2.out⟩
            · exact absurd (Prod.ext (beq_iff_eq.1 hx) (beq_iff_eq.1 hy)) HB.out
      · have HN : Hid (decide (l = m) = true) := by
          show _ = _
          rw [decide_eq_true_eq]
          exact pAt_ext HL.out fun i hi => HG.out i (by omega)
        have HS := Lib.hid hs
        clear hs
        go_wp2
        go_ret
        exact ⟨ret_bool HN.out.symm, HS.out⟩
  · have hz : ((l.length : Int) == m.length) = false := by rw [beq_eq_false_iff_ne]; omega
    have HN : Hid (decide (l = m) = false) := by
      show _ = _
      rw [decide_eq_false_iff_not]
      rintro rfl
      exact hlen rfl
    clear hlen
    go_enter Try.func45, Try.ntmps45
    go_wp2
    go_ret
    exact ⟨ret_bool HN.out.symm, Since.rfl_ w⟩

/-- The slice v reads as the lists of points ls. -/
def LisS (w : World) (v : Value) (ls : List (List Pt2)) : Prop :=
  ∃ a c, v = .slice a ls.length c ∧ ∀ i, i < ls.length → ∃ g o : Nat, a = some ⟨g, o, none⟩ ∧ ∃ u, w.cell? ⟨g, o + i, none⟩ = some u ∧ PtsS w u (rAt ls i)
theorem LisS.since {w w' : World} {v : Value} {l : List (List Pt2)} (h : LisS w v l) (k : Since w w') : LisS w' v l := by
  obtain ⟨a, c, hv, h⟩ := h
  refine ⟨a, c, hv, fun i hi => ?_⟩
  obtain ⟨g, o, ha, u, h1, h2⟩ := h i hi
  exact ⟨g, o, ha, u, keepC k _ _ h1, h2.since k⟩
def shortL (ls : List (List Pt2)) : Prop := ls.length ≤ 1000000000000000 ∧ ∀ i, i < ls.length → (rAt ls i).length ≤ 1000000000000000

set_option maxHeartbeats 1000000 in
theorem EqualFunc_any (v v' : Value) (l m : List (List Pt2)) (w : World) (hl : shortL l) (hm : shortL m) (hv : LisS w v l) (hv' : LisS w v' m) :
    Calls Try.prog 72 #[v, v', .func (Fn.func 45) #[] #[]] w fun e w' => e = .returned (.bool (decide (l = m))) ∧ Since w w' := by
  obtain ⟨a, c, rfl, hv⟩ := hv
  obtain ⟨a', c', rfl, hv'⟩ := hv'
  obtain ⟨hl1, hl2⟩ := hl
  obtain ⟨hm1, hm2⟩ := hm
  have HV := Lib.hid hv
  have HV' := Lib.hid hv'
  have HL2 := Lib.hid hl2
  have HM2 := Lib.hid hm2
  clear hv hv' hl2 hm2
  by_cases hlen : l.length = m.length
  · have hz : ((l.length : Int) == m.length) = true := by rw [beq_iff_eq]; omega
    have hz' : ((l.length : Int) != m.length) = false := by unfold bne; rw [hz]; rfl
    have HL := Lib.hid hlen
    clear hlen
    go_enter Try.func72, Try.ntmps72
    go_wp2
    go_loopw [17] (fun v wr => ∃ k : Nat, k ≤ l.length ∧ v = .int .i64 k ∧ Hid (∀ i, i < k → rAt l i = rAt m i) ∧ Since w wr) (fun v _ => l.length - (intOf v).toNat)
    case atStart => exact ⟨0, Nat.zero_le _, rfl, fun i hi => absurd hi (Nat.not_lt_zero _), by first | exact Since.rfl_ w | exact (Since.rfl_ w).drew⟩
    case round =>
      obtain ⟨k, hk, rfl, HG, hs⟩ := hrel
      rcases Nat.lt_or_ge k l.length with hlt | hge
      · have hlt' : k < m.length := by have := HL.out; omega
        obtain ⟨g, o, ha, xv, e0, h1⟩ := HV.out k hlt
        subst ha
        obtain ⟨g', o', ha', yv, d0, h1'⟩ := HV'.out k hlt'
        subst ha'
        replace e0 := keepC hs _ _ e0
        replace d0 := keepC hs _ _ d0
        have H1 := Lib.hid (h1.since hs)
        have H1' := Lib.hid (h1'.since hs)
        have HS := Lib.hid hs
        clear hs h1 h1'
        go_wp2_with fail
        refine (Equal_any _ _ _ _ _ (HL2.out k hlt) (HM2.out k hlt') H1.out H1'.out).mono ?_
        rintro e w3 ⟨rfl, hs⟩
        have HS2 := Lib.hid (HS.out.trans hs)
        clear hs
        cases hb : decide (rAt l k = rAt m k)
        · have HN : Hid (decide (l = m) = false) := by
            show _ = _
            rw [decide_eq_false_iff_not] at hb ⊢
            rintro rfl
            exact hb rfl
          clear hb
          go_wp2
          go_ret
          exact ⟨ret_bool HN.out.symm, HS2.out⟩
        · have HG2 : Hid (∀ i, i < k + 1 → rAt l i = rAt m i) := fun i hi => by
            rcases Nat.lt_succ_iff_lt_or_eq.1 hi with h | h
            · exact HG.out i h
            · rw [h]; exact of_decide_eq_true hb
          clear hb HG
          go_wp2
          go_roundw
          case rel => exact ⟨k + 1, by omega, by go_num, HG2, HS2.out⟩
          case measure => simp [intOf]; omega
      · have HN : Hid (decide (l = m) = true) := by
          show _ = _
          rw [decide_eq_true_eq]
          exact rAt_ext HL.out fun i hi => HG.out i (by omega)
        have HS := Lib.hid hs
        clear hs
        go_wp2
        go_ret
        exact ⟨ret_bool HN.out.symm, HS.out⟩
  · have hz : ((l.length : Int) == m.length) = false := by rw [beq_eq_false_iff_ne]; omega
    have HN : Hid (decide (l = m) = false) := by
      show _ = _
      rw [decide_eq_false_iff_not]
      rintro rfl
      exact hlen rfl
    clear hlen
    go_enter Try.func72, Try.ntmps72
    go_wp2
    go_ret
    exact ⟨ret_bool HN.out.symm, Since.rfl_ w⟩

theorem lists_any (v v' : Value) (l m : List (List Pt2)) (w : World) (hl : shortL l) (hm : shortL m) (hv : LisS w v l) (hv' : LisS w v' m) :
    Calls Try.prog 24 #[v, v'] w fun e w' => e = .returned (.bool (decide (l = m))) ∧ Since w w' := by
  have HV := Lib.hid hv
  have HV' := Lib.hid hv'
  clear hv hv'
  go_enter Try.func24, Try.ntmps24
  go_wp2_with fail
  refine (EqualFunc_any _ _ _ _ _ hl hm HV.out HV'.out).mono ?_
  rintro e w3 ⟨rfl, hs⟩
  have HS2 := Lib.hid hs
  clear hs
  go_wp2
  go_ret
  exact ⟨rfl, HS2.out⟩
theorem listsL_any (v v' : Value) (l m : List (List Pt2)) (w : World) (hl : shortL l) (hm : shortL m) (hv : LisS w v l) (hv' : LisS w v' m) :
    Calls Try.prog 35 #[v, v'] w fun e w' => e = .returned (.bool (decide (l = m))) ∧ Since w w' := by
  have HV := Lib.hid hv
  have HV' := Lib.hid hv'
  clear hv hv'
  go_enter Try.func35, Try.ntmps35
  go_wp2_with fail
  refine (EqualFunc_any _ _ _ _ _ hl hm HV.out HV'.out).mono ?_
  rintro e w3 ⟨rfl, hs⟩
  have HS2 := Lib.hid hs
  clear hs
  go_wp2
  go_ret
  exact ⟨rfl, HS2.out⟩

end Go.Proofs.Ytcckekdfeeghaaa
