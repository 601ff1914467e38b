/-
  Walks of terrref3.AroundFault, cross, Less, byPoint. Conditions: bounds of the numbers.
-/
import Derived.Test.YtcckekdfeeghaaaBufK
import Derived.Test.YtcckekdfeeghaaaClipPb
namespace Go.Proofs.Ytcckekdfeeghaaa
set_option linter.unusedSimpArgs false
set_option linter.unusedVariables false
open Go.RowKit Go.BigFrame
attribute [local go_sem ↓] eqPt neqPt

theorem okR_val {x y : Int} {b : Bool} (h : okP x y = b) (w : World) : Calls Try.prog 32 #[.agg #[.int .i64 x, .int .i64 y]] w fun e w' => e = .returned (.bool b) ∧ Since w w' := h ▸ okR_any x y w
theorem bad_any (p : Pt2) (b : Bool) (w : World) (h : okP p.1 p.2 = b) : Calls Try.prog 87 #[.agg #[.int .i64 p.1, .int .i64 p.2]] w fun e w' => e = .returned (.bool (!b)) ∧ Since w w' := by
  have H := Lib.hid h
  clear h
  go_enter Try.func87, Try.ntmps87
  go_wp2_with fail
  refine (okR_val H.out _).mono ?_
  rintro e w1 ⟨rfl, hs⟩
  have HS := Lib.hid (((Since.rfl_ w).alloc _).trans hs)
  clear hs
  go_wp2
  go_ret
  exact ⟨rfl, HS.out⟩
theorem IndexBad_any (v : Value) (l : List Pt2) (w : World) (hl : l.length ≤ 1000000000000000) (hv : PtsS w v l) :
    Calls Try.prog 71 #[v, .func (Fn.func 87) #[] #[]] w fun e w' => ∃ r : Int, e = .returned (.int .i64 r) ∧ decide (0 ≤ r) = !(allOk l) ∧ Since w w' := by
  obtain ⟨a, c, rfl, hv⟩ := hv
  have HV := Lib.hid hv
  clear hv
  go_enter Try.func71, Try.ntmps71
  go_wp2_with fail
  go_loopw [8] (fun v wr => ∃ k : Nat, k ≤ l.length ∧ v = .int .i64 k ∧ Hid (∀ i, i < k → okP (pAt l i).1 (pAt l i).2 = true) ∧ Since w wr) (fun v _ => l.length - (intOf v).toNat)
  case atStart => exact ⟨0, Nat.zero_le _, rfl, fun i hi => absurd hi (Nat.not_lt_zero _), Since.rfl_ w⟩
  case round =>
    obtain ⟨k, hk, rfl, HG, hs⟩ := hrel
    rcases Nat.lt_or_ge k l.length with hlt | hge
    · obtain ⟨g, o, ha, e0, e1⟩ := HV.out k hlt
      subst ha
      replace e0 := keepC hs _ _ e0
      replace e1 := keepC hs _ _ e1
      have HS := Lib.hid hs
      clear hs
      cases hok : okP (pAt l k).1 (pAt l k).2
      · have HN : Hid (allOk l = false) := by
          show _ = _
          unfold allOk
          rw [List.all_eq_false]
          exact ⟨pAt l k, pAt_mem hlt, by rw [hok]; simp⟩
        go_wp2_with fail
        refine (bad_any (pAt l k) false _ hok).mono ?_
        rintro e w3 ⟨rfl, hs⟩
        have HS2 := Lib.hid (HS.out.trans hs)
        clear hs
        go_wp2
        go_ret
        exact ⟨_, rfl, by rw [HN.out]; simp, HS2.out⟩
      · have HG2 : Hid (∀ i, i < k + 1 → okP (pAt l i).1 (pAt l i).2 = true) := fun i hi => by
          rcases Nat.lt_succ_iff_lt_or_eq.1 hi with h | h
          · exact HG.out i h
          · rw [h]; exact hok
        go_wp2_with fail
        refine (bad_any (pAt l k) true _ hok).mono ?_
        rintro e w3 ⟨rfl, hs⟩
        have HS2 := Lib.hid (HS.out.trans hs)
        clear hs
        go_wp2
        go_roundw
        case rel => exact ⟨k + 1, by omega, by go_num, HG2, HS2.out⟩
        case measure => simp [intOf]; omega
    · have HS := Lib.hid hs
      clear hs
      have HN : Hid (allOk l = true) := by
        show _ = _
        unfold allOk
        rw [List.all_eq_true]
        intro q hq
        obtain ⟨i, hi, rfl⟩ := mem_pAt hq
        exact HG.out i (by omega)
      go_wp2
      go_ret
      exact ⟨-1, rfl, by rw [HN.out]; rfl, HS.out⟩
theorem ContainsBad_any (v : Value) (l : List Pt2) (w : World) (hl : l.length ≤ 1000000000000000) (hv : PtsS w v l) :
    Calls Try.prog 21 #[v, .func (Fn.func 87) #[] #[]] w fun e w' => e = .returned (.bool (!(allOk l))) ∧ Since w w' := by
  have H := Lib.hid hv
  obtain ⟨a, c, rfl, -⟩ := hv
  go_enter Try.func21, Try.ntmps21
  go_wp2_with fail
  refine (IndexBad_any _ l _ hl H.out).mono ?_
  rintro e w1 ⟨r, rfl, hr, hs⟩
  have HS := Lib.hid hs
  have HR := Lib.hid hr
  clear hs hr
  go_wp2
  go_ret
  exact ⟨ret_bool HR.out, HS.out⟩
theorem allOk_ar (p : Pt2) (b : Int) : allOk (arL p b) = allOk (crnV p b) := by
  rw [Bool.eq_iff_iff]
  unfold allOk
  rw [List.all_eq_true, List.all_eq_true]
  exact ⟨fun h q hq => h q (arL_mem.2 hq), fun h q hq => h q (arL_mem.1 hq)⟩
theorem Around_ok {p : Pt2} {b : Int} (h1 : 1 ≤ b) (h2 : b ≤ 10000) (h3 : okP p.1 p.2 = true) (w : World) :
    Calls Try.prog 47 #[.agg #[.int .i64 p.1, .int .i64 p.2], .int .i64 b] w fun e w' => ∃ v, e = .returned v ∧ w'.ownsRow w.heap.size 23 2 v 8 ((arL p b).flatMap ptV) ∧ Since w w' := by
  have := okP_iff.1 h3
  exact Around_any p.1 p.2 b w (by omega) (by omega) ⟨h1, h2⟩

set_option maxHeartbeats 1000000 in
theorem Fault_any (p : Pt2) (b : Int) (w : World) :
    Calls Try.prog 44 #[.agg #[.int .i64 p.1, .int .i64 p.2], .int .i64 b] w fun e w' => e = .returned (.int .i64 (octE p b)) ∧ Since w w' := by
  by_cases h1 : b < 1
  · have hz : decide (b < 1) = true := by simpa using h1
    have HE : Hid (octE p b = 1) := by show _ = _; unfold octE; rw [if_pos (.inl h1)]
    go_enter Try.func44, Try.ntmps44
    go_wp2_with fail
    go_ret
    exact ⟨ret_int HE.out.symm, (Since.rfl_ w).alloc _⟩
  · have hz : decide (b < 1) = false := by simpa using h1
    by_cases h2 : 10000 < b
    · have hz2 : decide (10000 < b) = true := by simpa using h2
      have HE : Hid (octE p b = 1) := by show _ = _; unfold octE; rw [if_pos (.inr (.inl h2))]
      go_enter Try.func44, Try.ntmps44
      go_wp2_with fail
      go_ret
      exact ⟨ret_int HE.out.symm, (Since.rfl_ w).alloc _⟩
    · have hz2 : decide (10000 < b) = false := by simpa using h2
      cases h3 : okP p.1 p.2
      · have HE : Hid (octE p b = 1) := by show _ = _; unfold octE; rw [if_pos (.inr (.inr h3))]
        go_enter Try.func44, Try.ntmps44
        go_wp2_with fail
        refine (okR_val h3 _).mono ?_
        rintro e w1 ⟨rfl, hs⟩
        have HS := Lib.hid (Since.trans ((Since.rfl_ w).alloc _) hs)
        clear hs
        go_wp2_with fail
        go_ret
        exact ⟨ret_int HE.out.symm, HS.out⟩
      · have HE : Hid (octE p b = if allOk (arL p b) = true then 0 else 17) := by
          show _ = _; rw [allOk_ar]; unfold octE; rw [if_neg]; rw [h3]; simp; omega
        have HC := fun w => Around_ok (p := p) (b := b) (by omega) (by omega) h3 w
        go_enter Try.func44, Try.ntmps44
        go_wp2_with fail
        refine (okR_val h3 _).mono ?_
        rintro e w1 ⟨rfl, hs⟩
        have hb1 := hs.blk (Blk.new w 23 #[.int .i64 p.1, .int .i64 p.2])
        have p0 : w1.cell? ⟨w.heap.size, 0, none⟩ = some (.int .i64 p.1) := hb1.cell 0
        have p1 : w1.cell? ⟨w.heap.size, 1, none⟩ = some (.int .i64 p.2) := hb1.cell 1
        have HS := Lib.hid (Since.trans ((Since.rfl_ w).alloc (.cells #[.int .i64 p.1, .int .i64 p.2] 23)) hs)
        clear hs hb1
        go_wp2_with fail
        refine (HC _).mono ?_
        rintro e w2 ⟨v, rfl, ho, hs⟩
        have hpts := Lib.hid (own_pts (l := arL p b) ho (Nat.le_refl _)).pts
        have HS2 := Lib.hid (HS.out.trans hs)
        obtain ⟨a, c, rfl⟩ := own_slice ho
        clear ho hs HS p0 p1 HC
        go_wp2_with fail
        refine (ContainsBad_any _ (arL p b) _ (by rw [arL_len]; decide) hpts.out).mono ?_
        rintro e w3 ⟨rfl, hs⟩
        have HS3 := Lib.hid (HS2.out.trans hs)
        clear hs
        cases hk : allOk (arL p b)
        all_goals
          rw [hk] at HE
          go_wp2_with fail
          go_ret
          exact ⟨ret_int (by rw [HE.out]; rfl), HS3.out⟩

set_option maxHeartbeats 1000000 in
theorem crossR_any {a b c : Pt2} (ha : okP a.1 a.2 = true) (hb : okP b.1 b.2 = true) (hc : okP c.1 c.2 = true) (w : World) :
    Calls Try.prog 90 #[.agg #[.int .i64 a.1, .int .i64 a.2], .agg #[.int .i64 b.1, .int .i64 b.2], .agg #[.int .i64 c.1, .int .i64 c.2]] w fun e w' => e = .returned (.int .i64 (crs a b c)) ∧ Since w w' := by
  rw [okP_iff] at ha hb hc
  have m1 : ((b.1 - a.1) * (c.2 - a.2)).natAbs ≤ 4398046511104 := Nat.le_trans (mul_bd (A := 2097152) (B := 2097152) (by omega) (by omega)) (by decide)
  have m2 : ((b.2 - a.2) * (c.1 - a.1)).natAbs ≤ 4398046511104 := Nat.le_trans (mul_bd (A := 2097152) (B := 2097152) (by omega) (by omega)) (by decide)
  have e1 : wrap64 ((b.1 - a.1) * (c.2 - a.2)) = (b.1 - a.1) * (c.2 - a.2) := wrap_id (by omega)
  have e2 : wrap64 ((b.2 - a.2) * (c.1 - a.1)) = (b.2 - a.2) * (c.1 - a.1) := wrap_id (by omega)
  have e3 : wrap64 ((b.1 - a.1) * (c.2 - a.2) - (b.2 - a.2) * (c.1 - a.1)) = (b.1 - a.1) * (c.2 - a.2) - (b.2 - a.2) * (c.1 - a.1) := wrap_id (by omega)
  clear m1 m2
  go_enter Try.func90, Try.ntmps90
  go_wp2
  go_ret
  exact ⟨ret_int (by unfold crs crossV; first | exact e3 | rfl), (((Since.rfl_ w).alloc _).alloc _).alloc _⟩
end Go.Proofs.Ytcckekdfeeghaaa
