/-
  Walks of buffer.Octagon and buffer.Strip. Conditions: bounds of the numbers.
-/
import Derived.Test.YtcckekdfeeghaaaBufE
namespace Go.Proofs.Ytcckekdfeeghaaa
set_option linter.unusedSimpArgs false
set_option linter.unusedVariables false
open Go.RowKit Go.BigFrame
attribute [local go_sem ↓] eqPt neqPt

def allOk (l : List Pt2) : Bool := l.all fun q => okP q.1 q.2
/-- The error of an octagon. -/
def octE (p : Pt2) (b : Int) : Int := if b < 1 ∨ 10000 < b ∨ okP p.1 p.2 = false then 1 else if allOk (crnV p b) = true then 0 else 17
theorem octE_zero {p : Pt2} {b : Int} (h : octE p b = 0) : 1 ≤ b ∧ b ≤ 10000 ∧ okP p.1 p.2 = true ∧ ∀ q ∈ crnV p b, okP q.1 q.2 = true := by
  unfold octE at h
  split at h
  · cases h
  · split at h
    · rename_i h1 h2
      unfold allOk at h2
      rw [List.all_eq_true] at h2
      exact ⟨by omega, by omega, by simpa using fun h => h1 (.inr (.inr h)), h2⟩
    · cases h
theorem crnV_len (p : Pt2) (b : Int) : (crnV p b).length = 8 := crnN_len _ _ _ 2
theorem corners_ok {p : Pt2} {b : Int} (h1 : 1 ≤ b) (h2 : b ≤ 10000) (h3 : okP p.1 p.2 = true) (w : World) :
    Calls Try.prog 85 #[.agg #[.int .i64 p.1, .int .i64 p.2], .int .i64 b] w fun e w' => ∃ v, e = .returned v ∧ w'.ownsRow w.heap.size 23 2 v 8 ((crnV p b).flatMap ptV) ∧ Since w w' := by
  have := okP_iff.1 h3
  exact corners_any p.1 p.2 b w (by omega) (by omega) ⟨h1, h2⟩

set_option maxRecDepth 100000 in
set_option maxHeartbeats 4000000 in
theorem Octagon_any (p : Pt2) (b : Int) (w : World) :
    Calls Try.prog 43 #[.agg #[.int .i64 p.1, .int .i64 p.2], .int .i64 b] w fun e w' => ∃ v, e = .returned (.tuple #[v, .int .i64 (octE p b)]) ∧ (octE p b = 0 → w'.ownsRow w.heap.size 23 2 v (hullV (crnV p b)).length ((hullV (crnV p b)).flatMap ptV)) ∧ (octE p b ≠ 0 → v = .slice none 0 0) ∧ Since w w' := by
  by_cases h1 : b < 1
  · have hz : decide (b < 1) = true := by simpa using h1
    have HE : Hid (octE p b = 1) := by show _ = _; unfold octE; rw [if_pos (.inl h1)]
    go_enter Try.func43, Try.ntmps43
    go_wp2_with fail
    refine bodyPost_ret (v := .tuple #[.slice none 0 0, .int .i64 1]) (by simp [results, Try.results43, go_sem]) rfl ?_
    exact ⟨_, by rw [HE.out], fun h => (by rw [HE.out] at h; cases h), fun _ => rfl, (Since.rfl_ w).alloc _⟩
  · have hz : decide (b < 1) = false := by simpa using h1
    by_cases h2 : 10000 < b
    · have hz2 : decide (10000 < b) = true := by simpa using h2
      have HE : Hid (octE p b = 1) := by show _ = _; unfold octE; rw [if_pos (.inr (.inl h2))]
      go_enter Try.func43, Try.ntmps43
      go_wp2_with fail
      refine bodyPost_ret (v := .tuple #[.slice none 0 0, .int .i64 1]) (by simp [results, Try.results43, go_sem]) rfl ?_
      exact ⟨_, by rw [HE.out], fun h => (by rw [HE.out] at h; cases h), fun _ => rfl, (Since.rfl_ w).alloc _⟩
    · have hz2 : decide (10000 < b) = false := by simpa using h2
      cases h3 : okP p.1 p.2
      · have HE : Hid (octE p b = 1) := by show _ = _; unfold octE; rw [if_pos (.inr (.inr h3))]
        go_enter Try.func43, Try.ntmps43
        go_wp2_with fail
        refine (Ok_val h3 _).mono ?_
        rintro e w1 ⟨rfl, hs⟩
        have HS := Lib.hid (Since.trans ((Since.rfl_ w).alloc _) hs)
        clear hs
        go_wp2_with fail
        refine bodyPost_ret (v := .tuple #[.slice none 0 0, .int .i64 1]) (by simp [results, Try.results43, go_sem]) rfl ?_
        exact ⟨_, by rw [HE.out], fun h => (by rw [HE.out] at h; cases h), fun _ => rfl, HS.out⟩
      · have HE : Hid (octE p b = if allOk (crnV p b) = true then 0 else 17) := by
          show _ = _; unfold octE; rw [if_neg]; rw [h3]; simp; omega
        have HC := fun w => corners_ok (p := p) (b := b) (by omega) (by omega) h3 w
        go_enter Try.func43, Try.ntmps43
        go_wp2_with fail
        refine (Ok_val h3 _).mono ?_
        rintro e w1 ⟨rfl, hs⟩
        have hb1 := hs.blk (Blk.new w 23 #[.int .i64 p.1, .int .i64 p.2])
        have p0 : w1.cell? ⟨w.heap.size, 0, none⟩ = some (.int .i64 p.1) := hb1.cell 0
        have p1 : w1.cell? ⟨w.heap.size, 1, none⟩ = some (.int .i64 p.2) := hb1.cell 1
        have HS := Lib.hid (Since.trans ((Since.rfl_ w).alloc (.cells #[.int .i64 p.1, .int .i64 p.2] 23)) hs)
        clear hs hb1
        go_wp2_with fail
        refine (HC _).mono ?_
        rintro e w2 ⟨v, rfl, ho, hs⟩
        have hw1 := HS.out.size
        have HO := Lib.hid (ho.mono (base' := w.heap.size) hw1)
        have HS2 := Lib.hid (HS.out.trans hs)
        obtain ⟨a, c, rfl⟩ := own_slice ho
        have hg : ∃ g : Nat, a = some ⟨g, 0, none⟩ := by
          obtain ⟨-, ⟨h, h0⟩ | ⟨g, cap, cur, h, -⟩⟩ := ho
          · omega
          · injection h with h; exact ⟨g, h⟩
        obtain ⟨g, rfl⟩ := hg
        clear ho hs HS p0 p1 hw1
        go_wp2_with fail
        go_loopw [25] (fun v wr => ∃ k : Nat, k ≤ 8 ∧ v = .int .i64 k ∧ Hid (∀ i, i < k → okP (pAt (crnV p b) i).1 (pAt (crnV p b) i).2 = true) ∧ Hid (Since w2 wr)) (fun v _ => 8 - (intOf v).toNat)
        case atStart => exact ⟨0, by omega, rfl, fun i hi => absurd hi (Nat.not_lt_zero _), Since.rfl_ _⟩
        case round =>
          obtain ⟨k, hk, rfl, HG, HR⟩ := hrel
          rcases Nat.lt_or_ge k 8 with hlt | hge
          · have hz3 : decide ((k : Int) < 8) = true := by rw [decide_eq_true_eq]; omega
            obtain ⟨q, HQ⟩ : ∃ q : Pt2, Hid (q = pAt (crnV p b) k) := ⟨_, rfl⟩
            have hlen := crnV_len p b
            have hq := own_ptsB (own_since HR.out HO.out) hlen.symm (own_since HR.out HO.out |>.lt g rfl).2
            have hpts := hq.pts
            obtain ⟨a', c', hv, hpts⟩ := hpts
            injection hv with hv1 hv2 hv3
            subst hv1 hv3
            obtain ⟨g', o', ha, e0, e1⟩ := hpts k (by omega)
            injection ha with ha
            injection ha with ha1 ha2
            subst ha1 ha2
            rw [← HQ.out, Nat.zero_add] at e0 e1
            clear hpts hq hv2
            cases hok : okP q.1 q.2
            · have HN : Hid (octE p b = 17) := by
                show _ = _
                rw [HE.out, if_neg]
                unfold allOk
                rw [List.all_eq_true]
                intro h
                have := h _ (pAt_mem (s := crnV p b) (i := k) (by omega))
                rw [← HQ.out, hok] at this
                cases this
              go_wp2_with fail
              refine (Ok_val hok _).mono ?_
              rintro e w3 ⟨rfl, hs⟩
              have HS3 := Lib.hid (HS2.out.trans (HR.out.trans (Since.trans ((Since.rfl_ wr).alloc _) hs)))
              clear hs
              go_wp2_with fail
              refine bodyPost_ret (v := .tuple #[.slice none 0 0, .int .i64 17]) (by simp [results, Try.results43, go_sem]) rfl ?_
              exact ⟨_, by rw [HN.out], fun h => (by rw [HN.out] at h; cases h), fun _ => rfl, HS3.out⟩
            · have HG2 : Hid (∀ i, i < k + 1 → okP (pAt (crnV p b) i).1 (pAt (crnV p b) i).2 = true) := fun i hi => by
                rcases Nat.lt_succ_iff_lt_or_eq.1 hi with h | h
                · exact HG.out i h
                · rw [h, ← HQ.out]; exact hok
              go_wp2_with fail
              refine (Ok_val hok _).mono ?_
              rintro e w3 ⟨rfl, hs⟩
              have HR3 := Lib.hid (HR.out.trans (Since.trans ((Since.rfl_ wr).alloc _) hs))
              clear hs
              go_wp2_with fail
              go_roundw
              case rel => exact ⟨k + 1, by omega, by go_num, HG2, HR3⟩
              case measure => simp [intOf]; omega
          · obtain rfl : k = 8 := by omega
            have hlen := crnV_len p b
            have hall : ∀ q ∈ crnV p b, okP q.1 q.2 = true := fun q hq => by
              obtain ⟨i, hi, rfl⟩ := mem_pAt hq
              exact HG.out i (by omega)
            have HN : Hid (octE p b = 0) := by
              show _ = _
              rw [HE.out, if_pos]
              unfold allOk
              rw [List.all_eq_true]; exact hall
            have HS3 := Lib.hid (HS2.out.trans HR.out)
            have hwr := HS3.out.size
            have hne : crnV p b ≠ [] := by intro h; rw [h] at hlen; cases hlen
            have hof := OfH_any sort_spec rev_spec _ (crnV p b) wr (own_ptsB (own_since HR.out HO.out) hlen.symm (own_since HR.out HO.out |>.lt g rfl).2) hne (by omega) hall
            have HOF := Lib.hid hof
            clear hof hne hall
            go_wp2_with fail
            refine (HOF.out).mono ?_
            rintro e w4 ⟨v', rfl, ho, hs⟩
            have HO4 := Lib.hid (ho.mono (base' := w.heap.size) hwr)
            have HS4 := Lib.hid (HS3.out.trans hs)
            clear ho hs
            go_wp2_with fail
            refine bodyPost_ret (v := .tuple #[v', .int .i64 0]) (by simp [results, Try.results43, go_sem]) rfl ?_
            exact ⟨_, by rw [HN.out], fun _ => HO4.out, fun h => absurd HN.out h, HS4.out⟩
end Go.Proofs.Ytcckekdfeeghaaa
