/-
  Plain law of HotChains: chains begin and end where their segments do, and go one way over hot points. Conditions: valid segments.
-/
import Derived.Test.YtdbknodifpmmoaaK19
namespace Go.Proofs.Ytdbknodifpmmoaa
set_option linter.unusedSimpArgs false
set_option linter.unusedVariables false

theorem line_D {a b c d : Pt2} (h : OneLine a b c d) : crs c d a - crs c d b = 0 := by
  obtain ⟨r, s, hc, hd⟩ := h
  unfold toQ lerp at hc hd
  rw [Prod.ext_iff] at hc hd
  dsimp only at hc hd
  obtain ⟨c1, c2⟩ := hc
  obtain ⟨d1, d2⟩ := hd
  have h1 := crsQ c d a
  have h2 := crsQ c d b
  have : ((crs c d a - crs c d b : Int) : Rat) = 0 := by
    push_cast
    rw [h1, h2, c1, c2, d1, d2]
    grind
  exact cast0.1 this
theorem pix_one {p q : Pt2} {X : Q2} (hp : inP (toQ p) X) (hq : inP (toQ q) X) : p = q := by
  have one : ∀ {x y : Int} {z : Rat}, Box (z - x) → Box (z - y) → x = y := fun {x y z} h k => by
    unfold Box at h k
    have h1 : (x : Rat) < ((y + 1 : Int) : Rat) := by push_cast; grind
    have h2 : (y : Rat) < ((x + 1 : Int) : Rat) := by push_cast; grind
    have := castLt h1
    have := castLt h2
    omega
  exact Prod.ext (one hp.1 hq.1) (one hp.2 hq.2)
/-- No point is hot that was not hot among the segments as they were given. -/
theorem hot_first {l : List Sg} (hok : ∀ s ∈ l, SgOk s) {p : Pt2} (hp : p ∈ hotL (edgL (cs0 l))) : p ∈ hotL l := by
  have org : ∀ s ∈ edgL (cs0 l), ∃ t ∈ l, (s = t ∨ s = (t.2, t.1)) := by
    intro s hs
    obtain ⟨C, hC, x, y, k, rfl⟩ := edg_mem.1 hs
    obtain ⟨i, hi, rfl⟩ := ch_mem.1 hC
    have hi' : i < l.length := by simpa [cs0] using hi
    rw [cs0_at hi'] at k
    refine ⟨sgAt l i, sgAt_mem hi', ?_⟩
    have e : x = (sgAt l i).1 ∧ y = (sgAt l i).2 := by
      rcases adj_cons k with h | h
      · exact h
      · obtain ⟨u, v, e⟩ := h
        have := congrArg List.length e
        simp at this; omega
    rw [e.1, e.2]
    rcases ordE_cases (sgAt l i).1 (sgAt l i).2 with o | o
    · exact .inl (by rw [o])
    · exact .inr o
  have ends : ∀ s ∈ edgL (cs0 l), s.1 ∈ hotL l ∧ s.2 ∈ hotL l := by
    intro s hs
    obtain ⟨t, ht, e | e⟩ := org s hs <;> subst e
    · exact hot_end ht
    · exact (hot_end ht).symm
  have hE := (cs0_inv hok).1.eok
  obtain ⟨i, hi, k | k | ⟨j, hj, k⟩⟩ := hot_mem.1 hp
  · rw [k]; exact (ends _ (sgAt_mem hi)).1
  · rw [k]; exact (ends _ (sgAt_mem hi)).2
  · have hs := sgAt_mem hi
    have ht := sgAt_mem (l := edgL (cs0 l)) (i := j) (by omega)
    obtain ⟨s, hse⟩ : ∃ s, s = sgAt (edgL (cs0 l)) i := ⟨_, rfl⟩
    obtain ⟨t, hte⟩ : ∃ t, t = sgAt (edgL (cs0 l)) j := ⟨_, rfl⟩
    rw [← hse] at hs k
    rw [← hte] at ht k
    have os := hE s hs
    have ot := hE t ht
    unfold pairS at k
    split at k
    · rename_i hm
      rw [List.mem_singleton] at k
      by_cases hD : crs t.1 t.2 s.1 - crs t.1 t.2 s.2 = 0
      · -- parallel: a shared end
        rw [k]
        have hl : (sharedL s.1 s.2 t.1 t.2).length = 1 := by
          unfold smeetV at hm
          rw [turn_crs os.1 os.2.1 ot.1, turn_crs os.1 os.2.1 ot.2.1, turn_crs ot.1 ot.2.1 os.1, turn_crs ot.1 ot.2.1 os.2.1] at hm
          split at hm
          · rename_i h
            have := cmp_mul h.2
            omega
          · omega
        have hx : pAt (sharedL s.1 s.2 t.1 t.2) 0 ∈ sharedL s.1 s.2 t.1 t.2 := pAt_mem (by omega)
        unfold snapV
        rw [if_pos hl]
        rcases sharedL_mem hx with ⟨e, -⟩ | ⟨e, -⟩ | ⟨e, -⟩ | ⟨e, -⟩ <;> rw [e]
        · exact (ends s hs).1
        · exact (ends s hs).2
        · exact (ends t ht).1
        · exact (ends t ht).2
      · obtain ⟨u, v, hu, hv, e⟩ := meet_segI os.1 os.2.1 ot.1 ot.2.1 os.2.2 ot.2.2 (by omega)
        have hpx := (common_snap os.1 os.2.1 ot.1 ot.2.1 hu hv e hD).2
        obtain ⟨s', hs', es⟩ := org s hs
        obtain ⟨t', ht', et⟩ := org t ht
        have m1 : (s.1, s.2) ∈ l ∨ (s.2, s.1) ∈ l := by
          rcases es with es | es <;> subst es
          · exact .inl hs'
          · exact .inr hs'
        have m2 : (t.1, t.2) ∈ l ∨ (t.2, t.1) ∈ l := by
          rcases et with et | et <;> subst et
          · exact .inl ht'
          · exact .inr ht'
        rcases hot_common hok m1 m2 _ u v hu hv rfl e with ⟨h, hh, hx⟩ | h
        · rw [k, pix_one hpx hx]; exact hh
        · exact absurd (line_D h) hD
    · cases k
theorem next_last {H : List Pt2} (hH : HotOk H) : ∀ {C : List Pt2}, ChainOk H C → (nextC H C).getLast? = C.getLast?
  | [], h => absurd rfl h.ne
  | [x], h => by simp [nextC, nextG, pAt]
  | x :: y :: r, h => by
    obtain ⟨m, hm⟩ := h.ends hH
    rw [nextC_cons hm]
    have ih := next_last hH h.tail
    rw [List.getLast?_append, ih, List.getLast?_cons_cons]
    cases hg : (y :: r).getLast? with
    | none => simp at hg
    | some z => rfl
theorem next_head {H C : List Pt2} : (nextC H C).head? = some (pAt C 0) := by simp [nextC]
/-- A chain that goes one way, from its first point to its last. -/
theorem mono_far {sx sy : Int} : ∀ {C : List Pt2} {a b : Pt2}, MonoC sx sy C → C.head? = some a → C.getLast? = some b → 0 ≤ sx * (b.1 - a.1) ∧ 0 ≤ sy * (b.2 - a.2)
  | [], _, _, _, h, _ => by simp at h
  | [x], a, b, _, h1, h2 => by
    simp at h1 h2
    rw [← h1, ← h2]; simp
  | x :: y :: r, a, b, h, h1, h2 => by
    simp only [List.head?_cons, Option.some.injEq] at h1
    subst h1
    rw [List.getLast?_cons_cons] at h2
    have k := mono_far (fun p q hpq => h p q (adj_tail hpq)) (rfl : (y :: r).head? = some y) h2
    have k2 := h x y ⟨[], r, rfl⟩
    have e1 : sx * (b.1 - x.1) = sx * (y.1 - x.1) + sx * (b.1 - y.1) := by grind
    have e2 : sy * (b.2 - x.2) = sy * (y.2 - x.2) + sy * (b.2 - y.2) := by grind
    rw [e1, e2]
    omega
/-- From end to end. -/
def From (l : List Sg) (cs : List (List Pt2)) : Prop := ∀ i, i < l.length → (chAt cs i).head? = some (sgAt l i).1 ∧ (chAt cs i).getLast? = some (sgAt l i).2
theorem from_iter {l : List Sg} (hok : ∀ s ∈ l, SgOk s) : ∀ n, From l (iterC n (cs0 l))
  | 0, i, hi => by rw [show iterC 0 (cs0 l) = cs0 l from rfl, cs0_at hi]; simp
  | n + 1, i, hi => by
    obtain ⟨hI, hW⟩ := cs0_inv hok
    have hv := (iter_inv hI hW n).1
    have hH := hot_ok hv.eok
    have hlen : i < (iterC n (cs0 l)).length := by rw [iterC_len]; simpa [cs0] using hi
    have e : chAt (iterC (n + 1) (cs0 l)) i = nextC (hotL (edgL (iterC n (cs0 l)))) (chAt (iterC n (cs0 l)) i) := by
      show chAt (stepC _) i = _
      simp [stepC, chAt, List.getD, hlen]
    have ih := from_iter hok n i hi
    have hC := ch_mem.2 ⟨i, hlen, rfl⟩
    rw [e, next_last hH (hv.chain hC), next_head]
    refine ⟨?_, ih.2⟩
    obtain ⟨x, r, hx⟩ : ∃ x r, chAt (iterC n (cs0 l)) i = x :: r := by
      rcases hc : chAt (iterC n (cs0 l)) i with _ | ⟨x, r⟩
      · exact absurd hc (hv.chain hC).ne
      · exact ⟨x, r, rfl⟩
    rw [hx] at ih ⊢
    simpa [pAt] using ih.1
theorem iter_hot {l : List Sg} (hok : ∀ s ∈ l, SgOk s) : ∀ n p, p ∈ hotL (edgL (iterC n (cs0 l))) → p ∈ hotL l
  | 0, p, hp => hot_first hok hp
  | n + 1, p, hp => by
    obtain ⟨hI, hW⟩ := cs0_inv hok
    exact iter_hot hok n p (hot_sub (iter_inv hI hW n).1 hp)
theorem sg_prod {s x y : Int} (hs : s = 1 ∨ s = -1) (h : 0 ≤ s * x) (k : 0 ≤ s * y) : 0 ≤ y * x := by
  rcases hs with rfl | rfl
  · exact Int.mul_nonneg (by omega) (by omega)
  · exact Int.mul_nonneg_of_nonpos_of_nonpos (by omega) (by omega)
/-- A chain of hot.Chains. -/
structure ChOk (H : List Pt2) (s : Sg) (C : List Pt2) : Prop where
  two : 2 ≤ C.length
  fst : pAt C 0 = s.1
  lst : pAt C (C.length - 1) = s.2
  hot : ∀ k, k < C.length → pAt C k ∈ H
  way : ∀ k, k + 1 < C.length → pAt C (k + 1) ≠ pAt C k ∧ 0 ≤ ((pAt C (k + 1)).1 - (pAt C k).1) * (s.2.1 - s.1.1) ∧ 0 ≤ ((pAt C (k + 1)).2 - (pAt C k).2) * (s.2.2 - s.1.2)
  ok : ∀ k, k < C.length → okP (pAt C k).1 (pAt C k).2 = true
theorem chains_ok {l : List Sg} (hok : ∀ s ∈ l, SgOk s) (n : Nat) {i : Nat} (hi : i < l.length) : ChOk (hotL l) (sgAt l i) (chAt (iterC n (cs0 l)) i) := by
  obtain ⟨hI, hW⟩ := cs0_inv hok
  obtain ⟨hv, hw, -⟩ := iter_inv hI hW n
  have hlen : i < (iterC n (cs0 l)).length := by rw [iterC_len]; simpa [cs0] using hi
  have hC := ch_mem.2 ⟨i, hlen, rfl⟩
  obtain ⟨f1, f2⟩ := from_iter hok n i hi
  have h2 := hv.two _ hC
  have hch := hv.chain hC
  obtain ⟨C, hCC⟩ : ∃ C, C = chAt (iterC n (cs0 l)) i := ⟨_, rfl⟩
  rw [← hCC] at hC f1 f2 h2 hch ⊢
  have hne : C ≠ [] := hch.ne
  rw [last_pAt hne] at f2
  have g1 : pAt C 0 = (sgAt l i).1 := by
    obtain ⟨r, hr⟩ := head_pAt hne
    rw [hr] at f1
    simpa using f1
  have g2 : pAt C (C.length - 1) = (sgAt l i).2 := by simpa using f2
  obtain ⟨sx, sy, hx, hy, hm⟩ := hw C hC
  have far := mono_far hm (a := (sgAt l i).1) (b := (sgAt l i).2) (by obtain ⟨r, hr⟩ := head_pAt hne; rw [hr]; simp [g1]) (by rw [last_pAt hne, g2])
  refine ⟨h2, g1, g2, fun k hk => iter_hot hok n _ (hch.mem _ (pAt_mem hk)), fun k hk => ?_, fun k hk => hv.ok C hC _ (pAt_mem hk)⟩
  have h3 := hm _ _ (adj_at hk)
  exact ⟨fun e => h3.2.2 e.symm, by rw [Int.mul_comm]; exact sg_prod hx h3.1 far.1, by rw [Int.mul_comm]; exact sg_prod hy h3.2.1 far.2⟩
end Go.Proofs.Ytdbknodifpmmoaa
