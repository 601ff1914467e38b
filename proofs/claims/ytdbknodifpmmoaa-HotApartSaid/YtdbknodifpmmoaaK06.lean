/-
  The walk of hull.Has at points of the hull; Plain laws of the hull of points: sorted, each one once; its edges; points within it; Plain laws of strips: points near a segment; the octagon of the fact; Walks of point.Dot, point.On, terrkeep3.strips; Plain law: the edges of a hull meet at their common corners alone; The walk of seg.shared's closure; The walk of seg.shared. Conditions: those that each lemma names.
-/
import Derived.Test.YtdbknodifpmmoaaK05
section
namespace Go.Proofs.Ytdbknodifpmmoaa
set_option linter.unusedSimpArgs false
set_option linter.unusedVariables false
open Go.RowKit Go.BigFrame
attribute [local go_sem ↓] eqPt neqPt

theorem hull_ok {l : List Pt2} (h : ∀ q ∈ l, okP q.1 q.2 = true) : ∀ q ∈ hullV l, okP q.1 q.2 = true := by
  have hS : ∀ q ∈ hullS l, okP q.1 q.2 = true := fun q hq => by
    have := cmpL_mem hq
    unfold srtL at this
    exact h q (List.mem_mergeSort.1 this)
  have key : ∀ (X s : List Pt2), (∀ q ∈ s, okP q.1 q.2 = true) → (∀ q ∈ X, okP q.1 q.2 = true) → ∀ q ∈ X.foldl pushC s, okP q.1 q.2 = true := by
    intro X
    induction X with
    | nil => exact fun s h _ => h
    | cons p X ih =>
      intro s hs hX
      refine ih _ (fun q hq => ?_) (fun q hq => hX q (List.mem_cons_of_mem _ hq))
      unfold pushC at hq
      rcases List.mem_cons.1 hq with rfl | hq
      · exact hX q (by simp)
      · exact popC_ok hs q hq
  intro q hq
  unfold hullV hullX at hq
  split at hq
  · exact hS q hq
  · rcases List.mem_append.1 hq with hq | hq
    · exact key (hullS l) [] (by simp) hS q (List.mem_of_mem_tail (List.mem_reverse.1 hq))
    · exact key (hullS l).reverse [] (by simp) (fun q hq => hS q (by simpa using hq)) q (List.mem_of_mem_tail (List.mem_reverse.1 hq))

end Go.Proofs.Ytdbknodifpmmoaa
end
section
namespace Go.Proofs.Ytdbknodifpmmoaa
set_option linter.unusedSimpArgs false
set_option linter.unusedVariables false

theorem lxB_iff {a b : Pt2} : lxB a b = true ↔ lx a b := by unfold lxB lx; simp
theorem srtL_mem {l : List Pt2} {q : Pt2} : q ∈ srtL l ↔ q ∈ l := by unfold srtL; exact List.mem_mergeSort
theorem srtL_pw (l : List Pt2) : (srtL l).Pairwise fun x y => ¬ lx y x := by
  have := List.pairwise_mergeSort (le := fun x y : Pt2 => !lxB y x) (fun a b c h1 h2 => by
    simp only [Bool.not_eq_true', ← Bool.not_eq_true, lxB_iff] at *
    unfold lx at *; omega) (fun a b => by
    simp only [Bool.or_eq_true, Bool.not_eq_true', ← Bool.not_eq_true, lxB_iff]
    unfold lx; omega) l
  unfold srtL
  exact this.imp fun h => by simpa [← Bool.not_eq_true, lxB_iff] using h
theorem snoc_fold : ∀ (l acc : List Pt2), (∀ x ∈ acc, ∀ y ∈ l, ¬ lx y x) → (l.Pairwise fun x y => ¬ lx y x) → Srt acc → Srt (l.foldl snocC acc) ∧ ∀ q, q ∈ l.foldl snocC acc ↔ q ∈ acc ∨ q ∈ l
  | [], acc, _, _, h => ⟨h, fun q => by simp⟩
  | p :: l, acc, h1, h2, h3 => by
    rw [List.pairwise_cons] at h2
    rw [List.foldl_cons]
    have key : Srt (snocC acc p) ∧ ∀ q, q ∈ snocC acc p ↔ q ∈ acc ∨ q = p := by
      unfold snocC
      split
      · rename_i h
        have : acc = [] := List.length_eq_zero_iff.1 h
        subst this
        exact ⟨by unfold Srt; simp, fun q => by simp⟩
      · rename_i h
        have hl : lastP acc ∈ acc := pAt_mem (by omega)
        split
        · rename_i e
          exact ⟨h3, fun q => ⟨.inl, fun h => h.elim id fun h => by rw [h, e]; exact hl⟩⟩
        · rename_i e
          refine ⟨?_, fun q => by simp⟩
          unfold Srt at *
          rw [List.pairwise_append]
          refine ⟨h3, by simp, fun x hx y hy => ?_⟩
          rw [List.mem_singleton.1 hy]
          have a := h1 x hx p (by simp)
          rcases lx_tri x p with t | t | t
          · exact t
          · exfalso
            obtain ⟨i, hi, hx'⟩ := mem_pAt hx
            by_cases hL : i = acc.length - 1
            · apply e; rw [← t, ← hx', hL]; rfl
            · have hp := List.pairwise_iff_getElem.1 h3 i (acc.length - 1) hi (by omega) (by omega)
              have e1 : acc[i] = x := by rw [← hx']; simp [pAt, List.getD, hi]
              have e2 : acc[acc.length - 1] = lastP acc := by simp [lastP, pAt, List.getD, show acc.length - 1 < acc.length by omega]
              rw [e1, e2, t] at hp
              exact h1 _ hl p (by simp) hp
          · exact absurd t a
    have := snoc_fold l (snocC acc p) (fun x hx y hy => by
      rcases (key.2 x).1 hx with g | g
      · exact h1 x g y (List.mem_cons_of_mem _ hy)
      · rw [g]; exact h2.1 y hy) h2.2 key.1
    refine ⟨this.1, fun q => ?_⟩
    rw [this.2, key.2, List.mem_cons, or_assoc]
theorem hullS_srt (l : List Pt2) : Srt (hullS l) := (snoc_fold (srtL l) [] (by simp) (srtL_pw l) (by unfold Srt; simp)).1
theorem hullS_mem {l : List Pt2} {q : Pt2} : q ∈ hullS l ↔ q ∈ l := by
  have := (snoc_fold (srtL l) [] (by simp) (srtL_pw l) (by unfold Srt; simp)).2 q
  unfold hullS cmpL
  rw [this, srtL_mem]; simp
theorem hullS_ext {l m : List Pt2} (h : ∀ q, q ∈ l ↔ q ∈ m) : hullS l = hullS m := srt_ext (hullS_srt l) (hullS_srt m) fun q => by rw [hullS_mem, hullS_mem, h]
theorem hullV_ext {l m : List Pt2} (h : ∀ q, q ∈ l ↔ q ∈ m) : hullV l = hullV m := by unfold hullV; rw [hullS_ext h]
theorem hullV_ring {l : List Pt2} (h : 2 ≤ (hullS l).length) : hullV l = ringOf (chainT (hullS l)) (chainT (hullS l).reverse) := by unfold hullV hullX; rw [if_neg (by omega)]; rfl
theorem two_mem {l : List Pt2} {x y : Pt2} (hx : x ∈ l) (hy : y ∈ l) (h : x ≠ y) : 2 ≤ (hullS l).length := by
  have h1 := hullS_mem.2 hx
  have h2 := hullS_mem.2 hy
  match hS : hullS l, h1, h2 with
  | [], h1, _ => cases h1
  | [z], h1, h2 => rw [List.mem_singleton] at h1 h2; exact absurd (h1.trans h2.symm) h
  | _ :: _ :: _, _, _ => simp
theorem crs_swap (a b q : Pt2) : crs b a q = - crs a b q := by unfold crs crossV; grind
/-- The facts of a hull with three points that are not on a line. -/
structure Ring3 (l H : List Pt2) : Prop where
  n3 : 3 ≤ H.length
  edge : ∀ i, i < H.length → Edge l (pAt H i) (pAt H ((i + 1) % H.length))
  nodup : ∀ i j, i < j → j < H.length → pAt H i ≠ pAt H j
  mem : ∀ i, i < H.length → pAt H i ∈ l
  first : ∀ x ∈ l, x = pAt H 0 ∨ lx (pAt H 0) x
theorem flat_line {a b x y z : Pt2} (hab : a ≠ b) (hx : crs a b x = 0) (hy : crs a b y = 0) (hz : crs a b z = 0) : crs x y z = 0 := by
  unfold crs crossV at *
  have key : ∀ u v u' v' p q : Int, (u ≠ 0 ∨ v ≠ 0) → u * q - v * p = 0 → u * v' - v * u' = 0 → p * v' - q * u' = 0 := by
    intro u v u' v' p q h h1 h2
    rcases h with h | h
    · have : u * (p * v' - q * u') = 0 := by grind
      rcases Int.mul_eq_zero.1 this with g | g
      · exact absurd g h
      · exact g
    · have : v * (p * v' - q * u') = 0 := by grind
      rcases Int.mul_eq_zero.1 this with g | g
      · exact absurd g h
      · exact g
  have hne : (b.1 - a.1 ≠ 0 ∨ b.2 - a.2 ≠ 0) := by
    by_cases h : b.1 - a.1 = 0
    · right
      intro h2
      exact hab (Prod.ext (by omega) (by omega))
    · exact .inl h
  refine key (b.1 - a.1) (b.2 - a.2) _ _ _ _ hne ?_ ?_ <;> grind
theorem ring3 {l : List Pt2} {x y z : Pt2} (hx : x ∈ l) (hy : y ∈ l) (hz : z ∈ l) (h : crs x y z ≠ 0) : Ring3 l (hullV l) := by
  have hxy : x ≠ y := by rintro rfl; exact h (crs_self x z).2.2
  have h2 := two_mem hx hy hxy
  have T := two_of (hullS_srt l) h2
  rw [hullV_ring h2]
  have hE : ∀ i, i < (ringOf (chainT (hullS l)) (chainT (hullS l).reverse)).length → Edge l (pAt (ringOf (chainT (hullS l)) (chainT (hullS l).reverse)) i) (pAt (ringOf (chainT (hullS l)) (chainT (hullS l).reverse)) ((i + 1) % (ringOf (chainT (hullS l)) (chainT (hullS l).reverse)).length)) := fun i hi => by
    obtain ⟨e1, e2, e3⟩ := T.cyc hi
    exact ⟨e1, fun q hq => e2 q (hullS_mem.2 hq), fun q hq => e3 q (hullS_mem.2 hq)⟩
  have hN : ∀ i j, i < j → j < (ringOf (chainT (hullS l)) (chainT (hullS l).reverse)).length → pAt (ringOf (chainT (hullS l)) (chainT (hullS l).reverse)) i ≠ pAt (ringOf (chainT (hullS l)) (chainT (hullS l).reverse)) j := fun i j a b => T.nodup a b
  have hM : ∀ i, i < (ringOf (chainT (hullS l)) (chainT (hullS l).reverse)).length → pAt (ringOf (chainT (hullS l)) (chainT (hullS l).reverse)) i ∈ l := fun i hi => hullS_mem.1 (T.memX hi)
  have hF := fun q (hq : q ∈ l) => T.first q (hullS_mem.2 hq)
  have hlen := ring_len (s := chainT (hullS l)) (u := chainT (hullS l).reverse)
  have g1 := T.s2
  have g2 := T.u2
  generalize ringOf (chainT (hullS l)) (chainT (hullS l).reverse) = H at *
  refine ⟨?_, hE, hN, hM, hF⟩
  · rcases Nat.lt_or_ge H.length 3 with g | g
    · exfalso
      have hn : H.length = 2 := by omega
      have e0 := hE 0 (by omega)
      have e1 := hE 1 (by omega)
      rw [hn] at e0 e1
      simp only [Nat.zero_add, Nat.reduceAdd, Nat.reduceMod] at e0 e1
      have key : ∀ q ∈ l, crs (pAt H 0) (pAt H 1) q = 0 := fun q hq => by
        have a1 := e0.2.1 q hq
        have a2 := e1.2.1 q hq
        rw [crs_swap] at a2
        omega
      exact h (flat_line e0.1 (key x hx) (key y hy) (key z hz))
    · exact g

/-! ### Points near a segment -/
theorem sq_nn (x : Int) : 0 ≤ x * x := by
  rcases Int.le_total 0 x with h | h
  · exact Int.mul_nonneg h h
  · exact Int.mul_nonneg_of_nonpos_of_nonpos h h
/-- A point between two others, on their line. -/
theorem on_mid {f : Int × Int → Int} {g1 g2 c : Int} {P Q M : Pt2} (hf : ∀ x : Pt2, f x = f P + g1 * (x.1 - P.1) + g2 * (x.2 - P.2)) (hP : c ≤ f P) (hQ : c ≤ f Q) (hc : crs P Q M = 0) (hd : (P.1 - M.1) * (Q.1 - M.1) + (P.2 - M.2) * (Q.2 - M.2) ≤ 0) : c ≤ f M := by
  have hq := hf Q
  have hm := hf M
  unfold crs crossV at hc
  obtain ⟨q1, hq1⟩ : ∃ q1, q1 = Q.1 - P.1 := ⟨_, rfl⟩
  obtain ⟨q2, hq2⟩ : ∃ q2, q2 = Q.2 - P.2 := ⟨_, rfl⟩
  obtain ⟨m1, hm1⟩ : ∃ m1, m1 = M.1 - P.1 := ⟨_, rfl⟩
  obtain ⟨m2, hm2⟩ : ∃ m2, m2 = M.2 - P.2 := ⟨_, rfl⟩
  rw [← hq1, ← hq2] at hc hq
  rw [← hm1, ← hm2] at hc hm
  have hd2 : m1 * m1 + m2 * m2 ≤ m1 * q1 + m2 * q2 := by
    have e1 : P.1 - M.1 = -m1 := by omega
    have e2 : P.2 - M.2 = -m2 := by omega
    have e3 : Q.1 - M.1 = q1 - m1 := by omega
    have e4 : Q.2 - M.2 = q2 - m2 := by omega
    rw [e1, e2, e3, e4] at hd
    grind
  generalize f P = fp at *
  generalize f Q = fq at *
  generalize f M = fm at *
  clear hf hq1 hq2 hm1 hm2 hd
  have s1 : 0 ≤ m1 * m1 := sq_nn m1
  have s2 : 0 ≤ m2 * m2 := sq_nn m2
  obtain ⟨D, hD⟩ : ∃ D, D = m1 * q1 + m2 * q2 := ⟨_, rfl⟩
  obtain ⟨S, hS⟩ : ∃ S, S = m1 * m1 + m2 * m2 := ⟨_, rfl⟩
  obtain ⟨L, hL⟩ : ∃ L, L = q1 * q1 + q2 * q2 := ⟨_, rfl⟩
  have hSD : S ≤ D := by omega
  have hDD : D * D = S * L := by rw [hD, hS, hL]; grind
  have hS0 : 0 ≤ S := by omega
  by_cases h0 : D = 0
  · have e1 : m1 * m1 = 0 := by omega
    have e2 : m2 * m2 = 0 := by omega
    have z1 : m1 = 0 := by rcases Int.mul_eq_zero.1 e1 with h | h <;> exact h
    have z2 : m2 = 0 := by rcases Int.mul_eq_zero.1 e2 with h | h <;> exact h
    rw [z1, z2] at hm
    omega
  · have hp : 0 < D := by omega
    have hDL : D ≤ L := by
      rcases Int.lt_or_le L D with h | h
      · exfalso
        have a1 : S * L ≤ S * D := Int.mul_le_mul_of_nonneg_left (by omega) hS0
        have a2 : S * D ≤ D * D := Int.mul_le_mul_of_nonneg_right hSD (by omega)
        have a3 : S * D = D * D := by omega
        have a4 : S = D := Int.eq_of_mul_eq_mul_right (by omega) a3
        rw [a4] at hDD
        have := Int.eq_of_mul_eq_mul_left (by omega) hDD
        omega
      · exact h
    have e : L * fm = (L - D) * fp + D * fq := by
      rw [hm, hq, hL, hD]; grind
    have b1 : (L - D) * c ≤ (L - D) * fp := Int.mul_le_mul_of_nonneg_left hP (by omega)
    have b2 : D * c ≤ D * fq := Int.mul_le_mul_of_nonneg_left hQ (by omega)
    have b3 : L * c ≤ L * fm := by
      rw [e]
      have : L * c = (L - D) * c + D * c := by grind
      omega
    exact Int.le_of_mul_le_mul_left b3 (by omega)
theorem far_near (b : Int) (h1 : 3 ≤ b) (h2 : b ≤ 32) : 2 * (2 * b / 3) ≤ 5 * b / 12 + b := by omega
/-- Of a linear form that is at least n at the eight corners the value near the middle. -/
theorem form_near {g1 g2 v k b r d1 d2 : Int} (hk : 0 ≤ k) (hb : 0 ≤ b) (hr : 2 * r ≤ k + b) (h : ∀ s1 s2 : Int, (s1 = -1 ∨ s1 = 1) → (s2 = -1 ∨ s2 = 1) → 0 ≤ v + g1 * (s1 * k) + g2 * (s2 * b) ∧ 0 ≤ v + g1 * (s1 * b) + g2 * (s2 * k)) (h1 : -r ≤ d1 ∧ d1 ≤ r) (h2 : -r ≤ d2 ∧ d2 ≤ r) : 0 ≤ v + g1 * d1 + g2 * d2 := by
  obtain ⟨t1, ht1, e1⟩ : ∃ t1, (t1 = -1 ∨ t1 = 1) ∧ g1 * t1 ≤ 0 := by
    rcases Int.le_total 0 g1 with h | h
    · exact ⟨-1, .inl rfl, by omega⟩
    · exact ⟨1, .inr rfl, by omega⟩
  obtain ⟨t2, ht2, e2⟩ : ∃ t2, (t2 = -1 ∨ t2 = 1) ∧ g2 * t2 ≤ 0 := by
    rcases Int.le_total 0 g2 with h | h
    · exact ⟨-1, .inl rfl, by omega⟩
    · exact ⟨1, .inr rfl, by omega⟩
  obtain ⟨a, c⟩ := h t1 t2 ht1 ht2
  have m1 : g1 * t1 * r ≤ g1 * d1 := by
    rcases ht1 with rfl | rfl
    · have : 0 ≤ g1 := by omega
      have := Int.mul_le_mul_of_nonneg_left (show -r ≤ d1 by omega) this
      grind
    · have : g1 ≤ 0 := by omega
      have := Int.mul_le_mul_of_nonpos_left this (show d1 ≤ r by omega)
      grind
  have m2 : g2 * t2 * r ≤ g2 * d2 := by
    rcases ht2 with rfl | rfl
    · have : 0 ≤ g2 := by omega
      have := Int.mul_le_mul_of_nonneg_left (show -r ≤ d2 by omega) this
      grind
    · have : g2 ≤ 0 := by omega
      have := Int.mul_le_mul_of_nonpos_left this (show d2 ≤ r by omega)
      grind
  have m3 : (g1 * t1 + g2 * t2) * (k + b) ≤ (g1 * t1 + g2 * t2) * (2 * r) := Int.mul_le_mul_of_nonpos_left (by omega) hr
  have e : 2 * v + (g1 * t1 + g2 * t2) * (k + b) = (v + g1 * (t1 * k) + g2 * (t2 * b)) + (v + g1 * (t1 * b) + g2 * (t2 * k)) := by grind
  have e' : (g1 * t1 + g2 * t2) * (2 * r) = 2 * (g1 * t1 * r + g2 * t2 * r) := by grind
  omega
end Go.Proofs.Ytdbknodifpmmoaa
end
section
namespace Go.Proofs.Ytdbknodifpmmoaa
set_option linter.unusedSimpArgs false
set_option linter.unusedVariables false

theorem crnV_form (p : Pt2) (b : Int) : crnV p b = [(p.1 + -1 * (5 * b / 12), p.2 + -1 * b), (p.1 + 1 * (5 * b / 12), p.2 + -1 * b), (p.1 + 1 * (5 * b / 12), p.2 + 1 * b), (p.1 + -1 * (5 * b / 12), p.2 + 1 * b),
    (p.1 + -1 * b, p.2 + -1 * (5 * b / 12)), (p.1 + 1 * b, p.2 + -1 * (5 * b / 12)), (p.1 + 1 * b, p.2 + 1 * (5 * b / 12)), (p.1 + -1 * b, p.2 + 1 * (5 * b / 12))] := rfl
theorem crnV_corner (p : Pt2) (b s1 s2 : Int) (h1 : s1 = -1 ∨ s1 = 1) (h2 : s2 = -1 ∨ s2 = 1) : (p.1 + s1 * (5 * b / 12), p.2 + s2 * b) ∈ crnV p b ∧ (p.1 + s1 * b, p.2 + s2 * (5 * b / 12)) ∈ crnV p b := by
  rw [crnV_form]
  rcases h1 with rfl | rfl <;> rcases h2 with rfl | rfl <;> simp
theorem crn_three {p : Pt2} {b : Int} (hb : 1 ≤ b) : ∃ x y z, x ∈ crnV p b ∧ y ∈ crnV p b ∧ z ∈ crnV p b ∧ crs x y z ≠ 0 := by
  refine ⟨_, _, _, (crnV_corner p b (-1) (-1) (.inl rfl) (.inl rfl)).2, (crnV_corner p b 1 (-1) (.inr rfl) (.inl rfl)).2, (crnV_corner p b (-1) 1 (.inl rfl) (.inr rfl)).1, ?_⟩
  unfold crs crossV
  dsimp only
  have e : (p.1 + 1 * b - (p.1 + -1 * b)) * (p.2 + 1 * b - (p.2 + -1 * (5 * b / 12))) - (p.2 + -1 * (5 * b / 12) - (p.2 + -1 * (5 * b / 12))) * (p.1 + -1 * (5 * b / 12) - (p.1 + -1 * b)) = (2 * b) * (b + 5 * b / 12) := by
    generalize 5 * b / 12 = k
    grind
  rw [e]
  have : 0 < (2 * b) * (b + 5 * b / 12) := Int.mul_pos (by omega) (by omega)
  omega
theorem oct_ring {p : Pt2} {b : Int} (hb : 1 ≤ b) : Ring3 (crnV p b) (hullV (crnV p b)) := by
  obtain ⟨x, y, z, hx, hy, hz, h⟩ := crn_three (p := p) hb
  exact ring3 hx hy hz h
theorem str_ring {p q : Pt2} {b : Int} (hb : 1 ≤ b) : Ring3 (strL p q b) (hullV (strL p q b)) := by
  obtain ⟨x, y, z, hx, hy, hz, h⟩ := crn_three (p := p) hb
  exact ring3 (List.mem_append_left _ hx) (List.mem_append_left _ hy) (List.mem_append_left _ hz) h
theorem edge_near {p q a e m : Pt2} {b d1 d2 : Int} (hb : 3 ≤ b ∧ b ≤ 32) (hE : Edge (strL p q b) a e) (h1 : -(2 * b / 3) ≤ d1 ∧ d1 ≤ 2 * b / 3) (h2 : -(2 * b / 3) ≤ d2 ∧ d2 ≤ 2 * b / 3)
    (hc : crs p q m = 0) (hd : (p.1 - m.1) * (q.1 - m.1) + (p.2 - m.2) * (q.2 - m.2) ≤ 0) : 0 ≤ crs a e (m.1 + d1, m.2 + d2) := by
  have hfar := far_near b hb.1 hb.2
  have hk : 0 ≤ 5 * b / 12 := by omega
  have near : ∀ x : Pt2, (∀ y ∈ crnV x b, 0 ≤ crs a e y) → 0 ≤ crs a e (x.1 + d1, x.2 + d2) := fun x hx => by
    have := form_near (g1 := -(e.2 - a.2)) (g2 := e.1 - a.1) (v := crs a e x) (k := 5 * b / 12) (b := b) (r := 2 * b / 3) (d1 := d1) (d2 := d2) hk (by omega) (by omega) (fun s1 s2 hs1 hs2 => by
      obtain ⟨c1, c2⟩ := crnV_corner x b s1 s2 hs1 hs2
      have i1 := hx _ c1
      have i2 := hx _ c2
      generalize 5 * b / 12 = k at *
      unfold crs crossV at *
      dsimp only at i1 i2
      constructor <;> grind) h1 h2
    unfold crs crossV at *
    grind
  refine on_mid (f := fun x => crs a e (x.1 + d1, x.2 + d2)) (g1 := -(e.2 - a.2)) (g2 := e.1 - a.1) (P := p) (Q := q) (M := m) (fun x => by unfold crs crossV; grind) (near p fun y hy => ?_) (near q fun y hy => ?_) hc hd
  · exact hE.2.1 y (List.mem_append_left _ hy)
  · exact hE.2.1 y (List.mem_append_right _ hy)

theorem hullV_len (l : List Pt2) : (hullV l).length ≤ 2 * l.length := by
  have h1 := cmpL_le (srtL l)
  have h2 : (srtL l).length = l.length := by unfold srtL; simp
  have h3 := chain_len (hullS l)
  have h4 := chain_len (hullS l).reverse
  have h5 : (hullS l).length ≤ l.length := by unfold hullS; omega
  rw [List.length_reverse] at h4
  unfold hullV hullX
  split
  · omega
  · rw [List.length_append, List.length_reverse, List.length_reverse, List.length_tail, List.length_tail]
    unfold chainT
    omega
theorem hullV_again {l : List Pt2} (h : Ring3 l (hullV l)) : hullV (hullV l) = hullV l := by
  have h2 : 2 ≤ (hullS l).length := two_mem (h.mem 0 (by have := h.n3; omega)) (h.mem 1 (by have := h.n3; omega)) (h.nodup 0 1 (by omega) (by have := h.n3; omega))
  have e := hullV_ring h2
  have hm : ∀ x, x ∈ hullS (hullV l) ↔ x ∈ ringOf (chainT (hullS l)) (chainT (hullS l).reverse) := fun x => by rw [hullS_mem, e]
  obtain ⟨a1, a2, a3⟩ := hull_again (hullS_srt l) h2 (hullS_srt (hullV l)) hm
  rw [hullV_ring a3, a1, a2, ← e]
def oct12 : List Pt2 := [(-12, -5), (-12, 5), (-5, -12), (-5, 12), (5, -12), (5, 12), (12, -5), (12, 5)]
theorem oct12_hull : hullV (crnV (0, 0) 12) = [(-12, -5), (-5, -12), (5, -12), (12, -5), (12, 5), (5, 12), (-5, 12), (-12, 5)] := by
  have hs : Srt oct12 := by unfold Srt oct12; simp [lx]
  have e : hullS (crnV (0, 0) 12) = oct12 := srt_ext (hullS_srt _) hs fun q => by
    rw [hullS_mem, crnV_form]
    simp only [oct12, List.mem_cons, List.not_mem_nil, or_false]
    simp
    grind
  unfold hullV
  rw [e]
  decide
theorem oct12_err : octE (0, 0) 12 = 0 := by decide
end Go.Proofs.Ytdbknodifpmmoaa
end
section
namespace Go.Proofs.Ytdbknodifpmmoaa
set_option linter.unusedSimpArgs false
set_option linter.unusedVariables false
open Go.RowKit Go.BigFrame
attribute [local go_sem ↓] eqPt neqPt

def dotV (ax ay bx by_ px py : Int) : Int := (bx - ax) * (px - ax) + (by_ - ay) * (py - ay)
set_option maxHeartbeats 1000000 in
theorem Dot_any (ax ay bx by_ cx cy : Int) (w : World) : Calls Try.prog 39 #[.agg #[.int .i64 ax, .int .i64 ay], .agg #[.int .i64 bx, .int .i64 by_], .agg #[.int .i64 cx, .int .i64 cy]] w fun e w' =>
    e = .returned (.int .i64 (dotV (clampI ax) (clampI ay) (clampI bx) (clampI by_) (clampI cx) (clampI cy))) ∧ Since w w' := by
  have q1 := clampI_bd ax
  have q2 := clampI_bd ay
  have q3 := clampI_bd bx
  have q4 := clampI_bd by_
  have q5 := clampI_bd cx
  have q6 := clampI_bd cy
  have m1 : ((clampI bx - clampI ax) * (clampI cx - clampI ax)).natAbs ≤ 4398046511104 := Nat.le_trans (mul_bd (A := 2097152) (B := 2097152) (by omega) (by omega)) (by decide)
  have m2 : ((clampI by_ - clampI ay) * (clampI cy - clampI ay)).natAbs ≤ 4398046511104 := Nat.le_trans (mul_bd (A := 2097152) (B := 2097152) (by omega) (by omega)) (by decide)
  have e1 : wrap64 ((clampI bx - clampI ax) * (clampI cx - clampI ax)) = (clampI bx - clampI ax) * (clampI cx - clampI ax) := wrap_id (by omega)
  have e2 : wrap64 ((clampI by_ - clampI ay) * (clampI cy - clampI ay)) = (clampI by_ - clampI ay) * (clampI cy - clampI ay) := wrap_id (by omega)
  have e3 : wrap64 ((clampI bx - clampI ax) * (clampI cx - clampI ax) + (clampI by_ - clampI ay) * (clampI cy - clampI ay)) = (clampI bx - clampI ax) * (clampI cx - clampI ax) + (clampI by_ - clampI ay) * (clampI cy - clampI ay) := wrap_id (by omega)
  clear m1 m2 q1 q2 q3 q4 q5 q6
  go_enter Try.func39, Try.ntmps39
  go_upto_region 1 with fail
  refine atW (fun w' => Blk w' w.heap.size 26 #[.int .i64 ax, .int .i64 ay] ∧ Blk w' (w.heap.size + 1) 26 #[.int .i64 bx, .int .i64 by_] ∧ Blk w' (w.heap.size + 1 + 1) 26 #[.int .i64 cx, .int .i64 cy] ∧ Since w w') ⟨((Blk.new w _ _).alloc _).alloc _, (Blk.new' (by simp)).alloc _, Blk.new' (by simp), (((Since.rfl_ w).alloc _).alloc _).alloc _⟩ ?_
  rintro w1 ⟨ha, hb, hr, hs⟩
  have a0 : w1.cell? ⟨w.heap.size, 0, none⟩ = some (.int .i64 ax) := ha.cell 0
  have a1 : w1.cell? ⟨w.heap.size, 1, none⟩ = some (.int .i64 ay) := ha.cell 1
  have b0 : w1.cell? ⟨w.heap.size + 1, 0, none⟩ = some (.int .i64 bx) := hb.cell 0
  have b1 : w1.cell? ⟨w.heap.size + 1, 1, none⟩ = some (.int .i64 by_) := hb.cell 1
  have c0 : w1.cell? ⟨w.heap.size + 1 + 1, 0, none⟩ = some (.int .i64 cx) := hr.cell 0
  have c1 : w1.cell? ⟨w.heap.size + 1 + 1, 1, none⟩ = some (.int .i64 cy) := hr.cell 1
  have HB := Lib.hid (And.intro ha (And.intro hb (And.intro hr hs)))
  clear ha hb hr hs
  apply region_facts 8 (fun w' => w'.cell? ⟨w.heap.size, 0, none⟩ = some (.int .i64 ax) ∧ w'.cell? ⟨w.heap.size, 1, none⟩ = some (.int .i64 ay) ∧ w'.cell? ⟨w.heap.size + 1, 0, none⟩ = some (.int .i64 bx) ∧ w'.cell? ⟨w.heap.size + 1, 1, none⟩ = some (.int .i64 by_) ∧ w'.cell? ⟨w.heap.size + 1 + 1, 0, none⟩ = some (.int .i64 cx) ∧ w'.cell? ⟨w.heap.size + 1 + 1, 1, none⟩ = some (.int .i64 cy) ∧ Since w1 w')
  case hm => kernel_rfl
  case hB => kernel_rfl
  case hS => exact ⟨a0, a1, b0, b1, c0, c1, (Since.rfl_ w1).drew⟩
  case h =>
  simp only [List.take_succ_cons, List.take_zero, List.drop_succ_cons, List.drop_zero]
  apply wpO_det
  case hw => rfl
  case h =>
    intro hFm wx hS_ hF_ K hK
    go_big_quiet_op
    first
      | exact hK _ rfl
      | (apply Exists.intro; refine ⟨fun _ => ?_, ?_⟩; (focus (first | (intro hC; have hC := hC.out; (try simp only [hC, Result.andThen]); first | exact ⟨True.intro, rfl⟩ | exact ⟨rfl, rfl⟩ | rfl))); exact hK _ rfl)
  case k =>
  simp only [Act.put, List.setIfInBounds_toArray, List.set_cons_succ, List.set_cons_zero, List.cons_append, List.nil_append]
  apply wpO_det
  case hw => rfl
  case h =>
    intro hFm wx hS_ hF_ K hK
    go_big_quiet_op
    first
      | exact hK _ rfl
      | (apply Exists.intro; refine ⟨fun _ => ?_, ?_⟩; (focus (first | (intro hC; have hC := hC.out; (try simp only [hC, Result.andThen]); first | exact ⟨True.intro, rfl⟩ | exact ⟨rfl, rfl⟩ | rfl))); exact hK _ rfl)
  case k =>
  simp only [Act.put, List.setIfInBounds_toArray, List.set_cons_succ, List.set_cons_zero, List.cons_append, List.nil_append]
  apply wpO_det
  case hw => rfl
  case h =>
    intro hFm wx hS_ hF_ K hK
    go_big_quiet_op
    first
      | exact hK _ rfl
      | (apply Exists.intro; refine ⟨fun _ => ?_, ?_⟩; (focus (first | (intro hC; go_at_call 79; refine (way_any _ _ _ _ _).mono ?_; rintro e w' ⟨rfl, hb⟩; refine ⟨rfl, ?_⟩; exact cls_call hFm hC hb))); exact hK _ rfl)
  case k =>
  simp only [Act.put, List.setIfInBounds_toArray, List.set_cons_succ, List.set_cons_zero, List.cons_append, List.nil_append]
  apply wpO_det
  case hw => rfl
  case h =>
    intro hFm wx hS_ hF_ K hK
    go_big_quiet_op
    first
      | exact hK _ rfl
      | (apply Exists.intro; refine ⟨fun _ => ?_, ?_⟩; (focus (first | (intro hC; have hC := hC.out; (try simp only [hC, Result.andThen]); first | exact ⟨True.intro, rfl⟩ | exact ⟨rfl, rfl⟩ | rfl))); exact hK _ rfl)
  case k =>
  simp only [Act.put, List.setIfInBounds_toArray, List.set_cons_succ, List.set_cons_zero, List.cons_append, List.nil_append]
  apply wpO_det
  case hw => rfl
  case h =>
    intro hFm wx hS_ hF_ K hK
    go_big_quiet_op
    first
      | exact hK _ rfl
      | (apply Exists.intro; refine ⟨fun _ => ?_, ?_⟩; (focus (first | (intro hC; have hC := hC.out; (try simp only [hC, Result.andThen]); first | exact ⟨True.intro, rfl⟩ | exact ⟨rfl, rfl⟩ | rfl))); exact hK _ rfl)
  case k =>
  simp only [Act.put, List.setIfInBounds_toArray, List.set_cons_succ, List.set_cons_zero, List.cons_append, List.nil_append]
  apply wpO_det
  case hw => rfl
  case h =>
    intro hFm wx hS_ hF_ K hK
    go_big_quiet_op
    first
      | exact hK _ rfl
      | (apply Exists.intro; refine ⟨fun _ => ?_, ?_⟩; (focus (first | (intro hC; go_at_call 79; refine (way_any _ _ _ _ _).mono ?_; rintro e w' ⟨rfl, hb⟩; refine ⟨rfl, ?_⟩; exact cls_call hFm hC hb))); exact hK _ rfl)
  case k =>
  simp only [Act.put, List.setIfInBounds_toArray, List.set_cons_succ, List.set_cons_zero, List.cons_append, List.nil_append]
  apply wpO_mk (f := fun g => .pointer (some ⟨g, 0, none⟩)) (t := 26) (cs := #[.int .i64 0, .int .i64 0])
  case hi => (intro g g' h; simpa using h)
  case hw => rfl
  case h => (intro w; simp [go_sem])
  case k =>
  intro g1
  simp only [Act.put, List.setIfInBounds_toArray, List.set_cons_succ, List.set_cons_zero, List.cons_append, List.nil_append]
  apply wpO_mk (f := fun g => .pointer (some ⟨g, 0, none⟩)) (t := 26) (cs := #[.int .i64 0, .int .i64 0])
  case hi => (intro g g' h; simpa using h)
  case hw => rfl
  case h => (intro w; simp [go_sem])
  case k =>
  intro g2
  simp only [Act.put, List.setIfInBounds_toArray, List.set_cons_succ, List.set_cons_zero, List.cons_append, List.nil_append]
  refine wpO_nil ?_
  intro w2 hS hF hB
  (try simp [allF] at hF)
  (try simp [List.pairwise_cons] at hB)
  obtain ⟨⟨h1, l1⟩, h2, l2⟩ := hF
  have p_0 := h1.cell 0
  have p_1 := h1.cell 1
  have p_f0 := h1.frozen 0
  have p_f1 := h1.frozen 1
  simp only [List.getElem?_toArray, List.getElem?_cons_zero, List.getElem?_cons_succ] at p_0 p_1
  have q_0 := h2.cell 0
  have q_1 := h2.cell 1
  have q_f0 := h2.frozen 0
  have q_f1 := h2.frozen 1
  simp only [List.getElem?_toArray, List.getElem?_cons_zero, List.getElem?_cons_succ] at q_0 q_1
  have HS := Lib.hid (HB.out.2.2.2.trans hS.2.2.2.2.2.2)
  have hsz := HB.out.2.2.2.size
  clear hS h1 h2 a0 a1 b0 b1 c0 c1 HB
  go_wp2
  go_ret
  exact ⟨ret_int (by unfold dotV; first | exact e3 | rfl), (((HS.out.setCell (by dsimp only; omega) _).setCell (by dsimp only; omega) _).setCell (by dsimp only; omega) _).setCell (by dsimp only; omega) _⟩


def onV (a b p : Pt2) : Bool := (turnV a.1 a.2 b.1 b.2 p.1 p.2 == 0) && decide (dotV (clampI p.1) (clampI p.2) (clampI a.1) (clampI a.2) (clampI b.1) (clampI b.2) ≤ 0)
set_option maxHeartbeats 1000000 in
theorem On_any (a b p : Pt2) (w : World) : Calls Try.prog 15 #[.agg #[.int .i64 a.1, .int .i64 a.2], .agg #[.int .i64 b.1, .int .i64 b.2], .agg #[.int .i64 p.1, .int .i64 p.2]] w fun e w' =>
    e = .returned (.bool (onV a b p)) ∧ Since w w' := by
  have HF : Hid (onV a b p = ((turnV a.1 a.2 b.1 b.2 p.1 p.2 == 0) && decide (dotV (clampI p.1) (clampI p.2) (clampI a.1) (clampI a.2) (clampI b.1) (clampI b.2) ≤ 0))) := rfl
  go_enter Try.func15, Try.ntmps15
  go_upto_region 1 with fail
  refine atW (fun w' => Blk w' w.heap.size 26 #[.int .i64 a.1, .int .i64 a.2] ∧ Blk w' (w.heap.size + 1) 26 #[.int .i64 b.1, .int .i64 b.2] ∧ Blk w' (w.heap.size + 1 + 1) 26 #[.int .i64 p.1, .int .i64 p.2] ∧ Since w w') ⟨((Blk.new w _ _).alloc _).alloc _, (Blk.new' (by simp)).alloc _, Blk.new' (by simp), (((Since.rfl_ w).alloc _).alloc _).alloc _⟩ ?_
  rintro w1 ⟨ha, hb, hr, hs⟩
  have a0 : w1.cell? ⟨w.heap.size, 0, none⟩ = some (.int .i64 a.1) := ha.cell 0
  have a1 : w1.cell? ⟨w.heap.size, 1, none⟩ = some (.int .i64 a.2) := ha.cell 1
  have b0 : w1.cell? ⟨w.heap.size + 1, 0, none⟩ = some (.int .i64 b.1) := hb.cell 0
  have b1 : w1.cell? ⟨w.heap.size + 1, 1, none⟩ = some (.int .i64 b.2) := hb.cell 1
  have c0 : w1.cell? ⟨w.heap.size + 1 + 1, 0, none⟩ = some (.int .i64 p.1) := hr.cell 0
  have c1 : w1.cell? ⟨w.heap.size + 1 + 1, 1, none⟩ = some (.int .i64 p.2) := hr.cell 1
  have HB := Lib.hid (And.intro ha (And.intro hb (And.intro hr hs)))
  clear ha hb hr hs
  go_wp2_with fail
  refine (Turn_any _ _ _ _ _ _ _).mono ?_
  rintro e w2 ⟨rfl, hs⟩
  have ha := hs.blk HB.out.1
  have hb := hs.blk HB.out.2.1
  have hr := hs.blk HB.out.2.2.1
  have HS2 := Lib.hid (HB.out.2.2.2.trans hs)
  clear hs a0 a1 b0 b1 c0 c1 HB
  have a0 : w2.cell? ⟨w.heap.size, 0, none⟩ = some (.int .i64 a.1) := ha.cell 0
  have a1 : w2.cell? ⟨w.heap.size, 1, none⟩ = some (.int .i64 a.2) := ha.cell 1
  have b0 : w2.cell? ⟨w.heap.size + 1, 0, none⟩ = some (.int .i64 b.1) := hb.cell 0
  have b1 : w2.cell? ⟨w.heap.size + 1, 1, none⟩ = some (.int .i64 b.2) := hb.cell 1
  have c0 : w2.cell? ⟨w.heap.size + 1 + 1, 0, none⟩ = some (.int .i64 p.1) := hr.cell 0
  have c1 : w2.cell? ⟨w.heap.size + 1 + 1, 1, none⟩ = some (.int .i64 p.2) := hr.cell 1
  clear ha hb hr
  generalize turnV a.1 a.2 b.1 b.2 p.1 p.2 = tv at *
  cases hz : (tv == 0)
  · go_wp2_with fail
    go_ret
    exact ⟨ret_bool (by rw [HF.out, hz]; rfl), HS2.out⟩
  · go_wp2_with fail
    refine (Dot_any _ _ _ _ _ _ _).mono ?_
    rintro e w3 ⟨rfl, hs⟩
    have HS3 := Lib.hid (HS2.out.trans hs)
    clear hs a0 a1 b0 b1 c0 c1
    go_wp2_with fail
    go_ret
    exact ⟨ret_bool (by rw [HF.out, hz]; rfl), HS3.out⟩
theorem onV_ok {a b p : Pt2} (ha : okP a.1 a.2 = true) (hb : okP b.1 b.2 = true) (hp : okP p.1 p.2 = true) (h : onV a b p = true) : crs a b p = 0 ∧ (a.1 - p.1) * (b.1 - p.1) + (a.2 - p.2) * (b.2 - p.2) ≤ 0 := by
  unfold onV at h
  rw [Bool.and_eq_true, decide_eq_true_eq, beq_iff_eq, turn_crs ha hb hp, (clamp_id ha).1, (clamp_id ha).2, (clamp_id hb).1, (clamp_id hb).2, (clamp_id hp).1, (clamp_id hp).2] at h
  refine ⟨?_, h.2⟩
  have := h.1
  unfold cmpI at this
  split at this
  · omega
  · split at this <;> omega

end Go.Proofs.Ytdbknodifpmmoaa
end
section
namespace Go.Proofs.Ytdbknodifpmmoaa
set_option linter.unusedSimpArgs false
set_option linter.unusedVariables false

/-- A corner on an edge is one of its ends. -/
theorem edge_corner {l : List Pt2} {a b x y : Pt2} (hab : Edge l a b) (hxy : Edge l x y) (ha : a ∈ l) (hb : b ∈ l) (hx : x ∈ l) (h0 : crs a b x = 0) : x = a ∨ x = b := by
  have hbt := hab.2.2 x hx h0
  have ea := hxy.2.1 a ha
  have eb := hxy.2.1 b hb
  have key : ∀ {a b : Pt2}, lx a x → lx x b → crs a b x = 0 → 0 ≤ crs x y a → 0 ≤ crs x y b → (crs x y a = 0 → bet x y a) → (crs x y b = 0 → bet x y b) → False := by
    intro a b h1 h2 hc p1 p2 q1 q2
    have u1 := lx_upw.1 h1
    have u2 := lx_upw.1 h2
    have za : crs x y a = 0 ∧ crs x y b = 0 := by
      unfold crs crossV at hc p1 p2 ⊢
      obtain ⟨s1, hs1⟩ : ∃ s1, s1 = x.1 - a.1 := ⟨_, rfl⟩
      obtain ⟨s2, hs2⟩ : ∃ s2, s2 = x.2 - a.2 := ⟨_, rfl⟩
      obtain ⟨t1, ht1⟩ : ∃ t1, t1 = b.1 - x.1 := ⟨_, rfl⟩
      obtain ⟨t2, ht2⟩ : ∃ t2, t2 = b.2 - x.2 := ⟨_, rfl⟩
      obtain ⟨v1, hv1⟩ : ∃ v1, v1 = y.1 - x.1 := ⟨_, rfl⟩
      obtain ⟨v2, hv2⟩ : ∃ v2, v2 = y.2 - x.2 := ⟨_, rfl⟩
      rw [← hs1, ← hs2] at u1
      rw [← ht1, ← ht2] at u2
      have c : t1 * s2 - t2 * s1 = 0 := by rw [hs1, hs2, ht1, ht2]; grind
      have e1 : (y.1 - x.1) * (a.2 - x.2) - (y.2 - x.2) * (a.1 - x.1) = -(v1 * s2 - v2 * s1) := by rw [hv1, hv2, hs1, hs2]; grind
      have e2 : (y.1 - x.1) * (b.2 - x.2) - (y.2 - x.2) * (b.1 - x.1) = v1 * t2 - v2 * t1 := by rw [hv1, hv2, ht1, ht2]
      rw [e1] at p1 ⊢
      rw [e2] at p2 ⊢
      clear e1 e2 hs1 hs2 ht1 ht2 hv1 hv2 hc
      obtain ⟨A, hA⟩ : ∃ A, A = v1 * s2 - v2 * s1 := ⟨_, rfl⟩
      obtain ⟨B, hB⟩ : ∃ B, B = v1 * t2 - v2 * t1 := ⟨_, rfl⟩
      rw [← hA] at p1 ⊢
      rw [← hB] at p2 ⊢
      rcases u1 with g | ⟨g, g'⟩
      · -- s1 > 0
        have k : B * s1 = A * t1 := by rw [hA, hB]; grind
        rcases u2 with r | ⟨r, r'⟩
        · have m1 : 0 ≤ B * s1 := Int.mul_nonneg p2 (by omega)
          have m2 : A * t1 ≤ 0 := Int.mul_nonpos_of_nonpos_of_nonneg (by omega) (by omega)
          have z1 : B * s1 = 0 := by omega
          have z2 : A * t1 = 0 := by omega
          rcases Int.mul_eq_zero.1 z1 with z | z
          · rcases Int.mul_eq_zero.1 z2 with z' | z'
            · exact ⟨by omega, z⟩
            · omega
          · omega
        · exfalso
          rw [r] at c
          have : t2 * s1 = 0 := by omega
          rcases Int.mul_eq_zero.1 this with z | z <;> omega
      · have k : B * s2 = A * t2 := by rw [hA, hB]; grind
        rcases u2 with r | ⟨r, r'⟩
        · exfalso
          rw [g] at c
          have : t1 * s2 = 0 := by omega
          rcases Int.mul_eq_zero.1 this with z | z <;> omega
        · have m1 : 0 ≤ B * s2 := Int.mul_nonneg p2 (by omega)
          have m2 : A * t2 ≤ 0 := Int.mul_nonpos_of_nonpos_of_nonneg (by omega) (by omega)
          have z1 : B * s2 = 0 := by omega
          have z2 : A * t2 = 0 := by omega
          rcases Int.mul_eq_zero.1 z1 with z | z
          · rcases Int.mul_eq_zero.1 z2 with z' | z'
            · exact ⟨by omega, z⟩
            · omega
          · omega
    have ba := q1 za.1
    have bb := q2 za.2
    unfold bet at ba bb
    have na : a ≠ x := fun h => by rw [h] at h1; exact lx_irr _ h1
    have nb : b ≠ x := fun h => by rw [h] at h2; exact lx_irr _ h2
    have ca : lx y x := by
      rcases ba with g | g | ⟨g1, g2⟩ | ⟨g1, g2⟩
      · exact absurd g na
      · rw [← g]; exact h1
      · exact absurd g1 (fun h => lx_asy h h1)
      · exact lx_trans g1 g2
    have cb : lx x y := by
      rcases bb with g | g | ⟨g1, g2⟩ | ⟨g1, g2⟩
      · exact absurd g nb
      · rw [← g]; exact h2
      · exact lx_trans g1 g2
      · exact absurd g2 (fun h => lx_asy h h2)
    exact lx_asy ca cb
  rcases hbt with g | g | ⟨g1, g2⟩ | ⟨g1, g2⟩
  · exact .inl g
  · exact .inr g
  · exact (key g1 g2 h0 ea eb (hxy.2.2 a ha) (hxy.2.2 b hb)).elim
  · exact (key g1 g2 (by rw [crs_swap]; omega) eb ea (hxy.2.2 b hb) (hxy.2.2 a ha)).elim
/-- .. of a ring. -/
theorem Ring3.on {l H : List Pt2} (h : Ring3 l H) {i j : Nat} (hi : i < H.length) (hj : j < H.length) (h0 : crs (pAt H i) (pAt H ((i + 1) % H.length)) (pAt H j) = 0) : j = i ∨ j = (i + 1) % H.length := by
  have hm : (i + 1) % H.length < H.length := Nat.mod_lt _ (by omega)
  have inj : ∀ {a b : Nat}, a < H.length → b < H.length → pAt H a = pAt H b → a = b := fun {a b} ha hb e => by
    rcases Nat.lt_trichotomy a b with g | g | g
    · exact absurd e (h.nodup a b g hb)
    · exact g
    · exact absurd e.symm (h.nodup b a g ha)
  rcases edge_corner (h.edge i hi) (h.edge j hj) (h.mem i hi) (h.mem _ hm) (h.mem j hj) h0 with g | g
  · exact .inl (inj hj hi g)
  · exact .inr (inj hj hm g)
end Go.Proofs.Ytdbknodifpmmoaa
end
section
namespace Go.Proofs.Ytdbknodifpmmoaa
set_option linter.unusedSimpArgs false
set_option linter.unusedVariables false
open Go.RowKit Go.BigFrame
attribute [local go_sem ↓] eqPt neqPt

/-- A point added if it is on a segment and not yet there. -/
def addS (L : List Pt2) (p q r : Pt2) : List Pt2 := if onV q r p = true ∧ p ∉ L then L ++ [p] else L
theorem On_val {a b p : Pt2} {c : Bool} (h : onV a b p = c) (w : World) : Calls Try.prog 15 #[.agg #[.int .i64 a.1, .int .i64 a.2], .agg #[.int .i64 b.1, .int .i64 b.2], .agg #[.int .i64 p.1, .int .i64 p.2]] w fun e w' =>
    e = .returned (.bool c) ∧ Since w w' := h ▸ On_any a b p w

set_option maxRecDepth 100000 in
set_option maxHeartbeats 4000000 in
theorem add_any (gs B : Nat) (L : List Pt2) (p q r : Pt2) (v : Value) (w : World) (hb : Blk w gs 33 #[v]) (ho : w.ownsRow B 26 2 v L.length (L.flatMap ptV)) (hB : gs < B) (hBw : B ≤ w.heap.size) (hl : L.length ≤ 4) :
    Calls Try.prog 81 #[.agg #[.int .i64 p.1, .int .i64 p.2], .agg #[.int .i64 q.1, .int .i64 q.2], .agg #[.int .i64 r.1, .int .i64 r.2], .pointer (some ⟨gs, 0, none⟩)] w fun e w' =>
      e = .returned (.tuple #[]) ∧ ∃ v', Blk w' gs 33 #[v'] ∧ w'.ownsRow B 26 2 v' (addS L p q r).length ((addS L p q r).flatMap ptV) ∧ Below gs w w' ∧ B ≤ w'.heap.size := by
  have HB := Lib.hid hb
  have HO := Lib.hid ho
  have hgl := hb.lt
  obtain ⟨av, cv, rfl⟩ := own_slice ho
  clear hb ho
  have HA : Hid (addS L p q r = if onV q r p = true ∧ p ∉ L then L ++ [p] else L) := rfl
  go_enter Try.func81, Try.ntmps81
  go_upto_region 1 with fail
  refine atW (fun w' => Since w w' ∧ Blk w' w.heap.size 26 #[.int .i64 p.1, .int .i64 p.2] ∧ Blk w' (w.heap.size + 1) 26 #[.int .i64 q.1, .int .i64 q.2] ∧ Blk w' (w.heap.size + 1 + 1) 26 #[.int .i64 r.1, .int .i64 r.2]) ⟨(((Since.rfl_ w).alloc _).alloc _).alloc _, ((Blk.new w _ _).alloc _).alloc _, (Blk.new' (by simp)).alloc _, Blk.new' (by simp)⟩ ?_
  rintro w1 ⟨hs, hp, hq, hr⟩
  have p0 : w1.cell? ⟨w.heap.size, 0, none⟩ = some (.int .i64 p.1) := hp.cell 0
  have p1 : w1.cell? ⟨w.heap.size, 1, none⟩ = some (.int .i64 p.2) := hp.cell 1
  have q0 : w1.cell? ⟨w.heap.size + 1, 0, none⟩ = some (.int .i64 q.1) := hq.cell 0
  have q1 : w1.cell? ⟨w.heap.size + 1, 1, none⟩ = some (.int .i64 q.2) := hq.cell 1
  have r0 : w1.cell? ⟨w.heap.size + 1 + 1, 0, none⟩ = some (.int .i64 r.1) := hr.cell 0
  have r1 : w1.cell? ⟨w.heap.size + 1 + 1, 1, none⟩ = some (.int .i64 r.2) := hr.cell 1
  have HS1 := Lib.hid hs
  have HP1 := Lib.hid hp
  clear hs hp hq hr
  cases hon : onV q r p
  · have HE : Hid (addS L p q r = L) := by show _ = _; rw [HA.out, if_neg]; rw [hon]; simp
    go_wp2_with fail
    refine (On_val hon _).mono ?_
    rintro e w2 ⟨rfl, hs⟩
    have HS2 := Lib.hid (HS1.out.trans hs)
    clear hs
    go_wp2_with fail
    refine bodyPost_ret (v := .tuple #[]) (by simp [results, Try.results81, go_sem]) rfl ?_
    exact ⟨rfl, _, HS2.out.blk HB.out, by rw [HE.out]; exact own_since HS2.out HO.out, Below.mono HS2.out (by omega), Nat.le_trans hBw HS2.out.size⟩
  · go_wp2_with fail
    refine (On_val hon _).mono ?_
    rintro e w2 ⟨rfl, hs⟩
    have HS2 := Lib.hid (HS1.out.trans hs)
    have HP2 := Lib.hid (hs.blk HP1.out)
    have s0 : w2.cell? ⟨gs, 0, none⟩ = some (.slice av L.length cv) := (HS2.out.blk HB.out).cell 0
    clear hs HS1 HP1 p0 p1 q0 q1 r0 r1
    go_wp2_with fail
    go_loopw [16] (fun v wr => ∃ k : Nat, k ≤ L.length ∧ v = .int .i64 k ∧ Hid (∀ i, i < k → pAt L i ≠ p) ∧ Hid (Since w wr ∧ Blk wr w.heap.size 26 #[.int .i64 p.1, .int .i64 p.2])) (fun v _ => L.length - (intOf v).toNat)
    case atStart => exact ⟨0, by omega, rfl, fun i hi => absurd hi (Nat.not_lt_zero _), HS2.out, HP2.out⟩
    case round =>
      clear HS2 HP2 s0
      obtain ⟨k, hk, rfl, HG, HW⟩ := hrel
      have s0 : wr.cell? ⟨gs, 0, none⟩ = some (.slice av L.length cv) := (HW.out.1.blk HB.out).cell 0
      have p0 : wr.cell? ⟨w.heap.size, 0, none⟩ = some (.int .i64 p.1) := HW.out.2.cell 0
      have p1 : wr.cell? ⟨w.heap.size, 1, none⟩ = some (.int .i64 p.2) := HW.out.2.cell 1
      have hlp := HW.out.2.lt
      rcases Nat.lt_or_ge k L.length with hlt | hge
      · have hz : decide ((k : Int) < (L.length : Int)) = true := by rw [decide_eq_true_eq]; omega
        obtain ⟨x, HX⟩ : ∃ x : Pt2, Hid (x = pAt L k) := ⟨_, rfl⟩
        have hpts := (own_pts (own_since HW.out.1 HO.out) (Nat.le_refl _)).pts
        obtain ⟨a', c', hv, hpts⟩ := hpts
        injection hv with hv1 hv2 hv3
        subst hv1 hv3
        obtain ⟨g, o, ha, x0, x1⟩ := hpts k hlt
        subst ha
        rw [← HX.out] at x0 x1
        have hne : ¬ wr.heap.size = w.heap.size := by omega
        clear hpts
        by_cases hxp : x = p
        · have HE : Hid (addS L p q r = L) := by
            show _ = _
            rw [HA.out, if_neg]
            rintro ⟨-, h⟩
            exact h (by rw [← hxp, HX.out]; exact pAt_mem hlt)
          have h1 : (x.1 == p.1) = true := by rw [hxp]; simp
          have h2 : (x.2 == p.2) = true := by rw [hxp]; simp
          have HS3 := Lib.hid (HW.out.1.alloc (.cells #[.int .i64 x.1, .int .i64 x.2] 26))
          clear hxp
          go_wp2_with fail
          refine bodyPost_ret (v := .tuple #[]) (by simp [results, Try.results81, go_sem]) rfl ?_
          exact ⟨rfl, _, HS3.out.blk HB.out, by rw [HE.out]; exact own_since HS3.out HO.out, Below.mono HS3.out (by omega), Nat.le_trans hBw HS3.out.size⟩
        · have HG2 : Hid (∀ i, i < k + 1 → pAt L i ≠ p) := fun i hi => by
            rcases Nat.lt_succ_iff_lt_or_eq.1 hi with h | h
            · exact HG.out i h
            · rw [h, ← HX.out]; exact hxp
          have HW3 : Hid (Since w (wr.alloc (.cells #[.int .i64 x.1, .int .i64 x.2] 26)) ∧ Blk (wr.alloc (.cells #[.int .i64 x.1, .int .i64 x.2] 26)) w.heap.size 26 #[.int .i64 p.1, .int .i64 p.2]) := ⟨HW.out.1.alloc _, HW.out.2.alloc _⟩
          cases h1 : (x.1 == p.1) <;> cases h2 : (x.2 == p.2)
          case true.true => exact absurd (Prod.ext (beq_iff_eq.1 h1) (beq_iff_eq.1 h2)) hxp
          all_goals
            go_wp2_with fail
            go_roundw
            case rel => exact ⟨k + 1, by omega, by go_num, HG2, HW3⟩
            case measure => simp [intOf]; omega
      · obtain rfl : k = L.length := by omega
        have hz : decide ((L.length : Int) < (L.length : Int)) = false := by rw [decide_eq_false_iff_not]; omega
        have HE : Hid (addS L p q r = L ++ [p]) := by
          show _ = _
          rw [HA.out, if_pos]
          refine ⟨hon, fun h => ?_⟩
          obtain ⟨i, hi, e⟩ := mem_pAt h
          exact HG.out i hi e
        have HO2 := Lib.hid (own_since HW.out.1 HO.out)
        have HB2 := Lib.hid (HW.out.1.blk HB.out)
        have hwr := HW.out.1.size
        obtain ⟨i0, hi0, hz0, hz1, hz3⟩ := info_parts infoPt
        have HI := Lib.hid hi0
        have HZ := Lib.hid (And.intro hz0 (And.intro hz1 hz3))
        clear hi0 hz0 hz1 hz3
        go_wp2_with (at_builtin; refine wpList_append_own _ rfl _ _ 33 rfl B 26 i0 _ 2 16 Try.underlying33 HI.out HZ.out.1 HZ.out.2.1 HZ.out.2.2 rfl (by decide) _ _ _ rfl (own_since ((Since.rfl_ wr).alloc _) HO2.out) _ _ _ [.int .i64 p.1, .int .i64 p.2] rfl rfl (cell2_new _ _ _ _) (one2 _ _ _ _) (by unfold maxLen; omega) (by omega) (by simp only [World.size_alloc]; omega) ?_)
        intro v' w' hown hgrow _
        obtain ⟨ao', co', rfl⟩ := own_slice hown
        have hA := (Since.rfl_ wr).alloc (.cells #[.int .i64 p.1, .int .i64 p.2] 26)
        have hoA := own_since hA HO2.out
        have hgb := (hgrow.block _ (hA.blk HB2.out).lt (own_ne hoA hB)).trans (hA.blk HB2.out)
        have HB3 : Hid (Blk w' gs 33 #[.slice av L.length cv]) := hgb
        have HL3 : Hid (Below gs w w') := (Below.mono (HW.out.1.trans hA) (show gs ≤ w.heap.size by omega)).grown hgrow (by simp only [World.size_alloc]; omega) fun k hk => by have := (hoA.lt k hk).1; omega
        have HO3 : Hid (w'.ownsRow B 26 2 (.slice ao' (L.length + 1) co') (addS L p q r).length ((addS L p q r).flatMap ptV)) := by
          show World.ownsRow _ _ _ _ _ _ _
          rw [HE.out, List.flatMap_append, List.length_append]
          exact hown
        have hsz : B ≤ w'.heap.size := Nat.le_trans (Nat.le_trans hBw hwr) (Nat.le_trans hA.size hgrow.size)
        have s1 : w'.cell? ⟨gs, 0, none⟩ = some (.slice av L.length cv) := HB3.out.cell 0
        have sf := HB3.out.frozen 0
        have hne3 : some gs ≠ (Value.slice ao' (L.length + 1) co').ownBlock := own_ne HO3.out hB
        have HF4 := Lib.hid (And.intro (HB3.out.set_ 0 (.slice ao' (L.length + 1) co')) (And.intro (own_far (p := ⟨gs, 0, none⟩) HO3.out hne3 (.slice ao' (L.length + 1) co')) (HL3.out.setCell (p := ⟨gs, 0, none⟩) (Nat.le_refl _) (.slice ao' (L.length + 1) co'))))
        clear hown hgrow hA hoA hgb HO2 HB2 HB3 HL3 HO3 s0 p0 p1 hne3
        go_wp2_with fail
        go_end0
        exact ⟨rfl, _, HF4.out.1, HF4.out.2.1, HF4.out.2.2, by simpa [World.setCell] using hsz⟩
end Go.Proofs.Ytdbknodifpmmoaa
end
section
namespace Go.Proofs.Ytdbknodifpmmoaa
set_option linter.unusedSimpArgs false
set_option linter.unusedVariables false
open Go.RowKit Go.BigFrame
attribute [local go_sem ↓] eqPt neqPt

def sharedL (a b c d : Pt2) : List Pt2 := addS (addS (addS (addS [] a c d) b c d) c a b) d a b
theorem addS_len (L : List Pt2) (p q r : Pt2) : (addS L p q r).length ≤ L.length + 1 := by
  unfold addS
  split
  · simp
  · omega
/-- What is known while the shared ends are gathered. -/
structure ShW (w W : World) (G : Nat) (a b c d : Pt2) (L : List Pt2) (v : Value) : Prop where
  s : Since w W
  ba : Blk W G 26 #[.int .i64 a.1, .int .i64 a.2]
  bb : Blk W (G + 1) 26 #[.int .i64 b.1, .int .i64 b.2]
  bc : Blk W (G + 1 + 1) 26 #[.int .i64 c.1, .int .i64 c.2]
  bd : Blk W (G + 1 + 1 + 1) 26 #[.int .i64 d.1, .int .i64 d.2]
  bs : Blk W (G + 1 + 1 + 1 + 1) 33 #[v]
  row : W.ownsRow (G + 5) 26 2 v L.length (L.flatMap ptV)
  sz : G + 5 ≤ W.heap.size
theorem ShW.step {w W W' : World} {G : Nat} {a b c d : Pt2} {L L' : List Pt2} {v v' : Value} (h : ShW w W G a b c d L v) (hG : G = w.heap.size) (h1 : Blk W' (G + 1 + 1 + 1 + 1) 33 #[v']) (h2 : W'.ownsRow (G + 5) 26 2 v' L'.length (L'.flatMap ptV)) (hb : Below (G + 1 + 1 + 1 + 1) W W') (hs : G + 5 ≤ W'.heap.size) : ShW w W' G a b c d L' v' :=
  ⟨Below.trans (B := w.heap.size) h.s (Below.mono hb (by omega)), h.ba.below hb (by omega), h.bb.below hb (by omega), h.bc.below hb (by omega), h.bd.below hb (by omega), h1, h2, hs⟩

set_option maxRecDepth 100000 in
set_option maxHeartbeats 4000000 in
theorem shared_own (a b c d : Pt2) (w : World) :
    Calls Try.prog 42 #[.agg #[.int .i64 a.1, .int .i64 a.2], .agg #[.int .i64 b.1, .int .i64 b.2], .agg #[.int .i64 c.1, .int .i64 c.2], .agg #[.int .i64 d.1, .int .i64 d.2]] w fun e w' =>
      ∃ x y, e = .returned (.slice x (sharedL a b c d).length y) ∧ w'.ownsRow w.heap.size 26 2 (.slice x (sharedL a b c d).length y) (sharedL a b c d).length ((sharedL a b c d).flatMap ptV) ∧ Since w w' := by
  obtain ⟨L1, H1⟩ : ∃ L1, Hid (L1 = addS [] a c d) := ⟨_, rfl⟩
  obtain ⟨L2, H2⟩ : ∃ L2, Hid (L2 = addS L1 b c d) := ⟨_, rfl⟩
  obtain ⟨L3, H3⟩ : ∃ L3, Hid (L3 = addS L2 c a b) := ⟨_, rfl⟩
  obtain ⟨L4, H4⟩ : ∃ L4, Hid (L4 = addS L3 d a b) := ⟨_, rfl⟩
  have HE : Hid (sharedL a b c d = L4) := by show _ = _; rw [H4.out, H3.out, H2.out, H1.out]; rfl
  have k1 : L1.length ≤ 1 := by rw [H1.out]; exact addS_len _ _ _ _
  have k2 : L2.length ≤ 2 := by have := addS_len L1 b c d; rw [H2.out]; omega
  have k3 : L3.length ≤ 3 := by have := addS_len L2 c a b; rw [H3.out]; omega
  go_enter Try.func42, Try.ntmps42
  go_upto_region 3 with fail
  obtain ⟨G, HG⟩ : ∃ G, G = w.heap.size := ⟨_, rfl⟩
  rw [← HG]
  refine atW (fun w' => ShW w w' G a b c d [] (.slice none 0 0)) ⟨((((Since.rfl_ w).alloc _).alloc _).alloc _).alloc _ |>.alloc _, (((Blk.new' HG).alloc _).alloc _).alloc _ |>.alloc _, ((Blk.new' (by simp [HG])).alloc _).alloc _ |>.alloc _, (Blk.new' (by simp [HG])).alloc _ |>.alloc _, (Blk.new' (by simp [HG])).alloc _, Blk.new' (by simp [HG]), World.ownsRow_nil _ _ _ _, by simp [HG]⟩ ?_
  intro w1 h1
  have HW := Lib.hid h1
  have HGG := Lib.hid HG
  clear h1 HG
  have a0 : w1.cell? ⟨G, 0, none⟩ = some (.int .i64 a.1) := HW.out.ba.cell 0
  have a1 : w1.cell? ⟨G, 1, none⟩ = some (.int .i64 a.2) := HW.out.ba.cell 1
  have b0 : w1.cell? ⟨G + 1, 0, none⟩ = some (.int .i64 b.1) := HW.out.bb.cell 0
  have b1 : w1.cell? ⟨G + 1, 1, none⟩ = some (.int .i64 b.2) := HW.out.bb.cell 1
  have c0 : w1.cell? ⟨G + 1 + 1, 0, none⟩ = some (.int .i64 c.1) := HW.out.bc.cell 0
  have c1 : w1.cell? ⟨G + 1 + 1, 1, none⟩ = some (.int .i64 c.2) := HW.out.bc.cell 1
  have d0 : w1.cell? ⟨G + 1 + 1 + 1, 0, none⟩ = some (.int .i64 d.1) := HW.out.bd.cell 0
  have d1 : w1.cell? ⟨G + 1 + 1 + 1, 1, none⟩ = some (.int .i64 d.2) := HW.out.bd.cell 1
  go_wp2_with fail
  refine (add_any (G + 1 + 1 + 1 + 1) (G + 5) [] a c d _ w1 HW.out.bs HW.out.row (by omega) HW.out.sz (by first | omega | simp)).mono ?_
  rintro e w2 ⟨rfl, vw2, hb, ho, hbl, hs⟩
  rw [← H1.out] at ho
  have HW := Lib.hid (HW.out.step HGG.out hb ho hbl hs)
  clear hb ho hbl hs a0 a1 b0 b1 c0 c1 d0 d1
  have a0 : w2.cell? ⟨G, 0, none⟩ = some (.int .i64 a.1) := HW.out.ba.cell 0
  have a1 : w2.cell? ⟨G, 1, none⟩ = some (.int .i64 a.2) := HW.out.ba.cell 1
  have b0 : w2.cell? ⟨G + 1, 0, none⟩ = some (.int .i64 b.1) := HW.out.bb.cell 0
  have b1 : w2.cell? ⟨G + 1, 1, none⟩ = some (.int .i64 b.2) := HW.out.bb.cell 1
  have c0 : w2.cell? ⟨G + 1 + 1, 0, none⟩ = some (.int .i64 c.1) := HW.out.bc.cell 0
  have c1 : w2.cell? ⟨G + 1 + 1, 1, none⟩ = some (.int .i64 c.2) := HW.out.bc.cell 1
  have d0 : w2.cell? ⟨G + 1 + 1 + 1, 0, none⟩ = some (.int .i64 d.1) := HW.out.bd.cell 0
  have d1 : w2.cell? ⟨G + 1 + 1 + 1, 1, none⟩ = some (.int .i64 d.2) := HW.out.bd.cell 1
  go_wp2_with fail
  refine (add_any (G + 1 + 1 + 1 + 1) (G + 5) L1 b c d _ w2 HW.out.bs HW.out.row (by omega) HW.out.sz (by first | omega | simp)).mono ?_
  rintro e w3 ⟨rfl, vw3, hb, ho, hbl, hs⟩
  rw [← H2.out] at ho
  have HW := Lib.hid (HW.out.step HGG.out hb ho hbl hs)
  clear hb ho hbl hs a0 a1 b0 b1 c0 c1 d0 d1
  have a0 : w3.cell? ⟨G, 0, none⟩ = some (.int .i64 a.1) := HW.out.ba.cell 0
  have a1 : w3.cell? ⟨G, 1, none⟩ = some (.int .i64 a.2) := HW.out.ba.cell 1
  have b0 : w3.cell? ⟨G + 1, 0, none⟩ = some (.int .i64 b.1) := HW.out.bb.cell 0
  have b1 : w3.cell? ⟨G + 1, 1, none⟩ = some (.int .i64 b.2) := HW.out.bb.cell 1
  have c0 : w3.cell? ⟨G + 1 + 1, 0, none⟩ = some (.int .i64 c.1) := HW.out.bc.cell 0
  have c1 : w3.cell? ⟨G + 1 + 1, 1, none⟩ = some (.int .i64 c.2) := HW.out.bc.cell 1
  have d0 : w3.cell? ⟨G + 1 + 1 + 1, 0, none⟩ = some (.int .i64 d.1) := HW.out.bd.cell 0
  have d1 : w3.cell? ⟨G + 1 + 1 + 1, 1, none⟩ = some (.int .i64 d.2) := HW.out.bd.cell 1
  go_wp2_with fail
  refine (add_any (G + 1 + 1 + 1 + 1) (G + 5) L2 c a b _ w3 HW.out.bs HW.out.row (by omega) HW.out.sz (by first | omega | simp)).mono ?_
  rintro e w4 ⟨rfl, vw4, hb, ho, hbl, hs⟩
  rw [← H3.out] at ho
  have HW := Lib.hid (HW.out.step HGG.out hb ho hbl hs)
  clear hb ho hbl hs a0 a1 b0 b1 c0 c1 d0 d1
  have a0 : w4.cell? ⟨G, 0, none⟩ = some (.int .i64 a.1) := HW.out.ba.cell 0
  have a1 : w4.cell? ⟨G, 1, none⟩ = some (.int .i64 a.2) := HW.out.ba.cell 1
  have b0 : w4.cell? ⟨G + 1, 0, none⟩ = some (.int .i64 b.1) := HW.out.bb.cell 0
  have b1 : w4.cell? ⟨G + 1, 1, none⟩ = some (.int .i64 b.2) := HW.out.bb.cell 1
  have c0 : w4.cell? ⟨G + 1 + 1, 0, none⟩ = some (.int .i64 c.1) := HW.out.bc.cell 0
  have c1 : w4.cell? ⟨G + 1 + 1, 1, none⟩ = some (.int .i64 c.2) := HW.out.bc.cell 1
  have d0 : w4.cell? ⟨G + 1 + 1 + 1, 0, none⟩ = some (.int .i64 d.1) := HW.out.bd.cell 0
  have d1 : w4.cell? ⟨G + 1 + 1 + 1, 1, none⟩ = some (.int .i64 d.2) := HW.out.bd.cell 1
  go_wp2_with fail
  refine (add_any (G + 1 + 1 + 1 + 1) (G + 5) L3 d a b _ w4 HW.out.bs HW.out.row (by omega) HW.out.sz (by first | omega | simp)).mono ?_
  rintro e w5 ⟨rfl, vw5, hb, ho, hbl, hs⟩
  rw [← H4.out] at ho
  have HW := Lib.hid (HW.out.step HGG.out hb ho hbl hs)
  clear hb ho hbl hs a0 a1 b0 b1 c0 c1 d0 d1
  have s0 : w5.cell? ⟨G + 1 + 1 + 1 + 1, 0, none⟩ = some vw5 := HW.out.bs.cell 0
  obtain ⟨x, y, rfl⟩ := own_slice HW.out.row
  go_wp2_with fail
  go_ret
  have hr := HW.out.row.mono (show w.heap.size ≤ G + 5 by have := HGG.out; omega)
  rw [HE.out]
  exact ⟨x, y, rfl, hr, HW.out.s⟩
theorem shared_any (a b c d : Pt2) (w : World) :
    Calls Try.prog 42 #[.agg #[.int .i64 a.1, .int .i64 a.2], .agg #[.int .i64 b.1, .int .i64 b.2], .agg #[.int .i64 c.1, .int .i64 c.2], .agg #[.int .i64 d.1, .int .i64 d.2]] w fun e w' =>
      ∃ x y, e = .returned (.slice x (sharedL a b c d).length y) ∧ Since w w' :=
  (shared_own a b c d w).mono fun _ _ ⟨x, y, h1, _, h3⟩ => ⟨x, y, h1, h3⟩
end Go.Proofs.Ytdbknodifpmmoaa
end
