/-
  Plain laws of the hull of points: sorted, each one once; its edges; points within it. Conditions: none.
-/
import Derived.Test.YtcckekdfeeghaaaBufD
namespace Go.Proofs.Ytcckekdfeeghaaa
set_option linter.unusedSimpArgs false
set_option linter.unusedVariables false

theorem lxB_iff {a b : Pt2} : lxB a b = true ↔ lx a b := by unfold lxB lx; simp
theorem srtL_mem {l : List Pt2} {q : Pt2} : q ∈ srtL l ↔ q ∈ l := by unfold srtL; exact List.mem_mergeSort
theorem srtL_pw (l : List Pt2) : (srtL l).Pairwise fun x y => ¬ lx y x := by
  have := List.pairwise_mergeSort (le := fun x y : Pt2 => !lxB y x) (fun a b c h1 h2 => by
    simp only [Bool.not_eq_true', ← Bool.not_eq_true, lxB_iff] at *
    unfold lx at *; omega) (fun a b => by
    simp only [Bool.or_eq_true, Bool.not_eq_true', ← Bool.not_eq_true, lxB_iff]
    unfold lx; omega) l
  unfold srtL
  exact this.imp fun h => by simpa [← Bool.not_eq_true, lxB_iff] using h
theorem snoc_fold : ∀ (l acc : List Pt2), (∀ x ∈ acc, ∀ y ∈ l, ¬ lx y x) → (l.Pairwise fun x y => ¬ lx y x) → Srt acc → Srt (l.foldl snocC acc) ∧ ∀ q, q ∈ l.foldl snocC acc ↔ q ∈ acc ∨ q ∈ l
  | [], acc, _, _, h => ⟨h, fun q => by simp⟩
  | p :: l, acc, h1, h2, h3 => by
    rw [List.pairwise_cons] at h2
    rw [List.foldl_cons]
    have key : Srt (snocC acc p) ∧ ∀ q, q ∈ snocC acc p ↔ q ∈ acc ∨ q = p := by
      unfold snocC
      split
      · rename_i h
        have : acc = [] := List.length_eq_zero_iff.1 h
        subst this
        exact ⟨by unfold Srt; simp, fun q => by simp⟩
      · rename_i h
        have hl : lastP acc ∈ acc := pAt_mem (by omega)
        split
        · rename_i e
          exact ⟨h3, fun q => ⟨.inl, fun h => h.elim id fun h => by rw [h, e]; exact hl⟩⟩
        · rename_i e
          refine ⟨?_, fun q => by simp⟩
          unfold Srt at *
          rw [List.pairwise_append]
          refine ⟨h3, by simp, fun x hx y hy => ?_⟩
          rw [List.mem_singleton.1 hy]
          have a := h1 x hx p (by simp)
          rcases lx_tri x p with t | t | t
          · exact t
          · exfalso
            obtain ⟨i, hi, hx'⟩ := mem_pAt hx
            by_cases hL : i = acc.length - 1
            · apply e; rw [← t, ← hx', hL]; rfl
            · have hp := List.pairwise_iff_getElem.1 h3 i (acc.length - 1) hi (by omega) (by omega)
              have e1 : acc[i] = x := by rw [← hx']; simp [pAt, List.getD, hi]
              have e2 : acc[acc.length - 1] = lastP acc := by simp [lastP, pAt, List.getD, show acc.length - 1 < acc.length by omega]
              rw [e1, e2, t] at hp
              exact h1 _ hl p (by simp) hp
          · exact absurd t a
    have := snoc_fold l (snocC acc p) (fun x hx y hy => by
      rcases (key.2 x).1 hx with g | g
      · exact h1 x g y (List.mem_cons_of_mem _ hy)
      · rw [g]; exact h2.1 y hy) h2.2 key.1
    refine ⟨this.1, fun q => ?_⟩
    rw [this.2, key.2, List.mem_cons, or_assoc]
theorem hullS_srt (l : List Pt2) : Srt (hullS l) := (snoc_fold (srtL l) [] (by simp) (srtL_pw l) (by unfold Srt; simp)).1
theorem hullS_mem {l : List Pt2} {q : Pt2} : q ∈ hullS l ↔ q ∈ l := by
  have := (snoc_fold (srtL l) [] (by simp) (srtL_pw l) (by unfold Srt; simp)).2 q
  unfold hullS cmpL
  rw [this, srtL_mem]; simp
theorem hullS_ext {l m : List Pt2} (h : ∀ q, q ∈ l ↔ q ∈ m) : hullS l = hullS m := srt_ext (hullS_srt l) (hullS_srt m) fun q => by rw [hullS_mem, hullS_mem, h]
theorem hullV_ext {l m : List Pt2} (h : ∀ q, q ∈ l ↔ q ∈ m) : hullV l = hullV m := by unfold hullV; rw [hullS_ext h]
theorem hullV_ring {l : List Pt2} (h : 2 ≤ (hullS l).length) : hullV l = ringOf (chainT (hullS l)) (chainT (hullS l).reverse) := by unfold hullV hullX; rw [if_neg (by omega)]; rfl
theorem two_mem {l : List Pt2} {x y : Pt2} (hx : x ∈ l) (hy : y ∈ l) (h : x ≠ y) : 2 ≤ (hullS l).length := by
  have h1 := hullS_mem.2 hx
  have h2 := hullS_mem.2 hy
  match hS : hullS l, h1, h2 with
  | [], h1, _ => cases h1
  | [z], h1, h2 => rw [List.mem_singleton] at h1 h2; exact absurd (h1.trans h2.symm) h
  | _ :: _ :: _, _, _ => simp
theorem crs_swap (a b q : Pt2) : crs b a q = - crs a b q := by unfold crs crossV; grind
/-- The facts of a hull with three points that are not on a line. -/
structure Ring3 (l H : List Pt2) : Prop where
  n3 : 3 ≤ H.length
  edge : ∀ i, i < H.length → Edge l (pAt H i) (pAt H ((i + 1) % H.length))
  nodup : ∀ i j, i < j → j < H.length → pAt H i ≠ pAt H j
  mem : ∀ i, i < H.length → pAt H i ∈ l
  first : ∀ x ∈ l, x = pAt H 0 ∨ lx (pAt H 0) x
theorem flat_line {a b x y z : Pt2} (hab : a ≠ b) (hx : crs a b x = 0) (hy : crs a b y = 0) (hz : crs a b z = 0) : crs x y z = 0 := by
  unfold crs crossV at *
  have key : ∀ u v u' v' p q : Int, (u ≠ 0 ∨ v ≠ 0) → u * q - v * p = 0 → u * v' - v * u' = 0 → p * v' - q * u' = 0 := by
    intro u v u' v' p q h h1 h2
    rcases h with h | h
    · have : u * (p * v' - q * u') = 0 := by grind
      rcases Int.mul_eq_zero.1 this with g | g
      · exact absurd g h
      · exact g
    · have : v * (p * v' - q * u') = 0 := by grind
      rcases Int.mul_eq_zero.1 this with g | g
      · exact absurd g h
      · exact g
  have hne : (b.1 - a.1 ≠ 0 ∨ b.2 - a.2 ≠ 0) := by
    by_cases h : b.1 - a.1 = 0
    · right
      intro h2
      exact hab (Prod.ext (by omega) (by omega))
    · exact .inl h
  refine key (b.1 - a.1) (b.2 - a.2) _ _ _ _ hne ?_ ?_ <;> grind
theorem ring3 {l : List Pt2} {x y z : Pt2} (hx : x ∈ l) (hy : y ∈ l) (hz : z ∈ l) (h : crs x y z ≠ 0) : Ring3 l (hullV l) := by
  have hxy : x ≠ y := by rintro rfl; exact h (crs_self x z).2.2
  have h2 := two_mem hx hy hxy
  have T := two_of (hullS_srt l) h2
  rw [hullV_ring h2]
  have hE : ∀ i, i < (ringOf (chainT (hullS l)) (chainT (hullS l).reverse)).length → Edge l (pAt (ringOf (chainT (hullS l)) (chainT (hullS l).reverse)) i) (pAt (ringOf (chainT (hullS l)) (chainT (hullS l).reverse)) ((i + 1) % (ringOf (chainT (hullS l)) (chainT (hullS l).reverse)).length)) := fun i hi => by
    obtain ⟨e1, e2, e3⟩ := T.cyc hi
    exact ⟨e1, fun q hq => e2 q (hullS_mem.2 hq), fun q hq => e3 q (hullS_mem.2 hq)⟩
  have hN : ∀ i j, i < j → j < (ringOf (chainT (hullS l)) (chainT (hullS l).reverse)).length → pAt (ringOf (chainT (hullS l)) (chainT (hullS l).reverse)) i ≠ pAt (ringOf (chainT (hullS l)) (chainT (hullS l).reverse)) j := fun i j a b => T.nodup a b
  have hM : ∀ i, i < (ringOf (chainT (hullS l)) (chainT (hullS l).reverse)).length → pAt (ringOf (chainT (hullS l)) (chainT (hullS l).reverse)) i ∈ l := fun i hi => hullS_mem.1 (T.memX hi)
  have hF := fun q (hq : q ∈ l) => T.first q (hullS_mem.2 hq)
  have hlen := ring_len (s := chainT (hullS l)) (u := chainT (hullS l).reverse)
  have g1 := T.s2
  have g2 := T.u2
  generalize ringOf (chainT (hullS l)) (chainT (hullS l).reverse) = H at *
  refine ⟨?_, hE, hN, hM, hF⟩
  · rcases Nat.lt_or_ge H.length 3 with g | g
    · exfalso
      have hn : H.length = 2 := by omega
      have e0 := hE 0 (by omega)
      have e1 := hE 1 (by omega)
      rw [hn] at e0 e1
      simp only [Nat.zero_add, Nat.reduceAdd, Nat.reduceMod] at e0 e1
      have key : ∀ q ∈ l, crs (pAt H 0) (pAt H 1) q = 0 := fun q hq => by
        have a1 := e0.2.1 q hq
        have a2 := e1.2.1 q hq
        rw [crs_swap] at a2
        omega
      exact h (flat_line e0.1 (key x hx) (key y hy) (key z hz))
    · exact g

/-! ### Points near a segment -/
theorem sq_nn (x : Int) : 0 ≤ x * x := by
  rcases Int.le_total 0 x with h | h
  · exact Int.mul_nonneg h h
  · exact Int.mul_nonneg_of_nonpos_of_nonpos h h
/-- A point between two others, on their line. -/
theorem on_mid {f : Int × Int → Int} {g1 g2 c : Int} {P Q M : Pt2} (hf : ∀ x : Pt2, f x = f P + g1 * (x.1 - P.1) + g2 * (x.2 - P.2)) (hP : c ≤ f P) (hQ : c ≤ f Q) (hc : crs P Q M = 0) (hd : (P.1 - M.1) * (Q.1 - M.1) + (P.2 - M.2) * (Q.2 - M.2) ≤ 0) : c ≤ f M := by
  have hq := hf Q
  have hm := hf M
  unfold crs crossV at hc
  obtain ⟨q1, hq1⟩ : ∃ q1, q1 = Q.1 - P.1 := ⟨_, rfl⟩
  obtain ⟨q2, hq2⟩ : ∃ q2, q2 = Q.2 - P.2 := ⟨_, rfl⟩
  obtain ⟨m1, hm1⟩ : ∃ m1, m1 = M.1 - P.1 := ⟨_, rfl⟩
  obtain ⟨m2, hm2⟩ : ∃ m2, m2 = M.2 - P.2 := ⟨_, rfl⟩
  rw [← hq1, ← hq2] at hc hq
  rw [← hm1, ← hm2] at hc hm
  have hd2 : m1 * m1 + m2 * m2 ≤ m1 * q1 + m2 * q2 := by
    have e1 : P.1 - M.1 = -m1 := by omega
    have e2 : P.2 - M.2 = -m2 := by omega
    have e3 : Q.1 - M.1 = q1 - m1 := by omega
    have e4 : Q.2 - M.2 = q2 - m2 := by omega
    rw [e1, e2, e3, e4] at hd
    grind
  generalize f P = fp at *
  generalize f Q = fq at *
  generalize f M = fm at *
  clear hf hq1 hq2 hm1 hm2 hd
  have s1 : 0 ≤ m1 * m1 := sq_nn m1
  have s2 : 0 ≤ m2 * m2 := sq_nn m2
  obtain ⟨D, hD⟩ : ∃ D, D = m1 * q1 + m2 * q2 := ⟨_, rfl⟩
  obtain ⟨S, hS⟩ : ∃ S, S = m1 * m1 + m2 * m2 := ⟨_, rfl⟩
  obtain ⟨L, hL⟩ : ∃ L, L = q1 * q1 + q2 * q2 := ⟨_, rfl⟩
  have hSD : S ≤ D := by omega
  have hDD : D * D = S * L := by rw [hD, hS, hL]; grind
  have hS0 : 0 ≤ S := by omega
  by_cases h0 : D = 0
  · have e1 : m1 * m1 = 0 := by omega
    have e2 : m2 * m2 = 0 := by omega
    have z1 : m1 = 0 := by rcases Int.mul_eq_zero.1 e1 with h | h <;> exact h
    have z2 : m2 = 0 := by rcases Int.mul_eq_zero.1 e2 with h | h <;> exact h
    rw [z1, z2] at hm
    omega
  · have hp : 0 < D := by omega
    have hDL : D ≤ L := by
      rcases Int.lt_or_le L D with h | h
      · exfalso
        have a1 : S * L ≤ S * D := Int.mul_le_mul_of_nonneg_left (by omega) hS0
        have a2 : S * D ≤ D * D := Int.mul_le_mul_of_nonneg_right hSD (by omega)
        have a3 : S * D = D * D := by omega
        have a4 : S = D := Int.eq_of_mul_eq_mul_right (by omega) a3
        rw [a4] at hDD
        have := Int.eq_of_mul_eq_mul_left (by omega) hDD
        omega
      · exact h
    have e : L * fm = (L - D) * fp + D * fq := by
      rw [hm, hq, hL, hD]; grind
    have b1 : (L - D) * c ≤ (L - D) * fp := Int.mul_le_mul_of_nonneg_left hP (by omega)
    have b2 : D * c ≤ D * fq := Int.mul_le_mul_of_nonneg_left hQ (by omega)
    have b3 : L * c ≤ L * fm := by
      rw [e]
      have : L * c = (L - D) * c + D * c := by grind
      omega
    exact Int.le_of_mul_le_mul_left b3 (by omega)
theorem far_near (b : Int) (h1 : 3 ≤ b) (h2 : b ≤ 32) : 2 * (2 * b / 3) ≤ 5 * b / 12 + b := by omega
/-- Of a linear form that is at least n at the eight corners the value near the middle. -/
theorem form_near {g1 g2 v k b r d1 d2 : Int} (hk : 0 ≤ k) (hb : 0 ≤ b) (hr : 2 * r ≤ k + b) (h : ∀ s1 s2 : Int, (s1 = -1 ∨ s1 = 1) → (s2 = -1 ∨ s2 = 1) → 0 ≤ v + g1 * (s1 * k) + g2 * (s2 * b) ∧ 0 ≤ v + g1 * (s1 * b) + g2 * (s2 * k)) (h1 : -r ≤ d1 ∧ d1 ≤ r) (h2 : -r ≤ d2 ∧ d2 ≤ r) : 0 ≤ v + g1 * d1 + g2 * d2 := by
  obtain ⟨t1, ht1, e1⟩ : ∃ t1, (t1 = -1 ∨ t1 = 1) ∧ g1 * t1 ≤ 0 := by
    rcases Int.le_total 0 g1 with h | h
    · exact ⟨-1, .inl rfl, by omega⟩
    · exact ⟨1, .inr rfl, by omega⟩
  obtain ⟨t2, ht2, e2⟩ : ∃ t2, (t2 = -1 ∨ t2 = 1) ∧ g2 * t2 ≤ 0 := by
    rcases Int.le_total 0 g2 with h | h
    · exact ⟨-1, .inl rfl, by omega⟩
    · exact ⟨1, .inr rfl, by omega⟩
  obtain ⟨a, c⟩ := h t1 t2 ht1 ht2
  have m1 : g1 * t1 * r ≤ g1 * d1 := by
    rcases ht1 with rfl | rfl
    · have : 0 ≤ g1 := by omega
      have := Int.mul_le_mul_of_nonneg_left (show -r ≤ d1 by omega) this
      grind
    · have : g1 ≤ 0 := by omega
      have := Int.mul_le_mul_of_nonpos_left this (show d1 ≤ r by omega)
      grind
  have m2 : g2 * t2 * r ≤ g2 * d2 := by
    rcases ht2 with rfl | rfl
    · have : 0 ≤ g2 := by omega
      have := Int.mul_le_mul_of_nonneg_left (show -r ≤ d2 by omega) this
      grind
    · have : g2 ≤ 0 := by omega
      have := Int.mul_le_mul_of_nonpos_left this (show d2 ≤ r by omega)
      grind
  have m3 : (g1 * t1 + g2 * t2) * (k + b) ≤ (g1 * t1 + g2 * t2) * (2 * r) := Int.mul_le_mul_of_nonpos_left (by omega) hr
  have e : 2 * v + (g1 * t1 + g2 * t2) * (k + b) = (v + g1 * (t1 * k) + g2 * (t2 * b)) + (v + g1 * (t1 * b) + g2 * (t2 * k)) := by grind
  have e' : (g1 * t1 + g2 * t2) * (2 * r) = 2 * (g1 * t1 * r + g2 * t2 * r) := by grind
  omega
end Go.Proofs.Ytcckekdfeeghaaa
