/-
  Plain law: the edges of a hull meet at their common corners alone. Conditions: none.
-/
import Derived.Test.YtcckekdfeeghaaaBufI
namespace Go.Proofs.Ytcckekdfeeghaaa
set_option linter.unusedSimpArgs false
set_option linter.unusedVariables false

/-- A corner on an edge is one of its ends. -/
theorem edge_corner {l : List Pt2} {a b x y : Pt2} (hab : Edge l a b) (hxy : Edge l x y) (ha : a ∈ l) (hb : b ∈ l) (hx : x ∈ l) (h0 : crs a b x = 0) : x = a ∨ x = b := by
  have hbt := hab.2.2 x hx h0
  have ea := hxy.2.1 a ha
  have eb := hxy.2.1 b hb
  have key : ∀ {a b : Pt2}, lx a x → lx x b → crs a b x = 0 → 0 ≤ crs x y a → 0 ≤ crs x y b → (crs x y a = 0 → bet x y a) → (crs x y b = 0 → bet x y b) → False := by
    intro a b h1 h2 hc p1 p2 q1 q2
    have u1 := lx_upw.1 h1
    have u2 := lx_upw.1 h2
    have za : crs x y a = 0 ∧ crs x y b = 0 := by
      unfold crs crossV at hc p1 p2 ⊢
      obtain ⟨s1, hs1⟩ : ∃ s1, s1 = x.1 - a.1 := ⟨_, rfl⟩
      obtain ⟨s2, hs2⟩ : ∃ s2, s2 = x.2 - a.2 := ⟨_, rfl⟩
      obtain ⟨t1, ht1⟩ : ∃ t1, t1 = b.1 - x.1 := ⟨_, rfl⟩
      obtain ⟨t2, ht2⟩ : ∃ t2, t2 = b.2 - x.2 := ⟨_, rfl⟩
      obtain ⟨v1, hv1⟩ : ∃ v1, v1 = y.1 - x.1 := ⟨_, rfl⟩
      obtain ⟨v2, hv2⟩ : ∃ v2, v2 = y.2 - x.2 := ⟨_, rfl⟩
      rw [← hs1, ← hs2] at u1
      rw [← ht1, ← ht2] at u2
      have c : t1 * s2 - t2 * s1 = 0 := by rw [hs1, hs2, ht1, ht2]; grind
      have e1 : (y.1 - x.1) * (a.2 - x.2) - (y.2 - x.2) * (a.1 - x.1) = -(v1 * s2 - v2 * s1) := by rw [hv1, hv2, hs1, hs2]; grind
      have e2 : (y.1 - x.1) * (b.2 - x.2) - (y.2 - x.2) * (b.1 - x.1) = v1 * t2 - v2 * t1 := by rw [hv1, hv2, ht1, ht2]
      rw [e1] at p1 ⊢
      rw [e2] at p2 ⊢
      clear e1 e2 hs1 hs2 ht1 ht2 hv1 hv2 hc
      obtain ⟨A, hA⟩ : ∃ A, A = v1 * s2 - v2 * s1 := ⟨_, rfl⟩
      obtain ⟨B, hB⟩ : ∃ B, B = v1 * t2 - v2 * t1 := ⟨_, rfl⟩
      rw [← hA] at p1 ⊢
      rw [← hB] at p2 ⊢
      rcases u1 with g | ⟨g, g'⟩
      · -- s1 > 0
        have k : B * s1 = A * t1 := by rw [hA, hB]; grind
        rcases u2 with r | ⟨r, r'⟩
        · have m1 : 0 ≤ B * s1 := Int.mul_nonneg p2 (by omega)
          have m2 : A * t1 ≤ 0 := Int.mul_nonpos_of_nonpos_of_nonneg (by omega) (by omega)
          have z1 : B * s1 = 0 := by omega
          have z2 : A * t1 = 0 := by omega
          rcases Int.mul_eq_zero.1 z1 with z | z
          · rcases Int.mul_eq_zero.1 z2 with z' | z'
            · exact ⟨by omega, z⟩
            · omega
          · omega
        · exfalso
          rw [r] at c
          have : t2 * s1 = 0 := by omega
          rcases Int.mul_eq_zero.1 this with z | z <;> omega
      · have k : B * s2 = A * t2 := by rw [hA, hB]; grind
        rcases u2 with r | ⟨r, r'⟩
        · exfalso
          rw [g] at c
          have : t1 * s2 = 0 := by omega
          rcases Int.mul_eq_zero.1 this with z | z <;> omega
        · have m1 : 0 ≤ B * s2 := Int.mul_nonneg p2 (by omega)
          have m2 : A * t2 ≤ 0 := Int.mul_nonpos_of_nonpos_of_nonneg (by omega) (by omega)
          have z1 : B * s2 = 0 := by omega
          have z2 : A * t2 = 0 := by omega
          rcases Int.mul_eq_zero.1 z1 with z | z
          · rcases Int.mul_eq_zero.1 z2 with z' | z'
            · exact ⟨by omega, z⟩
            · omega
          · omega
    have ba := q1 za.1
    have bb := q2 za.2
    unfold bet at ba bb
    have na : a ≠ x := fun h => by rw [h] at h1; exact lx_irr _ h1
    have nb : b ≠ x := fun h => by rw [h] at h2; exact lx_irr _ h2
    have ca : lx y x := by
      rcases ba with g | g | ⟨g1, g2⟩ | ⟨g1, g2⟩
      · exact absurd g na
      · rw [← g]; exact h1
      · exact absurd g1 (fun h => lx_asy h h1)
      · exact lx_trans g1 g2
    have cb : lx x y := by
      rcases bb with g | g | ⟨g1, g2⟩ | ⟨g1, g2⟩
      · exact absurd g nb
      · rw [← g]; exact h2
      · exact lx_trans g1 g2
      · exact absurd g2 (fun h => lx_asy h h2)
    exact lx_asy ca cb
  rcases hbt with g | g | ⟨g1, g2⟩ | ⟨g1, g2⟩
  · exact .inl g
  · exact .inr g
  · exact (key g1 g2 h0 ea eb (hxy.2.2 a ha) (hxy.2.2 b hb)).elim
  · exact (key g1 g2 (by rw [crs_swap]; omega) eb ea (hxy.2.2 b hb) (hxy.2.2 a ha)).elim
/-- .. of a ring. -/
theorem Ring3.on {l H : List Pt2} (h : Ring3 l H) {i j : Nat} (hi : i < H.length) (hj : j < H.length) (h0 : crs (pAt H i) (pAt H ((i + 1) % H.length)) (pAt H j) = 0) : j = i ∨ j = (i + 1) % H.length := by
  have hm : (i + 1) % H.length < H.length := Nat.mod_lt _ (by omega)
  have inj : ∀ {a b : Nat}, a < H.length → b < H.length → pAt H a = pAt H b → a = b := fun {a b} ha hb e => by
    rcases Nat.lt_trichotomy a b with g | g | g
    · exact absurd e (h.nodup a b g hb)
    · exact g
    · exact absurd e.symm (h.nodup b a g ha)
  rcases edge_corner (h.edge i hi) (h.edge j hj) (h.mem i hi) (h.mem _ hm) (h.mem j hj) h0 with g | g
  · exact .inl (inj hj hi g)
  · exact .inr (inj hj hm g)
end Go.Proofs.Ytcckekdfeeghaaa
