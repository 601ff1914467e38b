/-
  The plain law of HotMeets, closed. Conditions: points are valid.
-/
import Derived.Test.YtcckekdfeeghaaaHotP
namespace Go.Proofs.Ytcckekdfeeghaaa
set_option linter.unusedSimpArgs false
set_option linter.unusedVariables false

theorem cutOk_nz {f d : Int} (h : d ≠ 0) : cutOk f d = true := by
  unfold cutOk
  by_cases k : 0 < d
  · rw [if_pos k]
  · rw [if_neg k, if_pos (by omega)]
theorem cutOk_z (f : Int) : cutOk f 0 = true ↔ 0 ≤ f ∧ f < 2 := by unfold cutOk; simp

theorem sg_two {p : Int} (hp : 0 < p) : sg (2 * p) = 1 ∧ sg (2 * -p) = -1 := by unfold sg; rw [if_pos (by omega), if_neg (by omega)]; exact ⟨rfl, rfl⟩

theorem abs_form {d : Int} (h : d ≠ 0) : ∃ s p, (s = 1 ∨ s = -1) ∧ 0 < p ∧ d = s * p ∧ sg (2 * d) = s ∧ ((2 * d).natAbs : Int) = 2 * p := by
  rcases Int.lt_or_gt_of_ne h with k | k
  · exact ⟨-1, -d, .inr rfl, by omega, by omega, by unfold sg; rw [if_neg (by omega)], by omega⟩
  · exact ⟨1, d, .inl rfl, by omega, by omega, by unfold sg; rw [if_pos (by omega)], by omega⟩

theorem one_side (f g p s : Int) (hp : 0 < p) (hs : s = 1 ∨ s = -1) (b2 b3 : Int) :
    (0 ≤ g ∧ g < 2 ∧ endV (2 * p) (2 * (s * p)) (-f * s * 1) ((2 - f) * s * 1) 0 b2 b3) ↔ refF f (s * p) g 0 := by
  have r1 := @sgn_iffs g p hp
  have r2 := @sgn_iffs (g - 2) p hp
  rw [Int.sub_mul] at r2
  rw [endV_iff]
  unfold loV hiV refF
  rcases hs with rfl | rfl
  · have e1 : max p (-p) = p := by omega
    have g1 : sgn p = 1 := by unfold sgn; rw [if_pos hp]
    have c1 := @prod_iff f (f + 2 * p) (by omega)
    simp only [Int.one_mul, Int.mul_one]
    simp only [if_pos (show (0 : Int) < 2 * p by omega), if_neg (show ¬ (0 : Int) < 0 by omega)]
    simp only [sat_least, sat_most]
    simp only [c1, e1, g1, Int.mul_zero, Int.zero_mul, Int.sub_zero, Int.add_zero, ne_eq, not_true_eq_false, false_and, and_false, or_false]
    generalize g * p = V at *
    unfold satP
    simp only [and_true, and_false, or_false, Bool.false_eq_true, reduceCtorEq, Bool.true_eq_false]
    omega
  · have e1 : max (-p) (-(-p)) = p := by omega
    have g1 : sgn (-p) = -1 := by unfold sgn; rw [if_neg (by omega), if_pos (by omega)]
    have c1 := @prod_iff (f + 2 * -p) f (by omega)
    rw [Int.mul_comm] at c1
    simp only [Int.neg_one_mul, Int.mul_one]
    simp only [if_neg (show ¬ (0 : Int) < 2 * -p by omega), if_pos (show 2 * -p < (0 : Int) by omega), if_neg (show ¬ (0 : Int) < 0 by omega)]
    simp only [sat_least, sat_most]
    simp only [c1, e1, g1, Int.mul_zero, Int.zero_mul, Int.sub_zero, Int.add_zero, ne_eq, not_true_eq_false, false_and, and_false, or_false]
    generalize g * p = V at *
    unfold satP
    simp only [and_true, and_false, or_false, Bool.false_eq_true, reduceCtorEq, Bool.true_eq_false, Int.mul_neg, Int.mul_one]
    omega

theorem refF_swap (f dx g dy : Int) : refF f dx g dy ↔ refF g dy f dx := by
  unfold refF
  constructor
  · rintro (⟨a, b, c, d⟩ | ⟨a, b, c, d⟩ | h | h | ⟨a, b, c, d, e, f, g, h⟩)
    · exact .inl ⟨c, d, a, b⟩
    · exact .inr (.inl ⟨c, d, a, b⟩)
    · exact .inr (.inr (.inr (.inl h)))
    · exact .inr (.inr (.inl h))
    · exact .inr (.inr (.inr (.inr ⟨c, d, a, b, g, h, e, f⟩)))
  · rintro (⟨a, b, c, d⟩ | ⟨a, b, c, d⟩ | h | h | ⟨a, b, c, d, e, f, g, h⟩)
    · exact .inl ⟨c, d, a, b⟩
    · exact .inr (.inl ⟨c, d, a, b⟩)
    · exact .inr (.inr (.inr (.inl h)))
    · exact .inr (.inr (.inl h))
    · exact .inr (.inr (.inr (.inr ⟨c, d, a, b, g, h, e, f⟩)))

theorem end_swap (M d a b d2 x y : Int) : endV M d a b 0 x y ↔ endV M 0 x y d a b := by
  rw [endV_iff, endV_iff]
  have z1 : ∀ v c, loV v c 0 x y = (v, c) := fun v c => by unfold loV; rw [if_neg (by omega), if_neg (by omega)]
  have z2 : ∀ v c, hiV v c 0 x y = (v, c) := fun v c => by unfold hiV; rw [if_neg (by omega), if_neg (by omega)]
  simp only [z1, z2]

theorem meets_iff (f dx g dy : Int) (h1 : f.natAbs ≤ 8388608) (h2 : dx.natAbs ≤ 4194304) (h3 : g.natAbs ≤ 8388608) (h4 : dy.natAbs ≤ 4194304) :
    (cutOk f (2 * dx) && cutOk g (2 * dy) && meetsE f (2 * dx) g (2 * dy)) = true ↔ refF f dx g dy := by
  rw [Bool.and_eq_true, Bool.and_eq_true]
  by_cases hx : dx = 0
  · subst hx
    by_cases hy : dy = 0
    · subst hy
      rw [Int.mul_zero, cutOk_z, cutOk_z, meetsE_val (M := 1) (o1 := 1) (o2 := 1) (by omega) h1 (by omega) h3 (by omega) (fun h => absurd rfl h) (fun h => absurd rfl h)]
      unfold endV loV hiV refF
      simp
      omega
    · obtain ⟨s, p, hs, hp, rfl, hsg, habs⟩ := abs_form hy
      rw [Int.mul_zero, cutOk_z, meetsE_val (M := 2 * p) (o1 := 1) (o2 := 1) (by omega) h1 (by omega) h3 (by omega) (fun h => absurd rfl h) (fun _ => ⟨by omega, by omega⟩), hsg, ← end_swap _ _ _ _ 0, refF_swap, ← one_side g f p s hp hs]
      have := @cutOk_nz g (2 * (s * p)) (by omega)
      simp only [this, and_true, and_assoc]
      exact Iff.rfl
  · obtain ⟨s, p, hs, hp, rfl, hsg, habs⟩ := abs_form hx
    by_cases hy : dy = 0
    · subst hy
      rw [Int.mul_zero, cutOk_z, meetsE_val (M := 2 * p) (o1 := 1) (o2 := 1) (by omega) h1 (by omega) h3 (by omega) (fun _ => ⟨by omega, by omega⟩) (fun h => absurd rfl h), hsg, ← one_side f g p s hp hs]
      have := @cutOk_nz f (2 * (s * p)) (by omega)
      simp only [this, true_and, and_assoc]
      exact Iff.rfl
    · obtain ⟨s2, q, hs2, hq, rfl, hsg2, habs2⟩ := abs_form hy
      have hM : 0 < p * q := Int.mul_pos hp hq
      have e1 : 4 * (p * q) = 2 * p * (2 * q) := by rw [Int.mul_assoc, Int.mul_left_comm p]; omega
      have e2 : 4 * (p * q) = 2 * q * (2 * p) := by rw [Int.mul_assoc, Int.mul_left_comm q, Int.mul_comm q p]; omega
      rw [cutOk_nz (by omega), cutOk_nz (by omega), meetsE_val (M := 4 * (p * q)) (o1 := 2 * q) (o2 := 2 * p) (by omega) h1 (by omega) h3 (by omega) (fun _ => ⟨by omega, by rw [habs]; exact e1⟩) (fun _ => ⟨by omega, by rw [habs2]; exact e2⟩), hsg, hsg2]
      rw [← heart f g p q s s2 hp hq hs hs2]
      simp

/-- At points that are valid both formulas are one. -/
theorem meets_law (ax ay bx by_ px py : Int) (h1 : ax.natAbs ≤ 1048576) (h2 : ay.natAbs ≤ 1048576) (h3 : bx.natAbs ≤ 1048576) (h4 : by_.natAbs ≤ 1048576) (h5 : px.natAbs ≤ 1048576) (h6 : py.natAbs ≤ 1048576) :
    meetsV ax ay bx by_ px py = refV ax ay bx by_ px py := by
  rw [Bool.eq_iff_iff, refV_iff, ← meets_iff _ _ _ _ (by omega) (by omega) (by omega) (by omega)]
  rfl

end Go.Proofs.Ytcckekdfeeghaaa
