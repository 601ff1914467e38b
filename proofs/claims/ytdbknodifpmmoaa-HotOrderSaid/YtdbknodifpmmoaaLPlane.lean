/-
  Plain law: a drawing of segments that meet only at their ends has at most three times as many segments as points. Conditions: no two points above one another.
-/
import Derived.Test.YtdbknodifpmmoaaK16
namespace Go.Proofs.Ytdbknodifpmmoaa
set_option linter.unusedSimpArgs false
set_option linter.unusedVariables false

namespace Plane
abbrev Ed := Q2 × Q2
/-- The slope of an edge, and its height at x. -/
def sl (e : Ed) : Rat := (e.2.2 - e.1.2) * (e.2.1 - e.1.1)⁻¹
def ht (e : Ed) (x : Rat) : Rat := e.1.2 + (x - e.1.1) * sl e
theorem ht_fst (e : Ed) : ht e e.1.1 = e.1.2 := by unfold ht; grind
theorem ht_snd {e : Ed} (h : e.1.1 < e.2.1) : ht e e.2.1 = e.2.2 := by
  unfold ht sl
  have : (e.2.1 - e.1.1)⁻¹ * (e.2.1 - e.1.1) = 1 := Rat.inv_mul_cancel _ (by grind)
  grind
theorem root {A B x y : Rat} (hxy : x < y) (h1 : 0 < A + B * x) (h2 : A + B * y ≤ 0) : ∃ z, x < z ∧ z ≤ y ∧ A + B * z = 0 ∧ (A + B * y < 0 → z < y) := by
  have hB : B < 0 := by
    refine Classical.byContradiction fun k => ?_
    have := Rat.mul_nonneg (a := B) (b := y - x) (by grind) (by grind)
    grind
  obtain ⟨i, hi⟩ : ∃ i : Rat, i * B = 1 := ⟨B⁻¹, Rat.inv_mul_cancel _ (by grind)⟩
  have hin : i < 0 := by
    refine Classical.byContradiction fun k => ?_
    have := Rat.mul_nonneg (a := i) (b := -B) (by grind) (by grind)
    have e : i * -B = -1 := by grind
    grind
  have hz : A + B * (-A * i) = 0 := by
    have e : B * (-A * i) = -A * (i * B) := by grind
    rw [e, hi]; grind
  have ex : (A + B * x) * -i = -A * i - x := by
    have e : (A + B * x) * -i = -A * i - (i * B) * x := by grind
    rw [e, hi]; grind
  have ey : -(A + B * y) * -i = A * i + y := by
    have e : -(A + B * y) * -i = A * i + (i * B) * y := by grind
    rw [e, hi]; grind
  refine ⟨-A * i, ?_, ?_, hz, fun h3 => ?_⟩
  · have := Rat.mul_pos (a := A + B * x) (b := -i) h1 (by grind)
    grind
  · have := Rat.mul_nonneg (a := -(A + B * y)) (b := -i) (by grind) (by grind)
    grind
  · have := Rat.mul_pos (a := -(A + B * y)) (b := -i) (by grind) (by grind)
    grind
theorem root' {A B x y : Rat} (hxy : x < y) (h1 : A + B * x ≤ 0) (h2 : 0 < A + B * y) : ∃ z, x ≤ z ∧ z < y ∧ A + B * z = 0 := by
  obtain ⟨z, h1, h2, h3, -⟩ := root (A := A + B * (x + y)) (B := -B) (x := x) (y := y) hxy (by grind) (by grind)
  exact ⟨x + y - z, by grind, by grind, by grind⟩
/-- Of two edges: f above e at x, not above it at y. -/
theorem cut {e f : Ed} {x y : Rat} (hxy : x < y) (h1 : ht e x < ht f x) (h2 : ht f y ≤ ht e y) : ∃ z, x < z ∧ z ≤ y ∧ ht f z = ht e z ∧ (ht f y < ht e y → z < y) := by
  obtain ⟨z, a, b, c, d⟩ := root (A := f.1.2 - f.1.1 * sl f - e.1.2 + e.1.1 * sl e) (B := sl f - sl e) (x := x) (y := y) hxy (by unfold ht at h1; grind) (by unfold ht at h2; grind)
  refine ⟨z, a, b, by unfold ht; grind, fun k => d ?_⟩
  unfold ht at k; grind
theorem cut' {e f : Ed} {x y : Rat} (hxy : x < y) (h1 : ht f x ≤ ht e x) (h2 : ht e y < ht f y) : ∃ z, x ≤ z ∧ z < y ∧ ht f z = ht e z := by
  obtain ⟨z, a, b, c⟩ := root' (A := f.1.2 - f.1.1 * sl f - e.1.2 + e.1.1 * sl e) (B := sl f - sl e) (x := x) (y := y) hxy (by unfold ht at h1; grind) (by unfold ht at h2; grind)
  exact ⟨z, a, b, by unfold ht; grind⟩
theorem min_of {α : Type} (f : α → Rat) : ∀ (l : List α), l ≠ [] → ∃ a ∈ l, ∀ b ∈ l, f a ≤ f b
  | [], h => absurd rfl h
  | [a], _ => ⟨a, by simp, by simp⟩
  | a :: b :: l, _ => by
    obtain ⟨c, hc, h⟩ := min_of f (b :: l) (by simp)
    by_cases k : f a ≤ f c
    · refine ⟨a, by simp, fun x hx => ?_⟩
      rcases List.mem_cons.1 hx with rfl | hx
      · grind
      · exact Rat.le_trans k (h x hx)
    · refine ⟨c, List.mem_cons_of_mem _ hc, fun x hx => ?_⟩
      rcases List.mem_cons.1 hx with rfl | hx
      · grind
      · exact h x hx
/-- A drawing. -/
structure Drawn (V : List Q2) (E : List Ed) : Prop where
  way : ∀ e ∈ E, e.1.1 < e.2.1
  fst : ∀ e ∈ E, e.1 ∈ V
  snd : ∀ e ∈ E, e.2 ∈ V
  inj : ∀ p ∈ V, ∀ q ∈ V, p.1 = q.1 → p = q
  used : ∀ p ∈ V, ∃ e ∈ E, e.1 = p ∨ e.2 = p
  meet : ∀ e ∈ E, ∀ f ∈ E, e ≠ f → ∀ x, e.1.1 ≤ x → x ≤ e.2.1 → f.1.1 ≤ x → x ≤ f.2.1 → ht e x = ht f x → (x = e.1.1 ∨ x = e.2.1) ∧ (x = f.1.1 ∨ x = f.2.1)
variable {V : List Q2} {E : List Ed}
theorem steeper {e f : Ed} {x : Rat} (h : e.1 = f.1) (hx : e.1.1 < x) : ht e x < ht f x ↔ sl e < sl f := by
  unfold ht
  rw [← h]
  constructor
  · intro k
    refine Classical.byContradiction fun n => ?_
    have := Rat.mul_nonneg (a := x - e.1.1) (b := sl e - sl f) (by grind) (by grind)
    grind
  · intro k
    have := Rat.mul_pos (a := x - e.1.1) (b := sl f - sl e) (by grind) (by grind)
    grind
theorem same_slope (h : Drawn V E) {e f : Ed} (he : e ∈ E) (hf : f ∈ E) (h1 : e.1 = f.1) (hs : sl e = sl f) : e = f := by
  refine Classical.byContradiction fun hne => ?_
  have we := h.way e he
  have wf := h.way f hf
  have hh : ∀ x, ht e x = ht f x := fun x => by unfold ht; rw [h1, hs]
  obtain ⟨m, m1, m2, m3⟩ : ∃ m : Rat, e.1.1 < m ∧ m < e.2.1 ∧ m < f.2.1 := by
    by_cases k : e.2.1 ≤ f.2.1
    · exact ⟨(e.1.1 + e.2.1) / 2, by grind, by grind, by grind⟩
    · exact ⟨(f.1.1 + f.2.1) / 2, by grind, by grind, by grind⟩
  have := (h.meet e he f hf hne m (by grind) (by grind) (by grind) (by grind) (hh m)).1
  grind
/-- The greatest slope at its left end; the least one at its right end; at once below a point. -/
def Top (E : List Ed) (e : Ed) (p : Q2) : Prop := e.1 = p ∧ ∀ f ∈ E, f.1 = p → sl f ≤ sl e
def Bot (E : List Ed) (e : Ed) (p : Q2) : Prop := e.2 = p ∧ ∀ f ∈ E, f.2 = p → sl e ≤ sl f
def Und (E : List Ed) (e : Ed) (p : Q2) : Prop := e.1.1 < p.1 ∧ p.1 < e.2.1 ∧ ht e p.1 < p.2 ∧ ∀ f ∈ E, f.1.1 < p.1 → p.1 < f.2.1 → ht e p.1 < ht f p.1 → p.2 ≤ ht f p.1
theorem top_one (h : Drawn V E) {e f : Ed} {p : Q2} (he : e ∈ E) (hf : f ∈ E) (h1 : Top E e p) (h2 : Top E f p) : e = f := by
  have a := h1.2 f hf h2.1
  have b := h2.2 e he h1.1
  exact same_slope h he hf (h1.1.trans h2.1.symm) (by grind)
theorem bot_one (h : Drawn V E) {e f : Ed} {p : Q2} (he : e ∈ E) (hf : f ∈ E) (h1 : Bot E e p) (h2 : Bot E f p) : e = f := by
  refine Classical.byContradiction fun hne => ?_
  have a := h1.2 f hf h2.1
  have b := h2.2 e he h1.1
  have hs : sl e = sl f := by grind
  have we := h.way e he
  have wf := h.way f hf
  have e2 := ht_snd we
  have f2 := ht_snd wf
  rw [h1.1] at e2 we
  rw [h2.1] at f2 wf
  have hh : ∀ x, ht e x = ht f x := fun x => by unfold ht at *; rw [hs] at *; grind
  obtain ⟨m, m1, m2, m3⟩ : ∃ m : Rat, m < p.1 ∧ e.1.1 < m ∧ f.1.1 < m := by
    by_cases k : e.1.1 ≤ f.1.1
    · exact ⟨(f.1.1 + p.1) / 2, by grind, by grind, by grind⟩
    · exact ⟨(e.1.1 + p.1) / 2, by grind, by grind, by grind⟩
  have := (h.meet e he f hf hne m (by grind) (by rw [h1.1]; grind) (by grind) (by rw [h2.1]; grind) (hh m)).1
  rw [h1.1] at this
  grind
theorem und_one (h : Drawn V E) {e f : Ed} {p : Q2} (he : e ∈ E) (hf : f ∈ E) (h1 : Und E e p) (h2 : Und E f p) : e = f := by
  refine Classical.byContradiction fun hne => ?_
  have hh : ht e p.1 = ht f p.1 := by
    have a := h1.2.2.2 f hf h2.1 h2.2.1
    have b := h2.2.2.2 e he h1.1 h1.2.1
    have c := h1.2.2.1
    have d := h2.2.2.1
    grind
  have a := h1.1
  have b := h1.2.1
  have c := h2.1
  have d := h2.2.1
  have := (h.meet e he f hf hne p.1 (by grind) (by grind) (by grind) (by grind) hh).1
  grind
set_option maxHeartbeats 1000000 in
/-- Each edge has one of the three kinds. -/
theorem kinds (h : Drawn V E) {e : Ed} (he : e ∈ E) : Top E e e.1 ∨ Bot E e e.2 ∨ ∃ x ∈ V, Und E e x := by
  refine Classical.byContradiction fun hno => ?_
  have nT : ¬ Top E e e.1 := fun k => hno (.inl k)
  have nB : ¬ Bot E e e.2 := fun k => hno (.inr (.inl k))
  have nU : ∀ x ∈ V, ¬ Und E e x := fun x hx k => hno (.inr (.inr ⟨x, hx, k⟩))
  have we := h.way e he
  -- the next one above, at the left end
  obtain ⟨e0, he0, hl0, hs0⟩ : ∃ f ∈ E, f.1 = e.1 ∧ sl e < sl f := by
    refine Classical.byContradiction fun k => nT ⟨rfl, fun f hf hl => ?_⟩
    refine Classical.byContradiction fun k2 => k ⟨f, hf, hl, by grind⟩
  obtain ⟨e1, hm1, hmin⟩ := min_of sl (E.filter fun f => decide (f.1 = e.1 ∧ sl e < sl f)) (fun k => by
    have : e0 ∈ E.filter fun f => decide (f.1 = e.1 ∧ sl e < sl f) := List.mem_filter.2 ⟨he0, by simp [hl0, hs0]⟩
    rw [k] at this; cases this)
  have h1' := List.mem_filter.1 hm1
  have he1 := h1'.1
  have hl1 : e1.1 = e.1 := (of_decide_eq_true h1'.2).1
  have hs1 : sl e < sl e1 := (of_decide_eq_true h1'.2).2
  have hmin : ∀ f ∈ E, f.1 = e.1 → sl e < sl f → sl e1 ≤ sl f := fun f hf a b => hmin f (List.mem_filter.2 ⟨hf, by simp [a, b]⟩)
  clear h1' hm1 hs0 hl0 he0
  -- one above, at the right end
  obtain ⟨e2, he2, hr2, hs2⟩ : ∃ f ∈ E, f.2 = e.2 ∧ sl f < sl e := by
    refine Classical.byContradiction fun k => nB ⟨rfl, fun f hf hl => ?_⟩
    refine Classical.byContradiction fun k2 => k ⟨f, hf, hl, by grind⟩
  have w1 := h.way e1 he1
  have w2 := h.way e2 he2
  have l1 : e1.1.1 = e.1.1 := by rw [hl1]
  have r2 : e2.2.1 = e.2.1 := by rw [hr2]
  have ne1 : e1 ≠ e := fun k => by rw [k] at hs1; grind
  have ne2 : e2 ≠ e := fun k => by rw [k] at hs2; grind
  have up1 : ∀ x, e.1.1 < x → ht e x < ht e1 x := fun x hx => (steeper hl1.symm hx).2 hs1
  have up2 : ∀ x, x < e.2.1 → ht e x < ht e2 x := fun x hx => by
    have a := ht_snd we
    have b := ht_snd w2
    rw [hr2] at b
    have := Rat.mul_pos (a := e.2.1 - x) (b := sl e - sl e2) (by grind) (by grind)
    unfold ht at *
    grind
  -- the first point behind u that is on or above e and not above e1
  obtain ⟨x, hx, hxmin⟩ := min_of (fun p : Q2 => p.1) (V.filter fun p => decide (e.1.1 < p.1 ∧ p.1 ≤ e.2.1 ∧ ht e p.1 ≤ p.2 ∧ (e1.2.1 ≤ p.1 ∨ p.2 ≤ ht e1 p.1))) (fun k => by
    have : e.2 ∈ V.filter fun p => decide (e.1.1 < p.1 ∧ p.1 ≤ e.2.1 ∧ ht e p.1 ≤ p.2 ∧ (e1.2.1 ≤ p.1 ∨ p.2 ≤ ht e1 p.1)) := List.mem_filter.2 ⟨h.snd e he, by
      have a := ht_snd we
      have b := up1 _ we
      simp only [decide_eq_true_eq]
      exact ⟨we, by grind, by grind, by grind⟩⟩
    rw [k] at this; cases this)
  have hx' := List.mem_filter.1 hx
  have hxV := hx'.1
  have hxp : e.1.1 < x.1 ∧ x.1 ≤ e.2.1 ∧ ht e x.1 ≤ x.2 ∧ (e1.2.1 ≤ x.1 ∨ x.2 ≤ ht e1 x.1) := of_decide_eq_true hx'.2
  have hxm : ∀ p ∈ V, p.1 < x.1 → e.1.1 < p.1 → ht e p.1 ≤ p.2 → p.1 < e1.2.1 ∧ ht e1 p.1 < p.2 := fun p hp a b c => by
    refine Classical.byContradiction fun k => ?_
    have := hxmin p (List.mem_filter.2 ⟨hp, by
      simp only [decide_eq_true_eq]
      exact ⟨b, by grind, c, by grind⟩⟩)
    grind
  clear hx hxmin hx'
  obtain ⟨x1, x2, x3, x4⟩ := hxp
  have hxw : x.1 ≤ e1.2.1 := by
    refine Classical.byContradiction fun k => ?_
    have a := ht_snd w1
    have b := up1 e1.2.1 (by grind)
    have := hxm e1.2 (h.snd e1 he1) (by grind) (by grind) (by grind)
    grind
  have hx1 : x.2 ≤ ht e1 x.1 := by
    rcases x4 with k | k
    · have e := h.inj x hxV e1.2 (h.snd e1 he1) (by grind)
      rw [e, ht_snd w1]; grind
    · exact k
  by_cases hv : x.1 = e.2.1
  · -- it is the right end
    have ex := h.inj x hxV e.2 (h.snd e he) hv
    have hv2 : e.2.2 ≤ ht e1 e.2.1 := by rw [← ex]; exact hx1
    have hz2 := ht_snd w2
    rw [hr2] at hz2
    have ne12 : e2 ≠ e1 := fun k => by
      rw [k] at hs2; grind
    -- e1 and e2 meet at v alone
    have fin : ∀ y, y < e.2.1 → e.1.1 ≤ y → e2.1.1 ≤ y → ht e1 y < ht e2 y → (∀ z, y < z → z = e1.1.1 ∨ z = e1.2.1 → z = e1.2.1) → False := fun y y1 y2 y3 y4 y5 => by
      obtain ⟨z, z1, z2, z3, -⟩ := cut y1 y4 (by rw [hz2]; exact hv2)
      have m := h.meet e2 he2 e1 he1 ne12 z (by grind) (by grind) (by grind) (by grind) z3
      have zw := y5 z z1 m.2
      have zv : z = e.2.1 := by rcases m.1 with k | k <;> grind
      have e12 := h.inj e1.2 (h.snd e1 he1) e.2 (h.snd e he) (by grind)
      exact ne1 (Prod.ext hl1 e12)
    by_cases hz : e.1.1 < e2.1.1
    · have a := up2 e2.1.1 (by grind)
      rw [ht_fst] at a
      have k := hxm e2.1 (h.fst e2 he2) (by grind) hz (by grind)
      exact fin e2.1.1 (by grind) (by grind) (by grind) (by rw [ht_fst]; exact k.2) (fun z a b => by grind)
    · by_cases hz' : e2.1.1 = e.1.1
      · have := h.inj e2.1 (h.fst e2 he2) e.1 (h.fst e he) hz'
        exact ne2 (Prod.ext this hr2)
      · have a := up2 e.1.1 we
        have b := ht_fst e
        have c := ht_fst e1
        rw [hl1] at c
        exact fin e.1.1 we (by grind) (by grind) (by grind) (fun z a b => by grind)
  · -- e is at once below it
    have hxv : x.1 < e.2.1 := by grind
    have x5 : ht e x.1 < x.2 := by
      refine Classical.byContradiction fun k => ?_
      obtain ⟨f, hf, hfx⟩ := h.used x hxV
      have wf := h.way f hf
      have nfe : e ≠ f := fun k => by
        subst k
        rcases hfx with k | k
        · rw [k] at x1; grind
        · rw [k] at hv; grind
      have hfh : ht f x.1 = x.2 := by
        rcases hfx with k | k
        · rw [← k]; exact ht_fst f
        · rw [← k]; exact ht_snd wf
      have := (h.meet e he f hf nfe x.1 (by grind) (by grind) (by rcases hfx with k | k <;> rw [← k] <;> grind) (by rcases hfx with k | k <;> rw [← k] <;> grind) (by grind)).1
      grind
    refine nU x hxV ⟨x1, hxv, x5, fun f hf f1 f2 f3 => ?_⟩
    refine Classical.byContradiction fun k => ?_
    have f4 : ht f x.1 < x.2 := by grind
    have nfe : f ≠ e := fun k => by rw [k] at f3; grind
    have nf1 : f ≠ e1 := fun k => by rw [k] at f4; grind
    have wf := h.way f hf
    have hf1 : ht f x.1 < ht e1 x.1 := by grind
    by_cases hp : e.1.1 < f.1.1
    · have pe : ht e f.1.1 ≤ f.1.2 := by
        refine Classical.byContradiction fun k => ?_
        have hk : ht f f.1.1 ≤ ht e f.1.1 := by rw [ht_fst]; grind
        obtain ⟨z, z1, z2, z3⟩ := cut' f1 hk f3
        have := (h.meet f hf e he nfe z (by grind) (by grind) (by grind) (by grind) z3).2
        grind
      have k2 := hxm f.1 (h.fst f hf) f1 hp pe
      obtain ⟨z, z1, z2, z3, z4⟩ := cut f1 (by rw [ht_fst]; exact k2.2) (Rat.le_of_lt hf1)
      have z4 := z4 hf1
      have := (h.meet f hf e1 he1 nf1 z (by grind) (by grind) (by grind) (by grind) z3).1
      grind
    · by_cases hp' : f.1.1 = e.1.1
      · have e5 := h.inj f.1 (h.fst f hf) e.1 (h.fst e he) hp'
        have s1 := (steeper e5.symm x1).1 f3
        have s2 := hmin f hf e5 s1
        have s3 := (steeper (e := f) (f := e1) (by rw [e5, hl1]) (by grind)).1 hf1
        grind
      · have hu : e.1.2 < ht f e.1.1 := by
          refine Classical.byContradiction fun k => ?_
          have hk : ht f e.1.1 ≤ ht e e.1.1 := by rw [ht_fst e]; grind
          obtain ⟨z, z1, z2, z3⟩ := cut' x1 hk f3
          have := (h.meet f hf e he nfe z (by grind) (by grind) (by grind) (by grind) z3).1
          grind
        have c := ht_fst e1
        rw [hl1] at c
        obtain ⟨z, z1, z2, z3, z4⟩ := cut (e := e1) (f := f) x1 (by grind) (Rat.le_of_lt hf1)
        have z4 := z4 hf1
        have := (h.meet f hf e1 he1 nf1 z (by grind) (by grind) (by grind) (by grind) z3).1
        grind
theorem pigeon {α β : Type} [DecidableEq β] (R : α → β → Prop) : ∀ (l : List α) (m : List β), l.Nodup → (∀ a ∈ l, ∃ b ∈ m, R a b) → (∀ a ∈ l, ∀ c ∈ l, ∀ b, R a b → R c b → a = c) → l.length ≤ m.length
  | [], _, _, _, _ => by simp
  | a :: l, m, hn, h1, h2 => by
    rw [List.nodup_cons] at hn
    obtain ⟨b, hb, hr⟩ := h1 a (by simp)
    have := pigeon R l (m.erase b) hn.2 (fun c hc => by
      obtain ⟨d, hd, hr'⟩ := h1 c (by simp [hc])
      refine ⟨d, ?_, hr'⟩
      refine (List.mem_erase_of_ne fun e => ?_).2 hd
      subst e
      exact hn.1 ((h2 a (by simp) c (by simp [hc]) d hr hr') ▸ hc)) (fun c hc d hd => h2 c (by simp [hc]) d (by simp [hd]))
    rw [List.length_erase_of_mem hb] at this
    have : 0 < m.length := List.length_pos_of_mem hb
    simp only [List.length_cons]; omega
/-- At most three times as many. -/
theorem bound (h : Drawn V E) (hn : E.Nodup) : E.length ≤ 3 * V.length := by
  have := pigeon (β := Nat × Q2) (fun e b => (b.1 = 0 ∧ Top E e b.2) ∨ (b.1 = 1 ∧ Bot E e b.2) ∨ (b.1 = 2 ∧ Und E e b.2)) E (V.map (fun p => (0, p)) ++ (V.map (fun p => (1, p)) ++ V.map fun p => (2, p))) hn (fun e he => by
    rcases kinds h he with k | k | ⟨x, hx, k⟩
    · exact ⟨(0, e.1), by simp [h.fst e he], .inl ⟨rfl, k⟩⟩
    · exact ⟨(1, e.2), by simp [h.snd e he], .inr (.inl ⟨rfl, k⟩)⟩
    · exact ⟨(2, x), by simp [hx], .inr (.inr ⟨rfl, k⟩)⟩) (fun e he f hf b k1 k2 => by
    rcases k1 with ⟨a, k⟩ | ⟨a, k⟩ | ⟨a, k⟩ <;> rcases k2 with ⟨b', k'⟩ | ⟨b', k'⟩ | ⟨b', k'⟩
    all_goals first
      | (exfalso; omega)
      | exact top_one h he hf k k'
      | exact bot_one h he hf k k'
      | exact und_one h he hf k k')
  simp only [List.length_append, List.length_map] at this
  omega
end Plane
end Go.Proofs.Ytdbknodifpmmoaa
