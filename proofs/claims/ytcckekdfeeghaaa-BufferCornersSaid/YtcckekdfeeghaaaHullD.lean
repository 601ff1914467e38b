/-
  Plain law: gift wrapping goes round the hull. Conditions: none.
-/
import Derived.Test.YtcckekdfeeghaaaBufM
namespace Go.Proofs.Ytcckekdfeeghaaa
set_option linter.unusedSimpArgs false
set_option linter.unusedVariables false

/-- One point that the reference looks at. -/
def wrapStep (p nx q : Pt2) : Pt2 := if q = p then nx else if nx = p ∨ crs p nx q < 0 ∨ (crs p nx q = 0 ∧ onR p q nx = true) then q else nx
theorem onR_iff {a b x : Pt2} : onR a b x = true ↔ crs a b x = 0 ∧ (min a.1 b.1 ≤ x.1 ∧ x.1 ≤ max a.1 b.1) ∧ min a.2 b.2 ≤ x.2 ∧ x.2 ≤ max a.2 b.2 := by
  unfold onR
  simp only [Bool.and_eq_true, decide_eq_true_eq, beq_iff_eq]
  constructor
  · rintro ⟨⟨⟨⟨a, b⟩, c⟩, d⟩, e⟩; exact ⟨a, ⟨b, c⟩, d, e⟩
  · rintro ⟨a, ⟨b, c⟩, d, e⟩; exact ⟨⟨⟨⟨a, b⟩, c⟩, d⟩, e⟩
theorem crs_anti (p a b : Pt2) : crs p a b = - crs p b a := by unfold crs crossV; grind
theorem wrap_stay {l : List Pt2} {p v q : Pt2} (h : Edge l p v) (hq : q ∈ l) : wrapStep p v q = v := by
  unfold wrapStep
  split
  · rfl
  · rename_i hqp
    split
    · rename_i hc
      rcases hc with hc | hc | ⟨hc, ho⟩
      · exact absurd hc.symm h.1
      · have := h.2.1 q hq; omega
      · obtain ⟨-, ⟨o1, o2⟩, o3, o4⟩ := onR_iff.1 ho
        rcases h.2.2 q hq hc with g | g | ⟨g1, g2⟩ | ⟨g1, g2⟩
        · exact absurd g hqp
        · exact g
        · exfalso
          unfold lx at g1 g2
          have e : q.1 = v.1 := by omega
          have e2 : (v.1 - p.1) * (q.2 - v.2) = 0 := by
            have := hc
            unfold crs crossV at this
            rw [e] at this
            grind
          rcases Int.mul_eq_zero.1 e2 with z | z <;> omega
        · exfalso
          unfold lx at g1 g2
          have e : q.1 = v.1 := by omega
          have e2 : (v.1 - p.1) * (q.2 - v.2) = 0 := by
            have := hc
            unfold crs crossV at this
            rw [e] at this
            grind
          rcases Int.mul_eq_zero.1 e2 with z | z <;> omega
    · rfl
theorem seg_box {p v x : Pt2} (hc : crs p v x = 0) (h1 : lx p x) (h2 : lx x v) : min p.2 v.2 ≤ x.2 ∧ x.2 ≤ max p.2 v.2 := by
  unfold lx at h1 h2
  unfold crs crossV at hc
  by_cases e : p.1 = v.1
  · omega
  · have hp : 0 < v.1 - p.1 := by omega
    have k1 : (v.1 - p.1) * (x.2 - p.2) = (v.2 - p.2) * (x.1 - p.1) := by omega
    have k2 : (v.1 - p.1) * (v.2 - x.2) = (v.2 - p.2) * (v.1 - x.1) := by grind
    rcases Int.le_total p.2 v.2 with g | g
    · have a1 : 0 ≤ (v.1 - p.1) * (x.2 - p.2) := by rw [k1]; exact Int.mul_nonneg (by omega) (by omega)
      have a2 : 0 ≤ (v.1 - p.1) * (v.2 - x.2) := by rw [k2]; exact Int.mul_nonneg (by omega) (by omega)
      have b1 := Int.nonneg_of_mul_nonneg_right a1 hp
      have b2 := Int.nonneg_of_mul_nonneg_right a2 hp
      omega
    · have a1 : 0 ≤ (v.1 - p.1) * (p.2 - x.2) := by
        have : (v.1 - p.1) * (p.2 - x.2) = (p.2 - v.2) * (x.1 - p.1) := by grind
        rw [this]; exact Int.mul_nonneg (by omega) (by omega)
      have a2 : 0 ≤ (v.1 - p.1) * (x.2 - v.2) := by
        have : (v.1 - p.1) * (x.2 - v.2) = (p.2 - v.2) * (v.1 - x.1) := by grind
        rw [this]; exact Int.mul_nonneg (by omega) (by omega)
      have b1 := Int.nonneg_of_mul_nonneg_right a1 hp
      have b2 := Int.nonneg_of_mul_nonneg_right a2 hp
      omega
theorem crs_rev (p v x : Pt2) : crs v p x = - crs p v x := by unfold crs crossV; grind
theorem wrap_take {l : List Pt2} {p v nx : Pt2} (h : Edge l p v) (hn : nx ∈ l) : wrapStep p nx v = v := by
  unfold wrapStep
  rw [if_neg (fun e => h.1 e.symm)]
  by_cases hnp : nx = p
  · rw [if_pos (.inl hnp)]
  · by_cases hnv : nx = v
    · split
      · rfl
      · exact hnv
    · have h0 := h.2.1 nx hn
      have ha := crs_anti p nx v
      by_cases hz : crs p v nx = 0
      · rw [if_pos]
        refine .inr (.inr ⟨by omega, onR_iff.2 ⟨hz, ?_⟩⟩)
        rcases h.2.2 nx hn hz with g | g | ⟨g1, g2⟩ | ⟨g1, g2⟩
        · exact absurd g hnp
        · exact absurd g hnv
        · have := seg_box hz g1 g2
          unfold lx at g1 g2
          omega
        · have := seg_box (p := v) (v := p) (by rw [crs_rev]; omega) g1 g2
          unfold lx at g1 g2
          omega
      · rw [if_pos (.inr (.inl (by omega)))]
theorem wrapStep_mem {l : List Pt2} {p nx q : Pt2} (hn : nx ∈ l) (hq : q ∈ l) : wrapStep p nx q ∈ l := by
  unfold wrapStep
  split
  · exact hn
  · split
    · exact hq
    · exact hn
/-- The scan from a corner comes to the next one. -/
theorem wrap_scan {l : List Pt2} {p v : Pt2} (h : Edge l p v) : ∀ (m : List Pt2) (nx : Pt2), nx ∈ l → (∀ q ∈ m, q ∈ l) → (nx = v ∨ v ∈ m) → m.foldl (wrapStep p) nx = v
  | [], nx, _, _, hv => by
    rcases hv with hv | hv
    · exact hv
    · cases hv
  | q :: m, nx, hn, hm, hv => by
    rw [List.foldl_cons]
    have hq := hm q (by simp)
    refine wrap_scan h m _ (wrapStep_mem hn hq) (fun x hx => hm x (List.mem_cons_of_mem _ hx)) ?_
    rcases hv with rfl | hv
    · exact .inl (wrap_stay h hq)
    · rcases List.mem_cons.1 hv with rfl | hv
      · exact .inl (wrap_take h hn)
      · exact .inr hv
theorem Ring3.ext {l m H : List Pt2} (h : Ring3 l H) (e : ∀ q, q ∈ m ↔ q ∈ l) : Ring3 m H :=
  ⟨h.n3, fun i hi => by
    obtain ⟨a, b, c⟩ := h.edge i hi
    exact ⟨a, fun x hx => b x ((e x).1 hx), fun x hx => c x ((e x).1 hx)⟩, h.nodup, fun i hi => (e _).2 (h.mem i hi), fun x hx => h.first x ((e x).1 hx)⟩
theorem Ring3.scan {l H : List Pt2} (h : Ring3 l H) {i : Nat} (hi : i < H.length) : l.foldl (wrapStep (pAt H i)) (pAt H 0) = pAt H ((i + 1) % H.length) :=
  wrap_scan (h.edge i hi) l _ (h.mem 0 (by omega)) (fun q hq => hq) (.inr (h.mem _ (Nat.mod_lt _ (by omega))))
theorem Ring3.least {l H : List Pt2} (h : Ring3 l H) {m : Pt2} (hm : m ∈ l) (hl : ∀ x ∈ l, ¬ lx x m) : m = pAt H 0 := by
  rcases h.first m hm with g | g
  · exact g
  · exact absurd g (hl _ (h.mem 0 (by have := h.n3; omega)))
end Go.Proofs.Ytcckekdfeeghaaa
