/-
  Plain law: the shared ends of two edges of a hull. Conditions: none.
-/
import Derived.Test.YtcckekdfeeghaaaBufS
namespace Go.Proofs.Ytcckekdfeeghaaa
set_option linter.unusedSimpArgs false
set_option linter.unusedVariables false

theorem onV_ends {a b : Pt2} (ha : okP a.1 a.2 = true) (hb : okP b.1 b.2 = true) : onV a b a = true ∧ onV a b b = true := by
  unfold onV
  rw [turn_crs ha hb ha, turn_crs ha hb hb, (crs_self a b).1, (crs_self a b).2.1, (clamp_id ha).1, (clamp_id ha).2, (clamp_id hb).1, (clamp_id hb).2]
  unfold dotV
  simp [cmpI]
theorem addS_no {L : List Pt2} {p q r : Pt2} (h : onV q r p = false) : addS L p q r = L := by unfold addS; rw [if_neg]; rw [h]; simp
theorem addS_in {L : List Pt2} {p q r : Pt2} (h : p ∈ L) : addS L p q r = L := by unfold addS; rw [if_neg]; exact fun k => k.2 h
theorem addS_yes {p q r : Pt2} (h : onV q r p = true) : addS [] p q r = [p] := by unfold addS; rw [if_pos]; rfl; exact ⟨h, by simp⟩
theorem ring_off {l H : List Pt2} (h : Ring3 l H) (ok : ∀ q ∈ H, okP q.1 q.2 = true) {i j m : Nat} (hi : i < H.length) (hj : j < H.length) (hm : m = (i + 1) % H.length) (h1 : j ≠ i) (h2 : j ≠ m) : onV (pAt H i) (pAt H m) (pAt H j) = false := by
  have hml : m < H.length := by rw [hm]; exact Nat.mod_lt _ (by omega)
  cases hb : onV (pAt H i) (pAt H m) (pAt H j) with
  | false => rfl
  | true =>
    exfalso
    have := (onV_ok (ok _ (pAt_mem hi)) (ok _ (pAt_mem hml)) (ok _ (pAt_mem hj)) hb).1
    rw [hm] at this
    rcases h.on hi hj this with g | g
    · exact h1 g
    · exact h2 (by rw [hm]; exact g)
/-- Edges k before i share the corner that they must share, and no other one. -/
theorem shared_len {l H : List Pt2} (h : Ring3 l H) (ok : ∀ q ∈ H, okP q.1 q.2 = true) {k i j m : Nat} (hk : k < i) (hi : i < H.length) (hj : j = (k + 1) % H.length) (hm : m = (i + 1) % H.length) :
    (sharedL (pAt H k) (pAt H j) (pAt H i) (pAt H m)).length = if j = i ∨ m = k then 1 else 0 := by
  have n3 := h.n3
  have hj2 : j = k + 1 := by rw [hj]; exact Nat.mod_eq_of_lt (by omega)
  have hml : m < H.length := by rw [hm]; exact Nat.mod_lt _ (by omega)
  have hm2 : m = i + 1 ∨ (m = 0 ∧ i + 1 = H.length) := by
    rcases Nat.lt_or_ge (i + 1) H.length with g | g
    · left; rw [hm]; exact Nat.mod_eq_of_lt g
    · right; have : i + 1 = H.length := by omega
      exact ⟨by rw [hm, this, Nat.mod_self], this⟩
  have hjl : j < H.length := by omega
  have okk := ok _ (pAt_mem (s := H) (i := k) (by omega))
  have oki := ok _ (pAt_mem (s := H) (i := i) hi)
  have okj := ok _ (pAt_mem (s := H) (i := j) hjl)
  have okm := ok _ (pAt_mem (s := H) (i := m) hml)
  unfold sharedL
  by_cases hn : j = i
  · have hmk : m ≠ k := by omega
    have o1 : onV (pAt H i) (pAt H m) (pAt H k) = false := ring_off h ok hi (by omega) hm (by omega) (by omega)
    have o2 : onV (pAt H k) (pAt H j) (pAt H m) = false := ring_off h ok (by omega) hml hj (by omega) (by omega)
    have o3 := (onV_ends oki okm).1
    rw [if_pos (.inl hn)]
    rw [hn] at o2 ⊢
    rw [addS_no o1, addS_yes o3, addS_in (L := [pAt H i]) (p := pAt H i) (by simp), addS_no o2]
    rfl
  · by_cases hl : m = k
    · have o1 : onV (pAt H i) (pAt H m) (pAt H j) = false := ring_off h ok hi hjl hm (by omega) (by omega)
      have o2 : onV (pAt H k) (pAt H j) (pAt H i) = false := ring_off h ok (by omega) hi hj (by omega) (by omega)
      have o3 := (onV_ends oki okk).2
      rw [if_pos (.inr hl)]
      rw [hl] at o1 ⊢
      rw [addS_yes o3, addS_no o1, addS_no o2, addS_in (L := [pAt H k]) (p := pAt H k) (by simp)]
      rfl
    · have o1 : onV (pAt H i) (pAt H m) (pAt H k) = false := ring_off h ok hi (by omega) hm (by omega) (by omega)
      have o2 : onV (pAt H i) (pAt H m) (pAt H j) = false := ring_off h ok hi hjl hm (by omega) (by omega)
      have o3 : onV (pAt H k) (pAt H j) (pAt H i) = false := ring_off h ok (by omega) hi hj (by omega) (by omega)
      have o4 : onV (pAt H k) (pAt H j) (pAt H m) = false := ring_off h ok (by omega) hml hj (by omega) (by omega)
      rw [if_neg (by omega), addS_no o1, addS_no o2, addS_no o3, addS_no o4]
      rfl
end Go.Proofs.Ytcckekdfeeghaaa
