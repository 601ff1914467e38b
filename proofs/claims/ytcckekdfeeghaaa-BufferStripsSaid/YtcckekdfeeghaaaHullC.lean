/-
  Plain laws of strips: points near a segment; the octagon of the fact. Conditions: none.
-/
import Derived.Test.YtcckekdfeeghaaaBufG
import Derived.Test.YtcckekdfeeghaaaHullB
namespace Go.Proofs.Ytcckekdfeeghaaa
set_option linter.unusedSimpArgs false
set_option linter.unusedVariables false

theorem crnV_form (p : Pt2) (b : Int) : crnV p b = [(p.1 + -1 * (5 * b / 12), p.2 + -1 * b), (p.1 + 1 * (5 * b / 12), p.2 + -1 * b), (p.1 + 1 * (5 * b / 12), p.2 + 1 * b), (p.1 + -1 * (5 * b / 12), p.2 + 1 * b),
    (p.1 + -1 * b, p.2 + -1 * (5 * b / 12)), (p.1 + 1 * b, p.2 + -1 * (5 * b / 12)), (p.1 + 1 * b, p.2 + 1 * (5 * b / 12)), (p.1 + -1 * b, p.2 + 1 * (5 * b / 12))] := rfl
theorem crnV_corner (p : Pt2) (b s1 s2 : Int) (h1 : s1 = -1 ∨ s1 = 1) (h2 : s2 = -1 ∨ s2 = 1) : (p.1 + s1 * (5 * b / 12), p.2 + s2 * b) ∈ crnV p b ∧ (p.1 + s1 * b, p.2 + s2 * (5 * b / 12)) ∈ crnV p b := by
  rw [crnV_form]
  rcases h1 with rfl | rfl <;> rcases h2 with rfl | rfl <;> simp
theorem crn_three {p : Pt2} {b : Int} (hb : 1 ≤ b) : ∃ x y z, x ∈ crnV p b ∧ y ∈ crnV p b ∧ z ∈ crnV p b ∧ crs x y z ≠ 0 := by
  refine ⟨_, _, _, (crnV_corner p b (-1) (-1) (.inl rfl) (.inl rfl)).2, (crnV_corner p b 1 (-1) (.inr rfl) (.inl rfl)).2, (crnV_corner p b (-1) 1 (.inl rfl) (.inr rfl)).1, ?_⟩
  unfold crs crossV
  dsimp only
  have e : (p.1 + 1 * b - (p.1 + -1 * b)) * (p.2 + 1 * b - (p.2 + -1 * (5 * b / 12))) - (p.2 + -1 * (5 * b / 12) - (p.2 + -1 * (5 * b / 12))) * (p.1 + -1 * (5 * b / 12) - (p.1 + -1 * b)) = (2 * b) * (b + 5 * b / 12) := by
    generalize 5 * b / 12 = k
    grind
  rw [e]
  have : 0 < (2 * b) * (b + 5 * b / 12) := Int.mul_pos (by omega) (by omega)
  omega
theorem oct_ring {p : Pt2} {b : Int} (hb : 1 ≤ b) : Ring3 (crnV p b) (hullV (crnV p b)) := by
  obtain ⟨x, y, z, hx, hy, hz, h⟩ := crn_three (p := p) hb
  exact ring3 hx hy hz h
theorem str_ring {p q : Pt2} {b : Int} (hb : 1 ≤ b) : Ring3 (strL p q b) (hullV (strL p q b)) := by
  obtain ⟨x, y, z, hx, hy, hz, h⟩ := crn_three (p := p) hb
  exact ring3 (List.mem_append_left _ hx) (List.mem_append_left _ hy) (List.mem_append_left _ hz) h
theorem edge_near {p q a e m : Pt2} {b d1 d2 : Int} (hb : 3 ≤ b ∧ b ≤ 32) (hE : Edge (strL p q b) a e) (h1 : -(2 * b / 3) ≤ d1 ∧ d1 ≤ 2 * b / 3) (h2 : -(2 * b / 3) ≤ d2 ∧ d2 ≤ 2 * b / 3)
    (hc : crs p q m = 0) (hd : (p.1 - m.1) * (q.1 - m.1) + (p.2 - m.2) * (q.2 - m.2) ≤ 0) : 0 ≤ crs a e (m.1 + d1, m.2 + d2) := by
  have hfar := far_near b hb.1 hb.2
  have hk : 0 ≤ 5 * b / 12 := by omega
  have near : ∀ x : Pt2, (∀ y ∈ crnV x b, 0 ≤ crs a e y) → 0 ≤ crs a e (x.1 + d1, x.2 + d2) := fun x hx => by
    have := form_near (g1 := -(e.2 - a.2)) (g2 := e.1 - a.1) (v := crs a e x) (k := 5 * b / 12) (b := b) (r := 2 * b / 3) (d1 := d1) (d2 := d2) hk (by omega) (by omega) (fun s1 s2 hs1 hs2 => by
      obtain ⟨c1, c2⟩ := crnV_corner x b s1 s2 hs1 hs2
      have i1 := hx _ c1
      have i2 := hx _ c2
      generalize 5 * b / 12 = k at *
      unfold crs crossV at *
      dsimp only at i1 i2
      constructor <;> grind) h1 h2
    unfold crs crossV at *
    grind
  refine on_mid (f := fun x => crs a e (x.1 + d1, x.2 + d2)) (g1 := -(e.2 - a.2)) (g2 := e.1 - a.1) (P := p) (Q := q) (M := m) (fun x => by unfold crs crossV; grind) (near p fun y hy => ?_) (near q fun y hy => ?_) hc hd
  · exact hE.2.1 y (List.mem_append_left _ hy)
  · exact hE.2.1 y (List.mem_append_right _ hy)

theorem hullV_len (l : List Pt2) : (hullV l).length ≤ 2 * l.length := by
  have h1 := cmpL_le (srtL l)
  have h2 : (srtL l).length = l.length := by unfold srtL; simp
  have h3 := chain_len (hullS l)
  have h4 := chain_len (hullS l).reverse
  have h5 : (hullS l).length ≤ l.length := by unfold hullS; omega
  rw [List.length_reverse] at h4
  unfold hullV hullX
  split
  · omega
  · rw [List.length_append, List.length_reverse, List.length_reverse, List.length_tail, List.length_tail]
    unfold chainT
    omega
theorem hullV_again {l : List Pt2} (h : Ring3 l (hullV l)) : hullV (hullV l) = hullV l := by
  have h2 : 2 ≤ (hullS l).length := two_mem (h.mem 0 (by have := h.n3; omega)) (h.mem 1 (by have := h.n3; omega)) (h.nodup 0 1 (by omega) (by have := h.n3; omega))
  have e := hullV_ring h2
  have hm : ∀ x, x ∈ hullS (hullV l) ↔ x ∈ ringOf (chainT (hullS l)) (chainT (hullS l).reverse) := fun x => by rw [hullS_mem, e]
  obtain ⟨a1, a2, a3⟩ := hull_again (hullS_srt l) h2 (hullS_srt (hullV l)) hm
  rw [hullV_ring a3, a1, a2, ← e]
def oct12 : List Pt2 := [(-12, -5), (-12, 5), (-5, -12), (-5, 12), (5, -12), (5, 12), (12, -5), (12, 5)]
theorem oct12_hull : hullV (crnV (0, 0) 12) = [(-12, -5), (-5, -12), (5, -12), (12, -5), (12, 5), (5, 12), (-5, 12), (-12, 5)] := by
  have hs : Srt oct12 := by unfold Srt oct12; simp [lx]
  have e : hullS (crnV (0, 0) 12) = oct12 := srt_ext (hullS_srt _) hs fun q => by
    rw [hullS_mem, crnV_form]
    simp only [oct12, List.mem_cons, List.not_mem_nil, or_false]
    simp
    grind
  unfold hullV
  rw [e]
  decide
theorem oct12_err : octE (0, 0) 12 = 0 := by decide
end Go.Proofs.Ytcckekdfeeghaaa
