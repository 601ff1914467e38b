/-
  Plain laws of rounded chains: through, as a list; Plain laws of rounded chains: one round on; Plain laws of rounded chains: rounded pieces do not cross; Plain laws of rounded chains: what a common point of two segments is; Plain laws of rounded chains: the common point of two segments, and its pixel; Plain laws of rounded chains: the hot set never grows; Plain laws of rounded chains: states of the loop; Plain laws of rounded chains: the loop ends. Conditions: those that each lemma names.
-/
import Derived.Test.YtdnccjdlmepafaaK09
section
namespace Go.Proofs.Ytdnccjdlmepafaa
set_option linter.unusedSimpArgs false
set_option linter.unusedVariables false

section
variable {a b : Pt2} {H : List Pt2}
theorem thr_mem {p : Pt2} : p ∈ thrL a b H ↔ p ∈ H ∧ metB a b p = true := by unfold thrL; rw [List.mem_mergeSort, List.mem_filter]
/-- Behind one another, strictly. -/
theorem thru_strict (ha : okP a.1 a.2 = true) (hb : okP b.1 b.2 = true) (hH : ∀ p ∈ H, okP p.1 p.2 = true) (hn : H.Nodup) {l : List Pt2} (h : Thru a b H l) : l.Pairwise fun x y => dirV a b x y < 0 := by
  have hnd : l.Nodup := h.1.nodup_iff.2 (hn.filter _)
  refine (h.2.and hnd).imp_of_mem fun {x y} hx hy k => ?_
  obtain ⟨k1, k2⟩ := k
  have mx := List.mem_filter.1 (h.1.mem_iff.1 hx)
  have my := List.mem_filter.1 (h.1.mem_iff.1 hy)
  obtain ⟨l1, -, i1⟩ := (met_iff ha hb (hH x mx.1)).1 mx.2
  obtain ⟨l2, -, i2⟩ := (met_iff ha hb (hH y my.1)).1 my.2
  have : dirV a b x y ≠ 0 := fun e => k2 (dir_eq i1 i2 e)
  have := dir_neg a b x y
  omega
theorem thr_thru : Thru a b H (thrL a b H) := by
  refine ⟨List.mergeSort_perm _ _, ?_⟩
  have h := List.pairwise_mergeSort (le := fun x y => !decide (dirV a b y x < 0)) (fun x y z h1 h2 => by
    simp only [Bool.not_eq_true', decide_eq_false_iff_not, dir_lex] at *; omega) (fun x y => by
    simp only [Bool.or_eq_true, Bool.not_eq_true', decide_eq_false_iff_not, dir_lex]; omega) (H.filter (metB a b))
  refine List.Pairwise.imp (fun {x y} h => ?_) h
  simp only [Bool.not_eq_true', decide_eq_false_iff_not] at h; omega
/-- From a to b. -/
theorem thr_ends (ha : okP a.1 a.2 = true) (hb : okP b.1 b.2 = true) (hH : ∀ p ∈ H, okP p.1 p.2 = true) (hn : H.Nodup) (ma : a ∈ H) (mb : b ∈ H) (hne : a ≠ b) : ∃ m, thrL a b H = a :: (m ++ [b]) := by
  have hs := thru_strict ha hb hH hn (thr_thru (a := a) (b := b) (H := H))
  have hma : a ∈ thrL a b H := thr_mem.2 ⟨ma, met_fst ha hb⟩
  have hmb : b ∈ thrL a b H := thr_mem.2 ⟨mb, met_snd ha hb⟩
  have fst : ∀ x ∈ thrL a b H, dirV a b a x ≤ 0 := fun x hx => by
    have h := thr_mem.1 hx
    obtain ⟨l, il, hl⟩ := (met_iff ha hb (hH x h.1)).1 h.2
    exact dir_le il.1 (by rw [lerp0]; exact in_self a) hl
  have snd : ∀ x ∈ thrL a b H, dirV a b x b ≤ 0 := fun x hx => by
    have h := thr_mem.1 hx
    obtain ⟨l, il, hl⟩ := (met_iff ha hb (hH x h.1)).1 h.2
    exact dir_le il.2 hl (by rw [lerp1]; exact in_self b)
  rcases hl : thrL a b H with _ | ⟨x, r⟩
  · rw [hl] at hma; cases hma
  · rw [hl] at hs hma hmb fst snd
    have hxa : x = a := by
      rcases List.mem_cons.1 hma with h | h
      · exact h.symm
      · have h1 := (List.pairwise_cons.1 hs).1 a h
        have h2 := fst x (by simp)
        have := dir_neg a b a x; omega
    subst hxa
    have hbr : b ∈ r := by
      rcases List.mem_cons.1 hmb with h | h
      · exact absurd h.symm hne
      · exact h
    obtain ⟨m, y, hr⟩ : ∃ m y, r = m ++ [y] := by
      rcases List.eq_nil_or_concat r with h | ⟨m, y, h⟩
      · rw [h] at hbr; cases hbr
      · exact ⟨m, y, by rw [h, List.concat_eq_append]⟩
    refine ⟨m, ?_⟩
    have hyb : y = b := by
      rw [hr] at hbr
      rcases List.mem_append.1 hbr with h | h
      · have h1 := (List.pairwise_cons.1 hs).2
        rw [hr, List.pairwise_append] at h1
        have h2 := h1.2.2 b h y (by simp)
        have h3 := snd y (by rw [hr]; simp)
        have := dir_neg x b b y; omega
      · rw [List.mem_singleton] at h; exact h.symm
    rw [hr, hyb]
end
/-- p and q stand side by side in c. -/
def Adj (c : List Pt2) (p q : Pt2) : Prop := ∃ u v, c = u ++ p :: q :: v
theorem adj_append {u t : List Pt2} {y p q : Pt2} (h : Adj (u ++ y :: t) p q) : Adj (u ++ [y]) p q ∨ Adj (y :: t) p q := by
  obtain ⟨s, v, h⟩ := h
  rcases List.append_eq_append_iff.1 h with ⟨w, h1, h2⟩ | ⟨w, h1, h2⟩
  · exact .inr ⟨w, v, h2⟩
  · rcases w with _ | ⟨z, w⟩
    · exact .inr ⟨[], v, by simpa using h2.symm⟩
    · simp only [List.cons_append, List.cons.injEq] at h2
      obtain ⟨rfl, h2⟩ := h2
      rcases w with _ | ⟨z2, w⟩
      · simp only [List.nil_append, List.cons.injEq] at h2
        exact .inl ⟨s, [], by rw [h1, ← h2.1]; simp⟩
      · simp only [List.cons_append, List.cons.injEq] at h2
        exact .inl ⟨s, w ++ [y], by rw [h1, h2.1]; simp⟩
theorem adj_tail {x p q : Pt2} {c : List Pt2} (h : Adj c p q) : Adj (x :: c) p q := by
  obtain ⟨u, v, h⟩ := h
  exact ⟨x :: u, v, by rw [h]; rfl⟩
theorem adj_mem {c : List Pt2} {p q : Pt2} (h : Adj c p q) : p ∈ c ∧ q ∈ c := by
  obtain ⟨u, v, rfl⟩ := h; simp
theorem adj_at {c : List Pt2} {k : Nat} (h : k + 1 < c.length) : Adj c (pAt c k) (pAt c (k + 1)) := by
  refine ⟨c.take k, c.drop (k + 2), ?_⟩
  have e1 : pAt c k = c[k] := by simp [pAt, List.getD, show k < c.length by omega]
  have e2 : pAt c (k + 1) = c[k + 1] := by simp [pAt, List.getD, h]
  have h1 := List.drop_eq_getElem_cons (l := c) (i := k) (by omega)
  have h2 := List.drop_eq_getElem_cons (l := c) (i := k + 1) h
  rw [e1, e2]
  rw [h2] at h1
  exact (List.take_append_drop k c).symm.trans (by rw [h1])
theorem nextG_cons (H : List Pt2) (x : Pt2) (c : List Pt2) (n : Nat) : nextG H (x :: c) (n + 1) = (thrL x (pAt c 0) H).tail ++ nextG H c n := by
  unfold nextG
  rw [List.range_succ_eq_map, List.flatMap_cons, List.flatMap_map]
  rfl
/-- A chain, one round on: the pieces of its first segment, then the rest. -/
theorem nextC_cons {H : List Pt2} {x y : Pt2} {r m : List Pt2} (h : thrL x y H = x :: (m ++ [y])) : nextC H (x :: y :: r) = (x :: m) ++ nextC H (y :: r) := by
  unfold nextC
  simp only [List.length_cons, Nat.add_sub_cancel]
  rw [nextG_cons]
  have e : pAt (y :: r) 0 = y := rfl
  rw [e, h]
  simp [pAt]
end Go.Proofs.Ytdnccjdlmepafaa
end
section
namespace Go.Proofs.Ytdnccjdlmepafaa
set_option linter.unusedSimpArgs false
set_option linter.unusedVariables false

/-- Hot points: of the grid, each one once. -/
structure HotOk (H : List Pt2) : Prop where
  ok : ∀ p ∈ H, okP p.1 p.2 = true
  nd : H.Nodup
/-- A chain over hot points. -/
structure ChainOk (H C : List Pt2) : Prop where
  ne : C ≠ []
  mem : ∀ p ∈ C, p ∈ H
  adj : ∀ p q, Adj C p q → p ≠ q
theorem ChainOk.tail {H C : List Pt2} {x y : Pt2} (h : ChainOk H (x :: y :: C)) : ChainOk H (y :: C) :=
  ⟨by simp, fun p hp => h.mem p (by simp only [List.mem_cons] at hp ⊢; exact .inr hp), fun p q k => h.adj p q (adj_tail k)⟩
theorem ChainOk.ends {H C : List Pt2} {x y : Pt2} (hH : HotOk H) (h : ChainOk H (x :: y :: C)) : ∃ m, thrL x y H = x :: (m ++ [y]) := by
  have mx := h.mem x (by simp)
  have my := h.mem y (by simp)
  exact thr_ends (hH.ok x mx) (hH.ok y my) hH.ok hH.nd mx my (h.adj x y ⟨[], C, rfl⟩)
/-- Pieces come of pieces. -/
theorem adj_next {H : List Pt2} (hH : HotOk H) : ∀ {C : List Pt2}, ChainOk H C → ∀ p q, Adj (nextC H C) p q → ∃ a b, Adj C a b ∧ Adj (thrL a b H) p q
  | [], h, _, _, _ => absurd rfl h.ne
  | [x], h, p, q, ⟨u, v, e⟩ => by
    have : (nextC H [x]).length = 1 := by simp [nextC, nextG]
    rw [e] at this; simp at this; omega
  | x :: y :: r, h, p, q, k => by
    obtain ⟨m, hm⟩ := h.ends hH
    rw [nextC_cons hm] at k
    have e : nextC H (y :: r) = y :: nextG H (y :: r) r.length := by simp [nextC, pAt]
    rw [e] at k
    rcases adj_append k with k | k
    · exact ⟨x, y, ⟨[], r, rfl⟩, by rw [hm]; exact k⟩
    · rw [← e] at k
      obtain ⟨a, b, h1, h2⟩ := adj_next hH h.tail p q k
      exact ⟨a, b, adj_tail h1, h2⟩
theorem next_mem {H : List Pt2} (hH : HotOk H) : ∀ {C : List Pt2}, ChainOk H C → ∀ p ∈ nextC H C, p ∈ H
  | [], h, _, _ => absurd rfl h.ne
  | [x], h, p, hp => by
    have : nextC H [x] = [x] := by simp [nextC, nextG, pAt]
    rw [this] at hp; exact h.mem p hp
  | x :: y :: r, h, p, hp => by
    obtain ⟨m, hm⟩ := h.ends hH
    rw [nextC_cons hm] at hp
    rcases List.mem_append.1 hp with hp | hp
    · refine (thr_mem (a := x) (b := y).1 ?_).1
      rw [hm]
      rcases List.mem_cons.1 hp with hp | hp
      · rw [hp]; simp
      · simp [hp]
    · exact next_mem hH h.tail p hp
theorem next_len {H : List Pt2} (hH : HotOk H) : ∀ {C : List Pt2}, ChainOk H C → C.length ≤ (nextC H C).length
  | [], h => absurd rfl h.ne
  | [x], h => by simp [nextC]
  | x :: y :: r, h => by
    obtain ⟨m, hm⟩ := h.ends hH
    rw [nextC_cons hm, List.length_append]
    have := next_len hH h.tail
    simp only [List.length_cons] at *; omega
section
variable {a b : Pt2} {H : List Pt2}
/-- Side by side among the points met: in the order of the way. -/
theorem adj_met (hH : HotOk H) (ha : okP a.1 a.2 = true) (hb : okP b.1 b.2 = true) {p q : Pt2} (h : Adj (thrL a b H) p q) :
    (p ∈ H ∧ q ∈ H ∧ p ≠ q) ∧ ∃ l m, I01 l ∧ I01 m ∧ l ≤ m ∧ inP (toQ p) (lerp (toQ a) (toQ b) l) ∧ inP (toQ q) (lerp (toQ a) (toQ b) m) := by
  have hs := thru_strict ha hb hH.ok hH.nd (thr_thru (a := a) (b := b) (H := H))
  obtain ⟨mp, mq⟩ := adj_mem h
  have mp := thr_mem.1 mp
  have mq := thr_mem.1 mq
  obtain ⟨l, il, hl⟩ := (met_iff ha hb (hH.ok p mp.1)).1 mp.2
  obtain ⟨m, im, hm⟩ := (met_iff ha hb (hH.ok q mq.1)).1 mq.2
  have hpq : dirV a b p q < 0 := by
    obtain ⟨u, v, e⟩ := h
    rw [e, List.pairwise_append] at hs
    exact (List.pairwise_cons.1 hs.2.1).1 q (by simp)
  have hlm : l ≤ m := by
    rcases Rat.le_total (a := l) (b := m) with h | h
    · exact h
    · have := dir_le h hm hl
      have := dir_neg a b p q; omega
  refine ⟨⟨mp.1, mq.1, fun e => ?_⟩, l, m, il, im, hlm, hl, hm⟩
  rw [e] at hpq
  have := dir_neg a b q q; omega
end
/-- A chain goes one way. -/
def MonoC (sx sy : Int) (C : List Pt2) : Prop := ∀ p q, Adj C p q → 0 ≤ sx * (q.1 - p.1) ∧ 0 ≤ sy * (q.2 - p.2) ∧ p ≠ q
theorem sgn_keep {s n x : Int} (hs : s = 1 ∨ s = -1) (h : 0 ≤ s * n) (k : 0 ≤ sgnI n * x) (z : n = 0 → x = 0) : 0 ≤ s * x := by
  by_cases h0 : n = 0
  · rw [z h0]; simp
  · have : sgnI n = s := by
      unfold sgnI
      rcases hs with rfl | rfl <;> omega
    rw [← this]; exact k
theorem mono_next {H C : List Pt2} (hH : HotOk H) (hC : ChainOk H C) {sx sy : Int} (hx : sx = 1 ∨ sx = -1) (hy : sy = 1 ∨ sy = -1) (h : MonoC sx sy C) : MonoC sx sy (nextC H C) := by
  intro p q k
  obtain ⟨a, b, h1, h2⟩ := adj_next hH hC p q k
  obtain ⟨ma, mb⟩ := adj_mem h1
  obtain ⟨⟨-, -, hne⟩, l, m, -, -, hlm, hp, hq⟩ := adj_met hH (hH.ok a (hC.mem a ma)) (hH.ok b (hC.mem b mb)) h2
  have hd := dir_mono hlm hp hq
  have hab := h a b h1
  exact ⟨sgn_keep hx hab.1 hd.1.1 (fun e => by have := hd.1.2 (by omega); omega), sgn_keep hy hab.2.1 hd.2.1 (fun e => by have := hd.2.2 (by omega); omega), hne⟩
theorem next_ok {H C : List Pt2} (hH : HotOk H) (hC : ChainOk H C) : ChainOk H (nextC H C) := by
  refine ⟨by simp [nextC], next_mem hH hC, fun p q k => ?_⟩
  obtain ⟨a, b, h1, h2⟩ := adj_next hH hC p q k
  obtain ⟨ma, mb⟩ := adj_mem h1
  exact (adj_met hH (hH.ok a (hC.mem a ma)) (hH.ok b (hC.mem b mb)) h2).1.2.2
end Go.Proofs.Ytdnccjdlmepafaa
end
section
namespace Go.Proofs.Ytdnccjdlmepafaa
set_option linter.unusedSimpArgs false
set_option linter.unusedVariables false

theorem between {l m t : Rat} (h : l ≤ m) (ht : I01 t) : l ≤ l + t * (m - l) ∧ l + t * (m - l) ≤ m := by
  unfold I01 at ht
  have h1 := Rat.mul_nonneg (a := t) (b := m - l) ht.1 (by grind)
  have h2 := Rat.mul_nonneg (a := 1 - t) (b := m - l) (by grind) (by grind)
  grind
end Go.Proofs.Ytdnccjdlmepafaa
end
section
namespace Go.Proofs.Ytdnccjdlmepafaa
set_option linter.unusedSimpArgs false
set_option linter.unusedVariables false

theorem addS_sub {L : List Pt2} {p q r x : Pt2} (h : x ∈ L) : x ∈ addS L p q r := by
  unfold addS; split
  · exact List.mem_append_left _ h
  · exact h
theorem addS_self {L : List Pt2} {p q r : Pt2} (h : onV q r p = true) : p ∈ addS L p q r := by
  unfold addS; split
  · simp
  · rename_i k
    exact Classical.byContradiction fun hn => k ⟨h, hn⟩
theorem addS_nodup {L : List Pt2} {p q r : Pt2} (h : L.Nodup) : (addS L p q r).Nodup := by
  unfold addS; split
  · rename_i k
    rw [List.nodup_append]
    exact ⟨h, by simp, fun a ha b hb e => by rw [List.mem_singleton] at hb; rw [e, hb] at ha; exact k.2 ha⟩
  · exact h
theorem sharedL_nodup (a b c d : Pt2) : (sharedL a b c d).Nodup := addS_nodup (addS_nodup (addS_nodup (addS_nodup List.nodup_nil)))
theorem sharedL_of {a b c d : Pt2} : (onV c d a = true → a ∈ sharedL a b c d) ∧ (onV c d b = true → b ∈ sharedL a b c d) ∧ (onV a b c = true → c ∈ sharedL a b c d) ∧ (onV a b d = true → d ∈ sharedL a b c d) := by
  unfold sharedL
  exact ⟨fun h => addS_sub (addS_sub (addS_sub (addS_self h))), fun h => addS_sub (addS_sub (addS_self h)), fun h => addS_sub (addS_self h), fun h => addS_self h⟩
end Go.Proofs.Ytdnccjdlmepafaa
end
section
namespace Go.Proofs.Ytdnccjdlmepafaa
set_option linter.unusedSimpArgs false
set_option linter.unusedVariables false

end Go.Proofs.Ytdnccjdlmepafaa
end
section
namespace Go.Proofs.Ytdnccjdlmepafaa
set_option linter.unusedSimpArgs false
set_option linter.unusedVariables false

theorem hot_mem {l : List Sg} {p : Pt2} : p ∈ hotL l ↔ ∃ i, i < l.length ∧ (p = (sgAt l i).1 ∨ p = (sgAt l i).2 ∨ ∃ j, j < i ∧ p ∈ pairS (sgAt l i) (sgAt l j)) := by
  unfold hotL
  rw [hullS_mem]
  unfold outS innS
  simp only [List.mem_flatMap, List.mem_range, List.mem_cons]
theorem sg_at {l : List Sg} {s : Sg} (h : s ∈ l) : ∃ i, i < l.length ∧ sgAt l i = s := by
  obtain ⟨i, hi, e⟩ := List.getElem_of_mem h
  exact ⟨i, hi, by simp [sgAt, List.getD, hi, e]⟩
theorem hot_end {l : List Sg} {s : Sg} (h : s ∈ l) : s.1 ∈ hotL l ∧ s.2 ∈ hotL l := by
  obtain ⟨i, hi, rfl⟩ := sg_at h
  exact ⟨hot_mem.2 ⟨i, hi, .inl rfl⟩, hot_mem.2 ⟨i, hi, .inr (.inl rfl)⟩⟩
end Go.Proofs.Ytdnccjdlmepafaa
end
section
namespace Go.Proofs.Ytdnccjdlmepafaa
set_option linter.unusedSimpArgs false
set_option linter.unusedVariables false

theorem snocG_mem {acc : List Sg} {p q : Sg} : q ∈ snocG acc p ↔ q ∈ acc ∨ q = p := by
  unfold snocG
  split
  · rename_i h
    rw [List.length_eq_zero_iff.1 h]; simp
  · rename_i h0
    split
    · rename_i h
      constructor
      · exact .inl
      · rintro (k | k)
        · exact k
        · rw [k, h]; exact sgAt_mem (by omega)
    · simp
theorem cmpG_mem {l : List Sg} {q : Sg} : q ∈ cmpG l ↔ q ∈ l := by
  have key : ∀ (l acc : List Sg), q ∈ l.foldl snocG acc ↔ q ∈ acc ∨ q ∈ l := by
    intro l
    induction l with
    | nil => intro acc; simp
    | cons p l ih => intro acc; rw [List.foldl_cons, ih, snocG_mem]; simp [or_assoc]
  unfold cmpG
  rw [key]; simp
theorem srtG_mem {l : List Sg} {q : Sg} : q ∈ srtG l ↔ q ∈ l := by unfold srtG; exact List.mem_mergeSort
theorem ch_mem {cs : List (List Pt2)} {C : List Pt2} : C ∈ cs ↔ ∃ i, i < cs.length ∧ chAt cs i = C := by
  constructor
  · intro h
    obtain ⟨i, hi, e⟩ := List.getElem_of_mem h
    exact ⟨i, hi, by simp [chAt, List.getD, hi, e]⟩
  · rintro ⟨i, hi, rfl⟩
    have e : chAt cs i = cs[i] := by simp [chAt, List.getD, hi]
    rw [e]; exact List.getElem_mem hi
theorem adj_iff {C : List Pt2} {p q : Pt2} : Adj C p q ↔ ∃ j, j + 1 < C.length ∧ pAt C j = p ∧ pAt C (j + 1) = q := by
  constructor
  · rintro ⟨u, v, rfl⟩
    refine ⟨u.length, by simp, ?_, ?_⟩
    · simp [pAt, List.getD]
    · simp [pAt, List.getD]
  · rintro ⟨j, hj, rfl, rfl⟩; exact adj_at hj
/-- The segments of chains. -/
theorem edg_mem {cs : List (List Pt2)} {s : Sg} : s ∈ edgL cs ↔ ∃ C ∈ cs, ∃ p q, Adj C p q ∧ s = ordE p q := by
  unfold edgL edgA edgC
  rw [cmpG_mem, srtG_mem, List.mem_flatMap]
  constructor
  · rintro ⟨i, hi, h⟩
    rw [List.mem_range] at hi
    obtain ⟨j, hj, rfl⟩ := List.mem_map.1 h
    rw [List.mem_range] at hj
    exact ⟨chAt cs i, ch_mem.2 ⟨i, hi, rfl⟩, _, _, adj_at (by omega), rfl⟩
  · rintro ⟨C, hC, p, q, h, rfl⟩
    obtain ⟨i, hi, rfl⟩ := ch_mem.1 hC
    obtain ⟨j, hj, rfl, rfl⟩ := adj_iff.1 h
    exact ⟨i, List.mem_range.2 hi, List.mem_map.2 ⟨j, List.mem_range.2 (by omega), rfl⟩⟩
theorem ordE_cases (p q : Pt2) : ordE p q = (p, q) ∨ ordE p q = (q, p) := by
  unfold ordE; split
  · exact .inr rfl
  · exact .inl rfl
/-- A state of the loop. -/
structure Inv (cs : List (List Pt2)) : Prop where
  ok : ∀ C ∈ cs, ∀ p ∈ C, okP p.1 p.2 = true
  two : ∀ C ∈ cs, 2 ≤ C.length
  adj : ∀ C ∈ cs, ∀ p q, Adj C p q → p ≠ q
theorem Inv.eok {cs : List (List Pt2)} (h : Inv cs) : ∀ s ∈ edgL cs, SgOk s := by
  intro s hs
  obtain ⟨C, hC, p, q, k, rfl⟩ := edg_mem.1 hs
  obtain ⟨mp, mq⟩ := adj_mem k
  have a1 := h.ok C hC p mp
  have a2 := h.ok C hC q mq
  have a3 := h.adj C hC p q k
  rcases ordE_cases p q with e | e <;> rw [e]
  · exact ⟨a1, a2, a3⟩
  · exact ⟨a2, a1, a3.symm⟩
theorem pairS_ok {s t : Sg} (hs : SgOk s) (ht : SgOk t) {p : Pt2} (h : p ∈ pairS s t) : okP p.1 p.2 = true := by
  unfold pairS at h
  split at h
  · rw [List.mem_singleton] at h; rw [h]; exact snapV_ok hs.1 hs.2.1 ht.1 ht.2.1
  · cases h
theorem hot_ok {l : List Sg} (h : ∀ s ∈ l, SgOk s) : HotOk (hotL l) := by
  refine ⟨fun p hp => ?_, by unfold hotL; exact srt_nodup (hullS_srt _)⟩
  obtain ⟨i, hi, k | k | ⟨j, hj, k⟩⟩ := hot_mem.1 hp
  · rw [k]; exact (h _ (sgAt_mem hi)).1
  · rw [k]; exact (h _ (sgAt_mem hi)).2.1
  · exact pairS_ok (h _ (sgAt_mem hi)) (h _ (sgAt_mem (by omega))) k
theorem mem_adj {C : List Pt2} (h2 : 2 ≤ C.length) {p : Pt2} (hp : p ∈ C) : ∃ a b, Adj C a b ∧ (p = a ∨ p = b) := by
  obtain ⟨i, hi, rfl⟩ := mem_pAt hp
  rcases Nat.lt_or_ge (i + 1) C.length with h | h
  · exact ⟨_, _, adj_at h, .inl rfl⟩
  · obtain ⟨j, rfl⟩ : ∃ j, i = j + 1 := ⟨i - 1, by omega⟩
    exact ⟨_, _, adj_at hi, .inr rfl⟩
theorem Inv.chain {cs : List (List Pt2)} (h : Inv cs) {C : List Pt2} (hC : C ∈ cs) : ChainOk (hotL (edgL cs)) C := by
  refine ⟨fun e => by have := h.two C hC; rw [e] at this; simp at this, fun p hp => ?_, h.adj C hC⟩
  obtain ⟨a, b, k, e⟩ := mem_adj (h.two C hC) hp
  have hm := hot_end (edg_mem.2 ⟨C, hC, a, b, k, rfl⟩)
  rcases ordE_cases a b with o | o <;> rw [o] at hm <;> rcases e with rfl | rfl
  · exact hm.1
  · exact hm.2
  · exact hm.2
  · exact hm.1
theorem Inv.step {cs : List (List Pt2)} (h : Inv cs) : Inv (stepC cs) := by
  have hH := hot_ok h.eok
  refine ⟨fun C' hC' => ?_, fun C' hC' => ?_, fun C' hC' => ?_⟩ <;> (obtain ⟨C, hC, rfl⟩ := List.mem_map.1 hC')
  · exact fun p hp => hH.ok p (next_mem hH (h.chain hC) p hp)
  · exact Nat.le_trans (h.two C hC) (next_len hH (h.chain hC))
  · exact (next_ok hH (h.chain hC)).adj
end Go.Proofs.Ytdnccjdlmepafaa
end
section
namespace Go.Proofs.Ytdnccjdlmepafaa
set_option linter.unusedSimpArgs false
set_option linter.unusedVariables false

/-- Each chain goes one way. -/
def Ways (cs : List (List Pt2)) : Prop := ∀ C ∈ cs, ∃ sx sy : Int, (sx = 1 ∨ sx = -1) ∧ (sy = 1 ∨ sy = -1) ∧ MonoC sx sy C
theorem Ways.step {cs : List (List Pt2)} (h : Inv cs) (k : Ways cs) : Ways (stepC cs) := by
  intro C' hC'
  obtain ⟨C, hC, rfl⟩ := List.mem_map.1 hC'
  obtain ⟨sx, sy, hx, hy, hm⟩ := k C hC
  exact ⟨sx, sy, hx, hy, mono_next (hot_ok h.eok) (h.chain hC) hx hy hm⟩
end Go.Proofs.Ytdnccjdlmepafaa
end
