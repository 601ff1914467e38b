/-
  The plain law of clip.Segment: its part is that of the reference, which tries all places between the crossings of the sides. Conditions: right points and box.
-/
import Derived.Test.YtcckekdfeeghaaaClipPc
import Derived.Test.YtcckekdfeeghaaaClipP
namespace Go.Proofs.Ytcckekdfeeghaaa
set_option linter.unusedSimpArgs false
set_option linter.unusedVariables false

/-- A cut of the text is among the reference's crossings. -/
theorem sideR_pos {d p : Int} (h : 0 < d) : sideR d p = (p, d) := by
  unfold sideR sgn; rw [if_pos h, if_neg (by omega)]; simp
theorem sideR_neg {d p : Int} (h : d < 0) : sideR d p = (-p, -d) := by
  unfold sideR sgn; rw [if_neg (by omega), if_pos h, if_pos (by omega)]; simp
theorem segRun_mem {ax ay dx dy lx ly hx hy : Int} {P Q : Rat2 → Prop} (hP : ∀ j, j < 4 → 0 < byV dx dy j → P (-(fromV ax ay lx ly hx hy j), byV dx dy j)) (hQ : ∀ j, j < 4 → byV dx dy j < 0 → Q (fromV ax ay lx ly hx hy j, -(byV dx dy j))) :
    ∀ (k i : Nat) (f l f' l' : CutT), i + k ≤ 4 → P (f.1, f.2.1) → Q (l.1, l.2.1) → segRun ax ay dx dy lx ly hx hy k i f l = some (f', l') → P (f'.1, f'.2.1) ∧ Q (l'.1, l'.2.1)
  | 0, i, f, l, f', l', _, hf, hl, h => by
    rw [segRun] at h
    injection h with h; injection h with h1 h2; subst h1 h2
    exact ⟨hf, hl⟩
  | k + 1, i, f, l, f', l', hi, hf, hl, h => by
    rw [segRun] at h
    cases hs : sideStep ax ay dx dy (atV lx ly hx hy i) (fromV ax ay lx ly hx hy i) (byV dx dy i) i f l with
    | none => rw [hs] at h; cases h
    | some p =>
      obtain ⟨f1, l1⟩ := p
      rw [hs] at h
      simp only [Option.bind_some] at h
      have key : P (f1.1, f1.2.1) ∧ Q (l1.1, l1.2.1) := by
        unfold sideStep at hs
        by_cases h0 : byV dx dy i = 0
        · rw [if_pos h0] at hs
          split at hs
          · cases hs
          · injection hs with hs; injection hs with h1 h2; subst h1 h2; exact ⟨hf, hl⟩
        · rw [if_neg h0] at hs
          by_cases hp : 0 < byV dx dy i
          · rw [if_pos hp] at hs
            injection hs with hs; injection hs with h1 h2; subst h1 h2
            refine ⟨?_, hl⟩
            split
            · have := hP i (by omega) hp
              unfold kCut; split <;> exact this
            · exact hf
          · rw [if_neg hp] at hs
            injection hs with hs; injection hs with h1 h2; subst h1 h2
            refine ⟨hf, ?_⟩
            split
            · have := hQ i (by omega) (by omega)
              unfold kCut; split <;> exact this
            · exact hl
      exact segRun_mem hP hQ k (i + 1) f1 l1 f' l' (by omega) key.1 key.2 h
theorem segRun_no {ax ay dx dy lx ly hx hy : Int} : ∀ (k i : Nat) (f l : CutT), segRun ax ay dx dy lx ly hx hy k i f l = none → ∃ j, i ≤ j ∧ j < i + k ∧ byV dx dy j = 0 ∧ fromV ax ay lx ly hx hy j < 0
  | 0, i, f, l, h => by rw [segRun] at h; cases h
  | k + 1, i, f, l, h => by
    rw [segRun] at h
    cases hs : sideStep ax ay dx dy (atV lx ly hx hy i) (fromV ax ay lx ly hx hy i) (byV dx dy i) i f l with
    | none =>
      unfold sideStep at hs
      by_cases h0 : byV dx dy i = 0
      · rw [if_pos h0] at hs
        split at hs
        · exact ⟨i, Nat.le_refl _, by omega, h0, by assumption⟩
        · cases hs
      · rw [if_neg h0] at hs
        split at hs <;> cases hs
    | some p =>
      rw [hs] at h
      simp only [Option.bind_some] at h
      obtain ⟨j, h1, h2, h3⟩ := segRun_no k (i + 1) p.1 p.2 h
      exact ⟨j, by omega, by omega, h3⟩

/-- What the sides ask of a place. -/
def okSides (ax ay dx dy lx ly hx hy : Int) (s : Rat2) : Prop := ∀ j, j < 4 → 0 ≤ fromV ax ay lx ly hx hy j * s.2 + s.1 * byV dx dy j
theorem within_sides {ax ay dx dy lx ly hx hy n d : Int} : (withinB ax dx n d lx hx && withinB ay dy n d ly hy) = true ↔ okSides ax ay dx dy lx ly hx hy (n, d) := by
  unfold withinB okSides
  simp only [Bool.and_eq_true, decide_eq_true_eq]
  constructor
  · rintro ⟨⟨a, b⟩, c, e⟩ j hj
    have hc : j = 0 ∨ j = 1 ∨ j = 2 ∨ j = 3 := by omega
    rcases hc with rfl | rfl | rfl | rfl <;> simp [fromV, byV] <;> grind
  · intro h
    have h0 := h 0 (by decide)
    have h1 := h 1 (by decide)
    have h2 := h 2 (by decide)
    have h3 := h 3 (by decide)
    simp [fromV, byV] at h0 h1 h2 h3
    refine ⟨⟨?_, ?_⟩, ?_, ?_⟩ <;> grind
theorem okSides_iff {ax ay dx dy lx ly hx hy : Int} {F L : CutT} (hs : sided ax ay dx dy lx ly hx hy 0 4 F L) (hF : 0 < F.2.1) (hL : 0 < L.2.1)
    (mF : (F.1 = 0 ∧ F.2.1 = 1) ∨ ∃ j, j < 4 ∧ 0 < byV dx dy j ∧ F.1 = -(fromV ax ay lx ly hx hy j) ∧ F.2.1 = byV dx dy j)
    (mL : (L.1 = 1 ∧ L.2.1 = 1) ∨ ∃ j, j < 4 ∧ byV dx dy j < 0 ∧ L.1 = fromV ax ay lx ly hx hy j ∧ L.2.1 = -(byV dx dy j))
    {s : Rat2} (hp : 0 < s.2) (h0 : 0 ≤ s.1) (h1 : s.1 ≤ s.2) : okSides ax ay dx dy lx ly hx hy s ↔ leR (F.1, F.2.1) s ∧ leR s (L.1, L.2.1) := by
  obtain ⟨n, d⟩ := s
  dsimp only at hp h0 h1
  unfold okSides leR
  dsimp only
  constructor
  · intro h
    constructor
    · rcases mF with ⟨e1, e2⟩ | ⟨j, hj, hb, e1, e2⟩
      · rw [e1, e2]; omega
      · have := h j hj
        rw [e1, e2]; grind
    · rcases mL with ⟨e1, e2⟩ | ⟨j, hj, hb, e1, e2⟩
      · rw [e1, e2]; omega
      · have := h j hj
        rw [e1, e2]; grind
  · rintro ⟨hf, hl⟩ j hj
    obtain ⟨s1, s2, s3⟩ := hs j (Nat.zero_le _) (by omega)
    rcases Int.lt_trichotomy (byV dx dy j) 0 with g | g | g
    · have := le_trans_q (n1 := n) (d1 := d) (d3 := -(byV dx dy j)) (n3 := fromV ax ay lx ly hx hy j) (by omega) hL (by omega) hl (s2 g)
      grind
    · rw [g]
      have := Int.mul_nonneg (s3 g) (Int.le_of_lt hp)
      omega
    · have := le_trans_q (n1 := -(fromV ax ay lx ly hx hy j)) (d1 := byV dx dy j) (n3 := n) (d3 := d) (by omega) hF (by omega) (s1 g) hf
      grind
/-- The middle of two places. -/
def midR (s t : Rat2) : Rat2 := (s.1 * t.2 + t.1 * s.2, 2 * s.2 * t.2)
theorem mid_pos {s t : Rat2} (hs : 0 < s.2) (ht : 0 < t.2) : 0 < (midR s t).2 := by
  unfold midR; exact Int.mul_pos (by omega) ht
theorem mid_ge {s t u : Rat2} (hs : 0 < s.2) (ht : 0 < t.2) (hu : 0 < u.2) (h : leR u s) (k : leR s t) : leR u (midR s t) := by
  obtain ⟨a, b⟩ := s
  obtain ⟨c, d⟩ := t
  obtain ⟨e, g⟩ := u
  have k2 := leR_trans hu hs ht h k
  unfold leR midR at *
  dsimp only at *
  have p1 := Int.mul_le_mul_of_nonneg_right h (Int.le_of_lt ht)
  have p2 := Int.mul_le_mul_of_nonneg_right k2 (Int.le_of_lt hs)
  grind
theorem mid_le {s t u : Rat2} (hs : 0 < s.2) (ht : 0 < t.2) (hu : 0 < u.2) (h : leR t u) (k : leR s t) : leR (midR s t) u := by
  obtain ⟨a, b⟩ := s
  obtain ⟨c, d⟩ := t
  obtain ⟨e, g⟩ := u
  have k2 := leR_trans hs ht hu k h
  unfold leR midR at *
  dsimp only at *
  have p1 := Int.mul_le_mul_of_nonneg_right h (Int.le_of_lt hs)
  have p2 := Int.mul_le_mul_of_nonneg_right k2 (Int.le_of_lt ht)
  grind
/-- The middle of two different places lies between them. -/
theorem mid_gt {s t : Rat2} (hs : 0 < s.2) (ht : 0 < t.2) (k : s.1 * t.2 < t.1 * s.2) : ¬ leR (midR s t) s := by
  obtain ⟨a, b⟩ := s
  obtain ⟨c, d⟩ := t
  unfold leR midR at *
  dsimp only at *
  have := Int.mul_lt_mul_of_pos_right k hs
  grind
theorem mid_lt {s t : Rat2} (hs : 0 < s.2) (ht : 0 < t.2) (k : s.1 * t.2 < t.1 * s.2) : ¬ leR t (midR s t) := by
  obtain ⟨a, b⟩ := s
  obtain ⟨c, d⟩ := t
  unfold leR midR at *
  dsimp only at *
  have := Int.mul_lt_mul_of_pos_right k ht
  grind

/-- The reference's run over sorted places, where the middle of two tells whether they lie from F to L. -/
theorem run_found {ax ay dx dy lx ly hx hy : Int} {f : Nat → Rat2} {N : Nat} {F L : Rat2} (hF : 0 < F.2) (hL : 0 < L.2) (hpos : ∀ i, i < N → 0 < (f i).2) (hso : sortedTo f N)
    (hC : ∀ i, i + 1 < N → ((rangeB (f i) (f (i + 1)) = true ∧ midB ax ay dx dy lx ly hx hy (f i) (f (i + 1)) = true) ↔ (leR F (f i) ∧ ltR (f i) (f (i + 1)) = true ∧ leR (f (i + 1)) L)))
    {p q : Nat} (hp : p < N) (hq : q < N) (ep : f p = F) (eq : f q = L) (hlt : ltR F L = true) :
    ∀ (k i : Nat) (st : PSt), i + k + 1 = N → (st.2.2 = false → ∀ j, j < i → ¬ (leR F (f j) ∧ ltR (f j) (f (j + 1)) = true ∧ leR (f (j + 1)) L)) →
      (st.2.2 = true → leR st.1 F ∧ leR F st.1 ∧ 0 < st.1.2 ∧ leR st.2.1 L ∧ 0 < st.2.1.2 ∧ ∀ j, j < i → (leR F (f j) ∧ ltR (f j) (f (j + 1)) = true ∧ leR (f (j + 1)) L) → leR (f (j + 1)) st.2.1) →
      (partRun ax ay dx dy lx ly hx hy f k i st).2.2 = true ∧
      (leR (partRun ax ay dx dy lx ly hx hy f k i st).1 F ∧ leR F (partRun ax ay dx dy lx ly hx hy f k i st).1 ∧ 0 < (partRun ax ay dx dy lx ly hx hy f k i st).1.2) ∧
      (leR (partRun ax ay dx dy lx ly hx hy f k i st).2.1 L ∧ leR L (partRun ax ay dx dy lx ly hx hy f k i st).2.1 ∧ 0 < (partRun ax ay dx dy lx ly hx hy f k i st).2.1.2) := by
  have tot : ∀ a b : Rat2, ltR a b = false → leR b a := fun a b h => by
    have : ¬ (a.1 * b.2 < b.1 * a.2) := fun k => by rw [ltR_iff.2 k] at h; cases h
    unfold leR; omega
  have asy : ∀ a b : Rat2, ltR a b = true → ¬ leR b a := fun a b h k => by
    have := ltR_iff.1 h; unfold leR at k; omega
  -- the last place at F
  have lastF : ∀ m, p + m < N → (∃ j, j + 1 < N ∧ j ≥ p ∧ leR (f j) F ∧ ltR (f j) (f (j + 1)) = true ∧ j < p + m) ∨ leR (f (p + m)) F := by
    intro m
    induction m with
    | zero => intro _; right; rw [Nat.add_zero, ep]; exact Int.le_refl _
    | succ m ih =>
      intro hm
      rcases ih (by omega) with ⟨j, h1, h2, h3, h4, h5⟩ | h
      · exact .inl ⟨j, h1, h2, h3, h4, by omega⟩
      · cases hc : ltR (f (p + m)) (f (p + m + 1)) with
        | true => exact .inl ⟨p + m, hm, by omega, h, hc, by omega⟩
        | false => exact .inr (leR_trans (hpos _ hm) (hpos _ (by omega)) hF (tot _ _ hc) h)
  have lePQ : p < q := by
    rcases Nat.lt_or_ge p q with h | h
    · exact h
    · exfalso
      rcases Nat.lt_or_ge q p with g | g
      · exact asy _ _ hlt (by rw [← ep, ← eq]; exact hso q p g hp)
      · have : p = q := by omega
        rw [← ep, ← eq, this] at hlt
        exact asy _ _ hlt (Int.le_refl _)
  obtain ⟨a, ha1, ha2, ha3, ha4, ha5⟩ : ∃ j, j + 1 < N ∧ j ≥ p ∧ leR (f j) F ∧ ltR (f j) (f (j + 1)) = true ∧ j < q := by
    rcases lastF (q - p) (by omega) with ⟨j, h1, h2, h3, h4, h5⟩ | h
    · exact ⟨j, h1, h2, h3, h4, by omega⟩
    · exfalso
      rw [show p + (q - p) = q by omega, eq] at h
      exact asy _ _ hlt h
  have lastL : ∀ m, m ≤ q → (∃ j, j < q ∧ q - m ≤ j ∧ leR L (f (j + 1)) ∧ ltR (f j) (f (j + 1)) = true) ∨ leR L (f (q - m)) := by
    intro m
    induction m with
    | zero => intro _; right; rw [Nat.sub_zero, eq]; exact Int.le_refl _
    | succ m ih =>
      intro hm
      rcases ih (by omega) with ⟨j, h1, h2, h3, h4⟩ | h
      · exact .inl ⟨j, h1, by omega, h3, h4⟩
      · have e : q - (m + 1) + 1 = q - m := by omega
        cases hc : ltR (f (q - (m + 1))) (f (q - m)) with
        | true => exact .inl ⟨q - (m + 1), by omega, by omega, by rw [e]; exact h, by rw [e]; exact hc⟩
        | false => exact .inr (leR_trans hL (hpos _ (by omega)) (hpos _ (by omega)) h (tot _ _ hc))
  obtain ⟨b, hb1, hb2, hb3, hb4⟩ : ∃ j, j < q ∧ p ≤ j ∧ leR L (f (j + 1)) ∧ ltR (f j) (f (j + 1)) = true := by
    rcases lastL (q - p) (by omega) with ⟨j, h1, h2, h3, h4⟩ | h
    · exact ⟨j, h1, by omega, h3, h4⟩
    · exfalso
      rw [show q - (q - p) = p by omega, ep] at h
      exact asy _ _ hlt h
  have leF : ∀ j, p ≤ j → j < N → leR F (f j) := fun j h1 h2 => by
    rcases Nat.lt_or_ge p j with g | g
    · rw [← ep]; exact hso p j g h2
    · have : j = p := by omega
      rw [this, ep]; exact Int.le_refl _
  have leL : ∀ j, j ≤ q → leR (f j) L := fun j h1 => by
    rcases Nat.lt_or_ge j q with g | g
    · rw [← eq]; exact hso j q g hq
    · have : j = q := by omega
      rw [this, eq]; exact Int.le_refl _
  have cA : leR F (f a) ∧ ltR (f a) (f (a + 1)) = true ∧ leR (f (a + 1)) L := ⟨leF a ha2 (by omega), ha4, leL _ (by omega)⟩
  have cB : leR F (f b) ∧ ltR (f b) (f (b + 1)) = true ∧ leR (f (b + 1)) L := ⟨leF b hb2 (by omega), hb4, leL _ (by omega)⟩
  intro k
  induction k with
  | zero =>
    intro i st hi h1 h2
    rw [partRun]
    cases hf : st.2.2 with
    | false => exact absurd cA (h1 hf a (by omega))
    | true =>
      obtain ⟨g1, g2, g3, g4, g5, g6⟩ := h2 hf
      exact ⟨rfl, ⟨g1, g2, g3⟩, g4, leR_trans hL (hpos _ (by omega)) g5 hb3 (g6 b (by omega) cB), g5⟩
  | succ k ih =>
    intro i st hi h1 h2
    rw [partRun]
    refine ih (i + 1) _ (by omega) ?_ ?_
    · intro hf j hj
      unfold partStep at hf
      split at hf
      · cases hf
      · rename_i hn
        rcases Nat.lt_or_ge j i with g | g
        · exact h1 hf j g
        · have : j = i := by omega
          subst this
          rwa [hC j (by omega)] at hn
    · intro hf
      unfold partStep at hf ⊢
      split
      · rename_i hy
        rw [hC i (by omega)] at hy
        refine ⟨?_, ?_, ?_, hy.2.2, hpos _ (by omega), ?_⟩
        · dsimp only
          split
          · rename_i hs; exact (h2 hs).1
          · rename_i hs
            have hs : st.2.2 = false := by simpa using hs
            rcases Nat.lt_or_ge a i with g | g
            · exact absurd cA (h1 hs a g)
            · rcases Nat.lt_or_ge i a with g2 | g2
              · exact leR_trans (hpos _ (by omega)) (hpos _ (by omega)) hF (hso i a g2 (by omega)) ha3
              · rw [show i = a by omega]; exact ha3
        · dsimp only
          split
          · rename_i hs; exact (h2 hs).2.1
          · exact hy.1
        · dsimp only
          split
          · rename_i hs; exact (h2 hs).2.2.1
          · exact hpos _ (by omega)
        · intro j hj hcj
          dsimp only
          rcases Nat.lt_or_ge j i with g | g
          · rcases Nat.lt_or_ge (j + 1) (i + 1) with g2 | g2
            · exact hso _ _ g2 (by omega)
            · omega
          · rw [show j = i by omega]; exact Int.le_refl _
      · rename_i hn
        rw [if_neg hn] at hf
        obtain ⟨g1, g2, g3, g4, g5, g6⟩ := h2 hf
        refine ⟨g1, g2, g3, g4, g5, fun j hj hcj => ?_⟩
        rcases Nat.lt_or_ge j i with g | g
        · exact g6 j g hcj
        · have : j = i := by omega
          subst this
          rw [hC j (by omega)] at hn
          exact absurd hcj hn
theorem run_none {ax ay dx dy lx ly hx hy : Int} {f : Nat → Rat2} : ∀ (k i : Nat) (st : PSt), (∀ j, i ≤ j → j < i + k → ¬ (rangeB (f j) (f (j + 1)) = true ∧ midB ax ay dx dy lx ly hx hy (f j) (f (j + 1)) = true)) → partRun ax ay dx dy lx ly hx hy f k i st = st
  | 0, i, st, h => rfl
  | k + 1, i, st, h => by
    rw [partRun, partStep, if_neg (h i (Nat.le_refl _) (by omega))]
    exact run_none k (i + 1) st fun j h1 h2 => h j (by omega) (by omega)
theorem le_lt_q {n1 d1 n2 d2 n3 d3 : Int} (h1 : 0 < d1) (h2 : 0 < d2) (h3 : 0 < d3) (a : n1 * d2 ≤ n2 * d1) (b : n2 * d3 < n3 * d2) : n1 * d3 < n3 * d1 := by
  have a2 := Int.mul_le_mul_of_nonneg_right a (Int.le_of_lt h3)
  have b2 := Int.mul_lt_mul_of_pos_right b h1
  refine Int.lt_of_mul_lt_mul_right (a := d2) ?_ (Int.le_of_lt h2)
  grind
theorem rnd_same {n d n' d' : Int} (hd : 0 < d) (hd' : 0 < d') (h : n * d' = n' * d) : rnd n d = rnd n' d' := by
  have key : ∀ {n d n' d' : Int}, 0 < d → 0 < d' → n * d' = n' * d → rnd n d ≤ rnd n' d' := by
    intro n d n' d' hd hd' h
    have h1 : rnd n d * (2 * d) ≤ 2 * n + d := Int.ediv_mul_le _ (by omega)
    generalize rnd n d = q at h1
    unfold rnd
    rw [Int.le_ediv_iff_mul_le (by omega)]
    refine Int.le_of_mul_le_mul_right (a := d) ?_ hd
    have h2 := Int.mul_le_mul_of_nonneg_right h1 (Int.le_of_lt hd')
    grind
  exact Int.le_antisymm (key hd hd' h) (key hd' hd h.symm)
theorem cut_mem {ax ay cx cy lx ly hx hy : Int} {j : Nat} (hj : j < 4) : (0 < byV (cx - ax) (cy - ay) j → (-(fromV ax ay lx ly hx hy j), byV (cx - ax) (cy - ay) j) ∈ tsL ax ay cx cy lx ly hx hy 2 2) ∧
    (byV (cx - ax) (cy - ay) j < 0 → (fromV ax ay lx ly hx hy j, -(byV (cx - ax) (cy - ay) j)) ∈ tsL ax ay cx cy lx ly hx hy 2 2) := by
  have hc : j = 0 ∨ j = 1 ∨ j = 2 ∨ j = 3 := by omega
  unfold tsL
  rcases hc with rfl | rfl | rfl | rfl <;> simp only [byV, fromV, if_true, if_false, Nat.succ_ne_zero, reduceCtorEq] <;> refine ⟨fun h => ?_, fun h => ?_⟩
  · have hn : cx - ax ≠ 0 := by omega
    simp [sideL, if_neg hn, sideR_pos h]; omega
  · have hn : cx - ax ≠ 0 := by omega
    simp [sideL, if_neg hn, sideR_neg h]; omega
  · have hn : cx - ax ≠ 0 := by omega
    have h' : cx - ax < 0 := by simp at h; omega
    simp [sideL, if_neg hn, sideR_neg h']; omega
  · have hn : cx - ax ≠ 0 := by simp at h; omega
    have h' : 0 < cx - ax := by simp at h; omega
    simp [sideL, if_neg hn, sideR_pos h']; omega
  · have hn : cy - ay ≠ 0 := by simp at h; omega
    have h' : 0 < cy - ay := by simp at h; omega
    simp [sideL, if_neg hn, sideR_pos h']; omega
  · have hn : cy - ay ≠ 0 := by simp at h; omega
    have h' : cy - ay < 0 := by simp at h; omega
    simp [sideL, if_neg hn, sideR_neg h']; omega
  · have hn : cy - ay ≠ 0 := by simp at h; omega
    have h' : cy - ay < 0 := by simp at h; omega
    simp [sideL, if_neg hn, sideR_neg h']; omega
  · have hn : cy - ay ≠ 0 := by simp at h; omega
    have h' : 0 < cy - ay := by simp at h; omega
    simp [sideL, if_neg hn, sideR_pos h']; omega

theorem part_seg {ax ay cx cy lx ly hx hy : Int} {r : PSt} (h : PartV ax ay cx cy lx ly hx hy r) (hA : okP ax ay = true) (hB : okP cx cy = true) (hX : okB lx ly hx hy = true) : segVal (segV ax ay cx cy lx ly hx hy) = PartOfV ax ay cx cy r := by
  by_cases hac : ax = cx ∧ ay = cy
  · have e : (!(ax == cx && ay == cy) && okP ax ay && okP cx cy && okB lx ly hx hy) = false := by simp [hac.1, hac.2]
    rw [h.1 hac]
    unfold segV
    rw [e]
    rfl
  · obtain ⟨f, hso, hsame, hr⟩ := h.2 hac
    have e : (!(ax == cx && ay == cy) && okP ax ay && okP cx cy && okB lx ly hx hy) = true := by
      rw [hA, hB, hX]
      simp only [Bool.and_true, Bool.not_eq_true', Bool.and_eq_false_iff, beq_eq_false_iff_ne]
      by_cases g : ax = cx
      · exact .inr fun k => hac ⟨g, k⟩
      · exact .inl g
    unfold segV
    rw [if_pos e]
    have bA := okP_iff.1 hA
    have bB := okP_iff.1 hB
    have bX := okB_iff.1 hX
    have hgood := tsL_good (ax := ax) (ay := ay) (cx := cx) (cy := cy) (lx := lx) (ly := ly) (hx := hx) (hy := hy) (i := 2) (j := 2) (by omega) (by omega) (by omega) (by omega) (by omega) (by omega)
    have h2 := tsL_two ax ay cx cy lx ly hx hy 2 2
    have hmem : ∀ s ∈ tsL ax ay cx cy lx ly hx hy 2 2, ∃ i, i < (tsL ax ay cx cy lx ly hx hy 2 2).length ∧ f i = s := fun s hs => by
      obtain ⟨i, hi, rfl⟩ := List.mem_iff_getElem.1 hs
      obtain ⟨j, hj, e⟩ := hsame.1 i hi
      exact ⟨j, hj, by rw [← e]; simp [List.getD, hi]⟩
    have hcut := fun j (hj : j < 4) => cut_mem (ax := ax) (ay := ay) (cx := cx) (cy := cy) (lx := lx) (ly := ly) (hx := hx) (hy := hy) hj
    have h01 : ((0, 1) : Rat2) ∈ tsL ax ay cx cy lx ly hx hy 2 2 := by simp [tsL]
    have h11 : ((1, 1) : Rat2) ∈ tsL ax ay cx cy lx ly hx hy 2 2 := by simp [tsL]
    generalize tsL ax ay cx cy lx ly hx hy 2 2 = ts at *
    have hpos : ∀ i, i < ts.length → 0 < (f i).2 := fun i hi => by
      obtain ⟨j, hj, e⟩ := hsame.2 i hi
      rw [e]; exact (hgood j hj).2.1
    have asy : ∀ a b : Rat2, ltR a b = true → ¬ leR b a := fun a b h k => by
      have := ltR_iff.1 h; unfold leR at k; omega
    have none_case : (∀ j, 0 ≤ j → j < 0 + (ts.length - 1) → ¬ (rangeB (f j) (f (j + 1)) = true ∧ midB ax ay (cx - ax) (cy - ay) lx ly hx hy (f j) (f (j + 1)) = true)) → segVal none = PartOfV ax ay cx cy r := fun k => by
      rw [hr, run_none (ts.length - 1) 0 _ k]; rfl
    cases hs : segRun ax ay (cx - ax) (cy - ay) lx ly hx hy 4 0 (0, 1, ax, ay) (1, 1, cx, cy) with
    | none =>
      refine none_case fun i _ hi hm => ?_
      obtain ⟨j, -, hj, hb, hf⟩ := segRun_no _ _ _ _ hs
      have hk := within_sides.1 hm.2 j (by omega)
      rw [hb] at hk
      have hp := mid_pos (hpos i (by omega)) (hpos (i + 1) (by omega))
      unfold midR at hp
      dsimp only at hk hp
      have := Int.mul_neg_of_neg_of_pos hf hp
      omega
    | some FL =>
      obtain ⟨F, L⟩ := FL
      have e0 : onC ax ay (cx - ax) (cy - ay) (0, 1, ax, ay) := ⟨Int.zero_lt_one, by simp [ptC, rnd]⟩
      have e1 : onC ax ay (cx - ax) (cy - ay) (1, 1, cx, cy) := ⟨Int.zero_lt_one, by
        simp only [ptC]
        rw [show (1 : Int) * (cx - ax) = (cx - ax) * 1 by omega, show (1 : Int) * (cy - ay) = (cy - ay) * 1 by omega, rnd_mul _ _ (by decide), rnd_mul _ _ (by decide)]
        simp; omega⟩
      obtain ⟨oF, oL, lF, lL, hsd⟩ := segRun_law 4 0 _ _ _ _ (by decide) e0 e1 hs
      obtain ⟨mF, mL⟩ := segRun_mem (P := fun s => (s.1 = 0 ∧ s.2 = 1) ∨ ∃ j, j < 4 ∧ 0 < byV (cx - ax) (cy - ay) j ∧ s.1 = -(fromV ax ay lx ly hx hy j) ∧ s.2 = byV (cx - ax) (cy - ay) j)
        (Q := fun s => (s.1 = 1 ∧ s.2 = 1) ∨ ∃ j, j < 4 ∧ byV (cx - ax) (cy - ay) j < 0 ∧ s.1 = fromV ax ay lx ly hx hy j ∧ s.2 = -(byV (cx - ax) (cy - ay) j))
        (fun j hj hb => .inr ⟨j, hj, hb, rfl, rfl⟩) (fun j hj hb => .inr ⟨j, hj, hb, rfl, rfl⟩) 4 0 _ _ _ _ (by decide) (.inl ⟨rfl, rfl⟩) (.inl ⟨rfl, rfl⟩) hs
      dsimp only at mF mL
      have hF := oF.1
      have hL := oL.1
      have F0 : 0 ≤ F.1 := by unfold leC at lF; simp at lF; omega
      have L1 : L.1 ≤ L.2.1 := by unfold leC at lL; simp at lL; omega
      obtain ⟨p, hp, ep⟩ : ∃ i, i < ts.length ∧ f i = (F.1, F.2.1) := by
        apply hmem
        rcases mF with ⟨a, b⟩ | ⟨j, hj, hb, a, b⟩
        · rw [a, b]; exact h01
        · rw [a, b]; exact (hcut j hj).1 hb
      obtain ⟨q, hq, eq⟩ : ∃ i, i < ts.length ∧ f i = (L.1, L.2.1) := by
        apply hmem
        rcases mL with ⟨a, b⟩ | ⟨j, hj, hb, a, b⟩
        · rw [a, b]; exact h11
        · rw [a, b]; exact (hcut j hj).2 hb
      have hC : ∀ i, i + 1 < ts.length → ((rangeB (f i) (f (i + 1)) = true ∧ midB ax ay (cx - ax) (cy - ay) lx ly hx hy (f i) (f (i + 1)) = true) ↔ (leR (F.1, F.2.1) (f i) ∧ ltR (f i) (f (i + 1)) = true ∧ leR (f (i + 1)) (L.1, L.2.1))) := by
        intro i hi
        have p1 := hpos i (by omega)
        have p2 := hpos (i + 1) hi
        have hle := hso i (i + 1) (by omega) hi
        have hmp := mid_pos p1 p2
        have below : ∀ j, j < ts.length → leR (f j) (midR (f i) (f (i + 1))) → ltR (f i) (f (i + 1)) = true → leR (f j) (f i) := fun j hj hm hlt => by
          rcases Nat.lt_or_ge i j with g | g
          · exfalso
            refine mid_lt p1 p2 (ltR_iff.1 hlt) ?_
            rcases Nat.lt_or_ge (i + 1) j with g2 | g2
            · exact leR_trans p2 (hpos j hj) hmp (hso _ _ g2 hj) hm
            · have : j = i + 1 := by omega
              subst this; exact hm
          · rcases Nat.lt_or_ge j i with g2 | g2
            · exact hso _ _ g2 (by omega)
            · rw [show j = i by omega]; exact Int.le_refl _
        have above : ∀ j, j < ts.length → leR (midR (f i) (f (i + 1))) (f j) → ltR (f i) (f (i + 1)) = true → leR (f (i + 1)) (f j) := fun j hj hm hlt => by
          rcases Nat.lt_or_ge j (i + 1) with g | g
          · exfalso
            refine mid_gt p1 p2 (ltR_iff.1 hlt) ?_
            rcases Nat.lt_or_ge j i with g2 | g2
            · exact leR_trans hmp (hpos j hj) p1 hm (hso _ _ g2 (by omega))
            · have : j = i := by omega
              subst this; exact hm
          · rcases Nat.lt_or_ge (i + 1) j with g2 | g2
            · exact hso _ _ g2 hj
            · rw [show j = i + 1 by omega]; exact Int.le_refl _
        constructor
        · rintro ⟨hr, hm⟩
          unfold rangeB at hr
          rw [Bool.and_eq_true, Bool.and_eq_true, decide_eq_true_eq, decide_eq_true_eq] at hr
          obtain ⟨⟨hlt, g0⟩, g1⟩ := hr
          have m0 : leR (0, 1) (midR (f i) (f (i + 1))) := mid_ge p1 p2 Int.zero_lt_one (by unfold leR; simp; exact g0) hle
          have m1 : leR (midR (f i) (f (i + 1))) (1, 1) := mid_le p1 p2 Int.zero_lt_one (by unfold leR; simp; exact g1) hle
          unfold leR at m0 m1
          simp only [Int.zero_mul, Int.mul_one, Int.one_mul] at m0 m1
          have hk := (okSides_iff hsd hF hL mF mL hmp m0 m1).1 (within_sides.1 hm)
          exact ⟨ep ▸ below p hp (ep ▸ hk.1) hlt, hlt, eq ▸ above q hq (eq ▸ hk.2) hlt⟩
        · rintro ⟨k1, hlt, k2⟩
          have g0 : 0 ≤ (f i).1 := by
            unfold leR at k1
            dsimp only at k1
            have := Int.mul_nonneg F0 (Int.le_of_lt p1)
            rcases Int.lt_or_le (f i).1 0 with g | g
            · have := Int.mul_neg_of_neg_of_pos g hF; omega
            · exact g
          have g1 : (f (i + 1)).1 ≤ (f (i + 1)).2 := by
            unfold leR at k2
            dsimp only at k2
            have a1 := Int.mul_le_mul_of_nonneg_right L1 (Int.le_of_lt p2)
            refine Int.le_of_mul_le_mul_right (a := L.2.1) ?_ hL
            rw [Int.mul_comm L.2.1] at a1
            omega
          have m0 : leR (0, 1) (midR (f i) (f (i + 1))) := mid_ge p1 p2 Int.zero_lt_one (by unfold leR; simp; exact g0) hle
          have m1 : leR (midR (f i) (f (i + 1))) (1, 1) := mid_le p1 p2 Int.zero_lt_one (by unfold leR; simp; exact g1) hle
          unfold leR at m0 m1
          simp only [Int.zero_mul, Int.mul_one, Int.one_mul] at m0 m1
          refine ⟨?_, within_sides.2 ((okSides_iff hsd hF hL mF mL hmp m0 m1).2 ⟨mid_ge p1 p2 hF k1 hle, mid_le p1 p2 hL k2 hle⟩)⟩
          unfold rangeB
          rw [hlt, Bool.and_eq_true, Bool.and_eq_true, decide_eq_true_eq, decide_eq_true_eq]
          exact ⟨⟨rfl, g0⟩, g1⟩
      simp only [Option.bind_some]
      cases hlt : ltC F L with
      | false =>
        simp only [Bool.false_eq_true, if_false]
        refine none_case fun i _ hi hm => ?_
        have k := (hC i (by omega)).1 hm
        have p1 := hpos i (by omega)
        have p2 := hpos (i + 1) (by omega)
        have := lt_le_q hF p2 hL (le_lt_q hF p1 p2 k.1 (ltR_iff.1 k.2.1)) k.2.2
        have h3 : ltC F L = true := ltC_iff.2 this
        rw [hlt] at h3; cases h3
      | true =>
        simp only [if_true]
        obtain ⟨r1, ⟨r2, r3, r4⟩, r5, r6, r7⟩ := run_found (F := (F.1, F.2.1)) (L := (L.1, L.2.1)) hF hL hpos hso hC hp hq ep eq (by rw [ltR_iff]; exact ltC_iff.1 hlt) (ts.length - 1) 0 ((0, 0), (0, 0), false) (by omega) (fun _ j hj => by omega) (fun h => by cases h)
        rw [← hr] at r1 r2 r3 r4 r5 r6 r7
        unfold leR at r2 r3 r5 r6
        dsimp only at r2 r3 r5 r6
        have q1 : F.1 * r.1.2 = r.1.1 * F.2.1 := Int.le_antisymm r3 r2
        have q2 : L.1 * r.2.1.2 = r.2.1.1 * L.2.1 := Int.le_antisymm r6 r5
        have c1 : F.2.2.1 = (atP ax ay cx cy r.1).1 ∧ F.2.2.2 = (atP ax ay cx cy r.1).2 := by
          rw [oF.2]
          unfold ptC atP
          dsimp only
          rw [rnd_same hF r4 (n' := (cx - ax) * r.1.1) (by grind), rnd_same hF r4 (n' := (cy - ay) * r.1.1) (by grind)]
          exact ⟨rfl, rfl⟩
        have c2 : L.2.2.1 = (atP ax ay cx cy r.2.1).1 ∧ L.2.2.2 = (atP ax ay cx cy r.2.1).2 := by
          rw [oL.2]
          unfold ptC atP
          dsimp only
          rw [rnd_same hL r7 (n' := (cx - ax) * r.2.1.1) (by grind), rnd_same hL r7 (n' := (cy - ay) * r.2.1.1) (by grind)]
          exact ⟨rfl, rfl⟩
        have c3 : (F.1 == 0) = (r.1.1 == 0) := by
          rw [Bool.eq_iff_iff, beq_iff_eq, beq_iff_eq]
          constructor
          · intro k
            rw [k, Int.zero_mul] at q1
            rcases Int.mul_eq_zero.1 q1.symm with g | g
            · exact g
            · omega
          · intro k
            rw [k, Int.zero_mul] at q1
            rcases Int.mul_eq_zero.1 q1 with g | g
            · exact g
            · omega
        have c4 : (L.1 == L.2.1) = (r.2.1.1 == r.2.1.2) := by
          rw [Bool.eq_iff_iff, beq_iff_eq, beq_iff_eq]
          constructor
          · intro k
            rw [k, Int.mul_comm] at q2
            exact (Int.eq_of_mul_eq_mul_right (by omega) q2).symm
          · intro k
            rw [k, Int.mul_comm r.2.1.2] at q2
            exact Int.eq_of_mul_eq_mul_right (by omega) q2
        unfold segVal PartOfV ptT
        rw [r1]
        dsimp only
        rw [c1.1, c1.2, c2.1, c2.2, c3, c4]
        simp
end Go.Proofs.Ytcckekdfeeghaaa
