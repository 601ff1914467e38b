/-
  Plain laws of clip.Line: a line within the box is its only part; all parts are lines in the box; points strictly inside of the box are kept. Lines of terrmake, boxes of points. Conditions: none.
-/
import Derived.Test.YtcckekdfeeghaaaClipL
import Derived.Test.YtcckekdfeeghaaaClipP
import Derived.Test.YtcckekdfeeghaaaClipN
namespace Go.Proofs.Ytcckekdfeeghaaa
set_option linter.unusedSimpArgs false
set_option linter.unusedVariables false

theorem lineB_iff {l : List Pt2} : lineB l = true ↔ (∀ i, i < l.length → okP (pAt l i).1 (pAt l i).2 = true) ∧ (∀ i, 0 < i → i < l.length → pAt l i ≠ pAt l (i - 1)) ∧ 2 ≤ l.length ∧ l.length ≤ 200 := by
  unfold lineB
  simp only [Bool.and_eq_true, decide_eq_true_eq, List.all_eq_true, List.mem_range]
  constructor
  · rintro ⟨⟨h, h2⟩, h3⟩
    refine ⟨fun i hi => ?_, fun i h0 hi e => ?_, h2, h3⟩
    · have := h i hi
      unfold goodAt at this
      rw [Bool.and_eq_true] at this
      exact this.1
    · have := h i hi
      unfold goodAt at this
      rw [Bool.and_eq_true, e] at this
      simp [h0] at this
  · rintro ⟨h1, h2, h3, h4⟩
    refine ⟨⟨fun i hi => ?_, h3⟩, h4⟩
    unfold goodAt
    rw [Bool.and_eq_true]
    refine ⟨h1 i hi, ?_⟩
    by_cases h0 : 0 < i
    · have hne := h2 i h0 hi
      cases hx : ((pAt l i).1 == (pAt l (i - 1)).1) <;> cases hy : ((pAt l i).2 == (pAt l (i - 1)).2)
      case true.true => exact absurd (Prod.ext (beq_iff_eq.1 hx) (beq_iff_eq.1 hy)) hne
      all_goals simp
    · simp [h0]

theorem hasV_iff {lx ly hx hy px py : Int} : hasV lx ly hx hy px py = true ↔ (lx ≤ px ∧ px ≤ hx) ∧ (ly ≤ py ∧ py ≤ hy) := by
  unfold hasV; simp only [Bool.and_eq_true, decide_eq_true_eq]; omega
theorem from_nn {lx ly hx hy px py : Int} (h : hasV lx ly hx hy px py = true) (i : Nat) : 0 ≤ fromV px py lx ly hx hy i := by
  rw [hasV_iff] at h
  unfold fromV; (repeat' split) <;> omega
/-- A segment within the box. -/
theorem segRun_in {ax ay cx cy lx ly hx hy : Int} (ha : hasV lx ly hx hy ax ay = true) (hc : hasV lx ly hx hy cx cy = true) : ∀ (k i : Nat), i + k ≤ 4 →
    segRun ax ay (cx - ax) (cy - ay) lx ly hx hy k i (0, 1, ax, ay) (1, 1, cx, cy) = some ((0, 1, ax, ay), (1, 1, cx, cy))
  | 0, _, _ => rfl
  | k + 1, i, hi => by
    have f0 := from_nn ha i
    have f1 := from_nn hc i
    have fe := fromV_end (ax := ax) (ay := ay) (cx := cx) (cy := cy) (lx := lx) (ly := ly) (hx := hx) (hy := hy) i
    rw [segRun]
    have : sideStep ax ay (cx - ax) (cy - ay) (atV lx ly hx hy i) (fromV ax ay lx ly hx hy i) (byV (cx - ax) (cy - ay) i) i (0, 1, ax, ay) (1, 1, cx, cy) = some ((0, 1, ax, ay), (1, 1, cx, cy)) := by
      rcases Int.lt_trichotomy (byV (cx - ax) (cy - ay) i) 0 with hn | h0 | hp
      · rw [step_neg hn, kCut_neg (by omega) hn, if_neg]
        rw [ltC_iff]; unfold ptC; dsimp only; omega
      · rw [step_zero h0, if_neg (by omega)]
      · rw [step_pos hp, kCut_pos (by omega) hp, if_neg]
        rw [ltC_iff]; unfold ptC; dsimp only; omega
    rw [this]
    exact segRun_in ha hc k (i + 1) (by omega)
theorem segV_in {ax ay cx cy lx ly hx hy : Int} (hne : (ax, ay) ≠ (cx, cy)) (h1 : okP ax ay = true) (h2 : okP cx cy = true) (hb : okB lx ly hx hy = true) (ha : hasV lx ly hx hy ax ay = true) (hc : hasV lx ly hx hy cx cy = true) :
    segV ax ay cx cy lx ly hx hy = some ((0, 1, ax, ay), (1, 1, cx, cy)) := by
  unfold segV
  have hg : (!(ax == cx && ay == cy) && okP ax ay && okP cx cy && okB lx ly hx hy) = true := by
    rw [h1, h2, hb]
    cases hx : (ax == cx) <;> cases hy : (ay == cy)
    case true.true => exact absurd (Prod.ext (beq_iff_eq.1 hx) (beq_iff_eq.1 hy)) hne
    all_goals rfl
  rw [if_pos hg, segRun_in ha hc 4 0 (by decide)]
  rfl

theorem lastP_snoc (l : List Pt2) (p : Pt2) : lastP (l ++ [p]) = p := by unfold lastP pAt; simp [List.getD]
theorem pAt_snoc_lt {l : List Pt2} {p : Pt2} {i : Nat} (h : i < l.length) : pAt (l ++ [p]) i = pAt l i := by unfold pAt; simp [List.getD, List.getElem?_append_left h]
theorem pAt_eq {l : List Pt2} {i : Nat} (h : i < l.length) : pAt l i = l[i] := by unfold pAt; simp [List.getD, h]
theorem pAt_mem {l : List Pt2} {i : Nat} (h : i < l.length) : pAt l i ∈ l := by rw [pAt_eq h]; exact List.getElem_mem h
theorem pAt_take {l : List Pt2} {i k : Nat} (h : i < k) : pAt (l.take k) i = pAt l i := by unfold pAt; simp [List.getD, h]

/-- A line within the box is its only part. -/
theorem runIn_ {m : List Pt2} {lx ly hx hy : Int} (hm : lineB m = true) (hb : okB lx ly hx hy = true) (hin : ∀ i, i < m.length → hasV lx ly hx hy (pAt m i).1 (pAt m i).2 = true) : ∀ (k i : Nat), 2 ≤ i → i + k = m.length →
    lineRun (segAt m lx ly hx hy) k i [] (m.take i) = ([], m)
  | 0, i, _, hi => by rw [lineRun, List.take_of_length_le (by omega)]
  | k + 1, i, h2, hi => by
    obtain ⟨h1, hd, -, -⟩ := lineB_iff.1 hm
    have hs : segAt m lx ly hx hy i = some ((0, 1, (pAt m (i - 1)).1, (pAt m (i - 1)).2), (1, 1, (pAt m i).1, (pAt m i).2)) :=
      segV_in (fun e => hd i (by omega) (by omega) e.symm) (h1 _ (by omega)) (h1 _ (by omega)) hb (hin _ (by omega)) (hin _ (by omega))
    have hl : (m.take i).length = i := by rw [List.length_take]; omega
    have hstep : lineStep [] (m.take i) (segAt m lx ly hx hy i) = ([], m.take (i + 1)) := by
      rw [hs]
      unfold lineStep lineS
      simp only [if_true]
      have e1 : addP (m.take i) (cutP (0, 1, (pAt m (i - 1)).1, (pAt m (i - 1)).2)) = m.take i := by unfold addP; rw [if_neg (by omega)]
      rw [e1]
      have e2 : lastP (m.take i) = pAt m (i - 1) := by unfold lastP; rw [hl, pAt_take (by omega)]
      have e3 : addQ (m.take i) (cutP (1, 1, (pAt m i).1, (pAt m i).2)) = m.take (i + 1) := by
        unfold addQ
        rw [if_neg (by rw [e2]; exact hd i (by omega) (by omega)), List.take_succ_eq_append_getElem (by omega), ← pAt_eq (by omega)]
        rfl
      rw [e3]
    rw [lineRun, hstep]
    exact runIn_ hm hb hin k (i + 1) (by omega) (by omega)
theorem clip_in {m : List Pt2} {lx ly hx hy : Int} (hm : lineB m = true) (hb : okB lx ly hx hy = true) (hin : ∀ i, i < m.length → hasV lx ly hx hy (pAt m i).1 (pAt m i).2 = true) : clipLine m lx ly hx hy = [m] := by
  obtain ⟨h1, hd, h2, h3⟩ := lineB_iff.1 hm
  have hs : segAt m lx ly hx hy 1 = some ((0, 1, (pAt m 0).1, (pAt m 0).2), (1, 1, (pAt m 1).1, (pAt m 1).2)) :=
    segV_in (fun e => hd 1 (by omega) (by omega) e.symm) (h1 _ (by omega)) (h1 _ (by omega)) hb (hin _ (by omega)) (hin _ (by omega))
  have hne := hd 1 (by omega) (by omega)
  have hstep : lineStep [] [] (segAt m lx ly hx hy 1) = ([], m.take 2) := by
    rw [hs]
    unfold lineStep lineS
    simp only [if_true]
    have e1 : addP [] (cutP (0, 1, (pAt m 0).1, (pAt m 0).2)) = [pAt m 0] := rfl
    rw [e1]
    have e3 : addQ [pAt m 0] (cutP (1, 1, (pAt m 1).1, (pAt m 1).2)) = m.take 2 := by
      unfold addQ
      rw [if_neg (show ¬ cutP (1, 1, (pAt m 1).1, (pAt m 1).2) = lastP [pAt m 0] from hne)]
      rw [List.take_succ_eq_append_getElem (by omega), List.take_succ_eq_append_getElem (by omega), ← pAt_eq, ← pAt_eq]
      rfl
    rw [e3]
  unfold clipLine
  rw [hm, hb]
  obtain ⟨k, hk⟩ : ∃ k, m.length - 1 = k + 1 := ⟨m.length - 2, by omega⟩
  rw [if_pos (show (true && true) = true from rfl), hk, lineRun, hstep, runIn_ hm hb hin k 2 (by omega) (by omega)]
  unfold Go.Proofs.Ytcckekdfeeghaaa.endO
  rw [if_pos (show 1 < m.length by omega)]; rfl

/-- A chain of points in the box. -/
def goodL (lx ly hx hy : Int) (l : List Pt2) : Prop := (∀ p ∈ l, hasV lx ly hx hy p.1 p.2 = true) ∧ ∀ i, 0 < i → i < l.length → pAt l i ≠ pAt l (i - 1)
theorem goodL_nil {lx ly hx hy : Int} : goodL lx ly hx hy [] := ⟨fun p hp => by simp at hp, fun i _ hi => by simp at hi⟩
theorem goodL_addP {lx ly hx hy : Int} {l : List Pt2} {p : Pt2} (h : goodL lx ly hx hy l) (hp : hasV lx ly hx hy p.1 p.2 = true) : goodL lx ly hx hy (addP l p) := by
  unfold addP
  split
  · next h0 =>
    obtain rfl : l = [] := List.length_eq_zero_iff.1 h0
    exact ⟨fun q hq => by simp at hq; subst hq; exact hp, fun i h0 hi => by simp at hi; omega⟩
  · exact h
theorem goodL_addQ {lx ly hx hy : Int} {l : List Pt2} {p : Pt2} (hl : 1 ≤ l.length) (h : goodL lx ly hx hy l) (hp : hasV lx ly hx hy p.1 p.2 = true) : goodL lx ly hx hy (addQ l p) := by
  unfold addQ
  split
  · exact h
  · next hne =>
    refine ⟨fun q hq => ?_, fun i h0 hi => ?_⟩
    · rcases List.mem_append.1 hq with hq | hq
      · exact h.1 q hq
      · simp at hq; subst hq; exact hp
    · simp at hi
      rcases Nat.lt_or_ge i l.length with hlt | hge
      · rw [pAt_snoc_lt hlt, pAt_snoc_lt (by omega)]
        exact h.2 i h0 hlt
      · obtain rfl : i = l.length := by omega
        have : pAt (l ++ [p]) l.length = p := by unfold pAt; simp [List.getD]
        rw [this, pAt_snoc_lt (i := l.length - 1) (by omega)]
        exact hne
theorem addP_len2 (l : List Pt2) (p : Pt2) : 1 ≤ (addP l p).length ∧ (l.length = 0 → (addP l p).length = 1) ∧ (l.length ≠ 0 → (addP l p).length = l.length) := by
  unfold addP
  split
  · next h => simp [h]
  · next h => exact ⟨by omega, fun k => absurd k h, fun _ => rfl⟩
theorem addQ_len2 (l : List Pt2) (p : Pt2) : l.length ≤ (addQ l p).length ∧ (addQ l p).length ≤ l.length + 1 := by
  unfold addQ
  split <;> simp

/-- What holds of what is out and what is at hand. -/
def Inv (lx ly hx hy : Int) (i : Nat) (o : List (List Pt2)) (n : List Pt2) : Prop :=
  (∀ part ∈ o, goodL lx ly hx hy part ∧ 2 ≤ part.length ∧ part.length ≤ i) ∧ goodL lx ly hx hy n ∧ n.length ≤ i
theorem Inv.endO {lx ly hx hy : Int} {i : Nat} {o : List (List Pt2)} {n : List Pt2} (h : Inv lx ly hx hy i o n) : Inv lx ly hx hy i (endO o n) [] := by
  refine ⟨fun part hp => ?_, goodL_nil, by simp⟩
  unfold Go.Proofs.Ytcckekdfeeghaaa.endO at hp
  split at hp
  · rcases List.mem_append.1 hp with hp | hp
    · exact h.1 part hp
    · simp at hp; subst hp; exact ⟨h.2.1, by omega, h.2.2⟩
  · exact h.1 part hp
theorem Inv.more {lx ly hx hy : Int} {i j : Nat} {o : List (List Pt2)} {n : List Pt2} (h : Inv lx ly hx hy i o n) (hij : i ≤ j) : Inv lx ly hx hy j o n :=
  ⟨fun part hp => by have := h.1 part hp; exact ⟨this.1, this.2.1, by omega⟩, h.2.1, by have := h.2.2; omega⟩
theorem Inv.step {lx ly hx hy : Int} {i : Nat} {o : List (List Pt2)} {n : List Pt2} (hi : 1 ≤ i) (h : Inv lx ly hx hy i o n) {s : SegT}
    (hs : ∀ p, s = some p → hasV lx ly hx hy p.1.2.2.1 p.1.2.2.2 = true ∧ hasV lx ly hx hy p.2.2.2.1 p.2.2.2.2 = true) : Inv lx ly hx hy (i + 1) (lineStep o n s).1 (lineStep o n s).2 := by
  cases s with
  | none => exact (h.endO).more (by omega)
  | some p =>
    obtain ⟨h1, h2⟩ := hs p rfl
    have hS : Inv lx ly hx hy i (lineS o n p.1).1 (lineS o n p.1).2 := by
      unfold lineS
      split
      · exact h
      · exact h.endO
    have hg1 := goodL_addP hS.2.1 (p := cutP p.1) h1
    have hl1 := addP_len2 (lineS o n p.1).2 (cutP p.1)
    have hg2 := goodL_addQ hl1.1 hg1 (p := cutP p.2) h2
    have hl2 := addQ_len2 (addP (lineS o n p.1).2 (cutP p.1)) (cutP p.2)
    have hln : (addQ (addP (lineS o n p.1).2 (cutP p.1)) (cutP p.2)).length ≤ i + 1 := by
      have := hS.2.2
      by_cases h0 : (lineS o n p.1).2.length = 0
      · have := hl1.2.1 h0; omega
      · have := hl1.2.2 h0; omega
    have hN : Inv lx ly hx hy (i + 1) (lineS o n p.1).1 (addQ (addP (lineS o n p.1).2 (cutP p.1)) (cutP p.2)) :=
      ⟨fun part hp => by have := hS.1 part hp; exact ⟨this.1, this.2.1, by omega⟩, hg2, hln⟩
    unfold lineStep
    dsimp only
    split
    · exact hN
    · exact hN.endO
theorem Inv.run {lx ly hx hy : Int} {seg : Nat → SegT} (hs : ∀ i p, seg i = some p → hasV lx ly hx hy p.1.2.2.1 p.1.2.2.2 = true ∧ hasV lx ly hx hy p.2.2.2.1 p.2.2.2.2 = true) : ∀ (k i : Nat) (o : List (List Pt2)) (n : List Pt2), 1 ≤ i → Inv lx ly hx hy i o n →
    Inv lx ly hx hy (i + k) (lineRun seg k i o n).1 (lineRun seg k i o n).2
  | 0, i, o, n, _, h => h
  | k + 1, i, o, n, hi, h => by
    rw [lineRun]
    have := Inv.run hs k (i + 1) _ _ (by omega) (h.step hi (hs i))
    rw [show i + (k + 1) = i + 1 + k by omega]
    exact this
theorem seg_has {l : List Pt2} {lx ly hx hy : Int} (i : Nat) (p : CutT × CutT) (h : segAt l lx ly hx hy i = some p) : hasV lx ly hx hy p.1.2.2.1 p.1.2.2.2 = true ∧ hasV lx ly hx hy p.2.2.2.1 p.2.2.2.2 = true := by
  obtain ⟨f, k⟩ := p
  have := segV_law h
  exact ⟨hasV_iff.2 this.inF, hasV_iff.2 this.inL⟩
/-- All parts are lines in the box. -/
theorem clip_good {l : List Pt2} {lx ly hx hy : Int} {part : List Pt2} (hp : part ∈ clipLine l lx ly hx hy) : okB lx ly hx hy = true ∧ lineB part = true ∧ ∀ p ∈ part, hasV lx ly hx hy p.1 p.2 = true := by
  unfold clipLine at hp
  split at hp
  case isFalse => simp at hp
  case isTrue hg =>
    rw [Bool.and_eq_true] at hg
    obtain ⟨-, -, h2, h3⟩ := lineB_iff.1 hg.1
    have hI := Inv.run (seg := segAt l lx ly hx hy) seg_has (l.length - 1) 1 [] [] (Nat.le_refl _) ⟨fun part hp => by simp at hp, goodL_nil, by simp⟩
    obtain ⟨hgd, hl2, hl3⟩ := hI.endO.1 part hp
    refine ⟨hg.2, lineB_iff.2 ⟨fun i hi => ?_, hgd.2, hl2, by omega⟩, hgd.1⟩
    have := hasV_iff.1 (hgd.1 _ (pAt_mem hi))
    have hb := okB_iff.1 hg.2
    exact okP_iff.2 (by omega)
theorem clip_again {l : List Pt2} {lx ly hx hy : Int} {part : List Pt2} (hp : part ∈ clipLine l lx ly hx hy) : clipLine part lx ly hx hy = [part] := by
  obtain ⟨hb, hl, hin⟩ := clip_good hp
  exact clip_in hl hb fun i hi => hin _ (pAt_mem hi)

/-! points strictly inside of the box are kept -/
def strictIn (lx ly hx hy px py : Int) : Prop := (lx < px ∧ px < hx) ∧ (ly < py ∧ py < hy)
theorem from_pos {lx ly hx hy px py : Int} (h : strictIn lx ly hx hy px py) (i : Nat) : 0 < fromV px py lx ly hx hy i := by
  unfold strictIn at h
  unfold fromV; (repeat' split) <;> omega
/-- The first cut is the start, or on a side. -/
def onSide (ax ay lx ly hx hy : Int) (f : CutT) : Prop := f = (0, 1, ax, ay) ∨ (0 < f.1 ∧ ((f.2.2.1 = lx ∨ f.2.2.1 = hx) ∨ (f.2.2.2 = ly ∨ f.2.2.2 = hy)))
theorem segRun_end {ax ay cx cy lx ly hx hy : Int} (hc : strictIn lx ly hx hy cx cy) : ∀ (k i : Nat) (f : CutT), i + k ≤ 4 → 0 ≤ f.1 → 0 < f.2.1 → f.1 < f.2.1 → onSide ax ay lx ly hx hy f →
    ∃ f', segRun ax ay (cx - ax) (cy - ay) lx ly hx hy k i f (1, 1, cx, cy) = some (f', (1, 1, cx, cy)) ∧ 0 ≤ f'.1 ∧ 0 < f'.2.1 ∧ f'.1 < f'.2.1 ∧ onSide ax ay lx ly hx hy f'
  | 0, i, f, _, h0, h1, h2, h3 => ⟨f, rfl, h0, h1, h2, h3⟩
  | k + 1, i, f, hi, h0, h1, h2, h3 => by
    have f1 := from_pos hc i
    have fe := fromV_end (ax := ax) (ay := ay) (cx := cx) (cy := cy) (lx := lx) (ly := ly) (hx := hx) (hy := hy) i
    rw [segRun]
    rcases Int.lt_trichotomy (byV (cx - ax) (cy - ay) i) 0 with hn | hz | hp
    · rw [step_neg hn, kCut_neg (by omega) hn, if_neg (by rw [ltC_iff]; unfold ptC; dsimp only; omega)]
      exact segRun_end hc k (i + 1) f (by omega) h0 h1 h2 h3
    · rw [step_zero hz, if_neg (by omega)]
      exact segRun_end hc k (i + 1) f (by omega) h0 h1 h2 h3
    · rw [step_pos hp]
      cases hl : ltC f (kCut ax ay (cx - ax) (cy - ay) (atV lx ly hx hy i) i (-(fromV ax ay lx ly hx hy i)) (byV (cx - ax) (cy - ay) i))
      · exact segRun_end hc k (i + 1) f (by omega) h0 h1 h2 h3
      · refine segRun_end hc k (i + 1) _ (by omega) ?_ ?_ ?_ ?_
        · simp only [if_true]; rw [kCut_pos (by omega) hp] at hl ⊢
          rw [ltC_iff] at hl
          unfold ptC at hl ⊢
          dsimp only at hl ⊢
          have : 0 ≤ f.1 * byV (cx - ax) (cy - ay) i := Int.mul_nonneg h0 (by omega)
          have hq : 0 < -fromV ax ay lx ly hx hy i * f.2.1 := by omega
          have := Int.pos_of_mul_pos_left hq (by omega)
          omega
        · simp only [if_true]; rw [kCut_pos (by omega) hp]; exact hp
        · simp only [if_true]; rw [kCut_pos (by omega) hp]; unfold ptC; dsimp only; omega
        · right
          constructor
          · simp only [if_true]; rw [kCut_pos (by omega) hp] at hl ⊢
            rw [ltC_iff] at hl
            unfold ptC at hl ⊢
            dsimp only at hl ⊢
            have : 0 ≤ f.1 * byV (cx - ax) (cy - ay) i := Int.mul_nonneg h0 (by omega)
            have hq : 0 < -fromV ax ay lx ly hx hy i * f.2.1 := by omega
            exact Int.pos_of_mul_pos_left hq (by omega)
          · simp only [if_true]
            have hc : i = 0 ∨ i = 1 ∨ i = 2 ∨ i = 3 := by omega
            rcases hc with rfl | rfl | rfl | rfl
            · left; left; simp [kCut, atV]
            · left; right; simp [kCut, atV]
            · right; left; simp [kCut, atV]
            · right; right; simp [kCut, atV]
theorem segV_end {ax ay cx cy lx ly hx hy : Int} (hne : (ax, ay) ≠ (cx, cy)) (h1 : okP ax ay = true) (h2 : okP cx cy = true) (hb : okB lx ly hx hy = true) (hc : strictIn lx ly hx hy cx cy) :
    ∃ f, segV ax ay cx cy lx ly hx hy = some (f, (1, 1, cx, cy)) ∧ cutP f ≠ (cx, cy) ∧ (f.1 = 0 → cutP f = (ax, ay)) := by
  obtain ⟨f, hf, g0, g1, g2, g3⟩ := segRun_end (ax := ax) (ay := ay) hc 4 0 (0, 1, ax, ay) (by decide) (Int.le_refl 0) Int.zero_lt_one Int.zero_lt_one (.inl rfl)
  refine ⟨f, ?_, ?_, ?_⟩
  · unfold segV
    have hg : (!(ax == cx && ay == cy) && okP ax ay && okP cx cy && okB lx ly hx hy) = true := by
      rw [h1, h2, hb]
      cases hx : (ax == cx) <;> cases hy : (ay == cy)
      case true.true => exact absurd (Prod.ext (beq_iff_eq.1 hx) (beq_iff_eq.1 hy)) hne
      all_goals rfl
    rw [if_pos hg, hf]
    simp only [Option.bind_some]
    rw [if_pos (by rw [ltC_iff]; dsimp only; omega)]
  · rcases g3 with rfl | ⟨-, h⟩
    · exact hne
    · intro e
      unfold cutP at e
      injection e with e1 e2
      unfold strictIn at hc
      omega
  · intro h0
    rcases g3 with rfl | ⟨h, -⟩
    · rfl
    · omega

/-- A point is out, or in a line at hand of two points at least. -/
def Kept (p : Pt2) (o : List (List Pt2)) (n : List Pt2) : Prop := p ∈ o.flatten ∨ (p ∈ n ∧ 2 ≤ n.length)
theorem Kept.endO {p : Pt2} {o : List (List Pt2)} {n : List Pt2} (h : Kept p o n) : p ∈ (endO o n).flatten := by
  unfold Go.Proofs.Ytcckekdfeeghaaa.endO
  rcases h with h | ⟨h, h2⟩
  · split
    · rw [List.flatten_append]; exact List.mem_append_left _ h
    · exact h
  · rw [if_pos (by omega), List.flatten_append]; exact List.mem_append_right _ (by simpa using h)
theorem addQ_mem {l : List Pt2} {p q : Pt2} (h : p ∈ l) : p ∈ addQ l q := by
  unfold addQ; split
  · exact h
  · exact List.mem_append_left _ h
theorem Kept.step {p : Pt2} {o : List (List Pt2)} {n : List Pt2} (h : Kept p o n) (s : SegT) : Kept p (lineStep o n s).1 (lineStep o n s).2 := by
  cases s with
  | none => exact .inl h.endO
  | some c =>
    have hS : Kept p (lineS o n c.1).1 (lineS o n c.1).2 := by
      unfold lineS
      split
      · exact h
      · exact .inl h.endO
    have hN : Kept p (lineS o n c.1).1 (addQ (addP (lineS o n c.1).2 (cutP c.1)) (cutP c.2)) := by
      rcases hS with h | ⟨h, h2⟩
      · exact .inl h
      · right
        have e : addP (lineS o n c.1).2 (cutP c.1) = (lineS o n c.1).2 := by unfold addP; rw [if_neg (by omega)]
        rw [e]
        exact ⟨addQ_mem h, by have := (addQ_len2 (lineS o n c.1).2 (cutP c.2)).1; omega⟩
    unfold lineStep
    dsimp only
    split
    · exact hN
    · exact .inl hN.endO
theorem Kept.run {p : Pt2} {seg : Nat → SegT} : ∀ (k i : Nat) (o : List (List Pt2)) (n : List Pt2), Kept p o n → Kept p (lineRun seg k i o n).1 (lineRun seg k i o n).2
  | 0, _, _, _, h => h
  | k + 1, i, o, n, h => by
    rw [lineRun]
    exact Kept.run k (i + 1) _ _ (h.step _)

/-- The line at hand ends where the last segment did. -/
def Last (l : List Pt2) (i : Nat) (n : List Pt2) : Prop := n ≠ [] → lastP n = pAt l (i - 1)
theorem addQ_last (l : List Pt2) (q : Pt2) (h : l ≠ []) : lastP (addQ l q) = q := by
  unfold addQ
  split
  · next e => exact e.symm
  · exact lastP_snoc l q
theorem addP_ne (l : List Pt2) (p : Pt2) : addP l p ≠ [] := fun e => by
  have := (addP_len2 l p).1
  rw [e] at this
  simp at this
theorem seg_last {l : List Pt2} {lx ly hx hy : Int} {i : Nat} {f k : CutT} (h : segAt l lx ly hx hy i = some (f, k)) (he : k.1 = k.2.1) : cutP k = pAt l i := by
  have := segV_law h
  have h2 := this.onL
  rw [h2.2]
  unfold cutP ptC
  rw [he]
  have hd := h2.1
  dsimp only
  rw [show k.2.1 * ((pAt l i).1 - (pAt l (i - 1)).1) = ((pAt l i).1 - (pAt l (i - 1)).1) * k.2.1 from Int.mul_comm _ _, show k.2.1 * ((pAt l i).2 - (pAt l (i - 1)).2) = ((pAt l i).2 - (pAt l (i - 1)).2) * k.2.1 from Int.mul_comm _ _, rnd_mul _ _ hd, rnd_mul _ _ hd]
  exact Prod.ext (by dsimp only; omega) (by dsimp only; omega)
theorem Last.step {l : List Pt2} {lx ly hx hy : Int} {i : Nat} {o : List (List Pt2)} {n : List Pt2} : Last l (i + 1) (lineStep o n (segAt l lx ly hx hy i)).2 := by
  cases hs : segAt l lx ly hx hy i with
  | none => exact fun h => absurd rfl h
  | some c =>
    obtain ⟨f, k⟩ := c
    unfold lineStep
    dsimp only
    split
    · next he =>
      intro _
      rw [addQ_last _ _ (addP_ne _ _), seg_last hs he]
      rfl
    · exact fun h => absurd rfl h

/-- A point of the line strictly inside of the box is kept. -/
theorem run_kept {l : List Pt2} {lx ly hx hy : Int} (hl : lineB l = true) (hb : okB lx ly hx hy = true) {m : Nat} (hm : m < l.length) (hin : strictIn lx ly hx hy (pAt l m).1 (pAt l m).2) :
    ∀ (k i : Nat) (o : List (List Pt2)) (n : List Pt2), 1 ≤ i → i + k = l.length → Last l i n → (m = 0 → i = 1 ∧ n = [] ∨ Kept (pAt l m) o n) → (0 < m → m < i → Kept (pAt l m) o n) → Kept (pAt l m) (lineRun (segAt l lx ly hx hy) k i o n).1 (lineRun (segAt l lx ly hx hy) k i o n).2
  | 0, i, o, n, hi, hk, hlast, h0, h1 => by
    rw [lineRun]
    obtain ⟨-, -, h2, -⟩ := lineB_iff.1 hl
    rcases Nat.eq_zero_or_pos m with hz | hp
    · rcases h0 hz with ⟨h, -⟩ | h
      · omega
      · exact h
    · exact h1 hp (by omega)
  | k + 1, i, o, n, hi, hk, hlast, h0, h1 => by
    obtain ⟨ok, hd, h2, -⟩ := lineB_iff.1 hl
    rw [lineRun]
    refine run_kept hl hb hm hin k (i + 1) _ _ (by omega) (by omega) Last.step (fun hz => .inr ?_) (fun hp hlt => ?_)
    · -- the first point
      subst hz
      rcases h0 rfl with ⟨rfl, rfl⟩ | h
      · obtain ⟨f, hf, hne, -⟩ := segV_end (ax := (pAt l 1).1) (ay := (pAt l 1).2) (cx := (pAt l 0).1) (cy := (pAt l 0).2) (hd 1 (by omega) (by omega)) (ok 1 (by omega)) (ok 0 (by omega)) hb hin
        have hs : segAt l lx ly hx hy 1 = some ((0, 1, (pAt l 0).1, (pAt l 0).2), flipC f) := by
          unfold segAt
          rw [segV_flip, hf]
          rfl
        rw [hs]
        have hq : cutP (flipC f) ≠ pAt l 0 := hne
        have hN : Kept (pAt l 0) o (addQ (addP [] (cutP (0, 1, (pAt l 0).1, (pAt l 0).2))) (cutP (flipC f))) := by
          have e1 : addP [] (cutP (0, 1, (pAt l 0).1, (pAt l 0).2)) = [pAt l 0] := rfl
          rw [e1]
          unfold addQ
          rw [if_neg (show ¬ cutP (flipC f) = lastP [pAt l 0] from hq)]
          exact .inr ⟨by simp, by simp⟩
        unfold lineStep lineS
        simp only [if_true]
        split
        · exact hN
        · exact .inl hN.endO
      · exact h.step _
    · rcases Nat.lt_or_ge m i with hmi | hmi
      · exact (h1 hp hmi).step _
      · obtain rfl : m = i := by omega
        obtain ⟨f, hf, hne, hf0⟩ := segV_end (ax := (pAt l (m - 1)).1) (ay := (pAt l (m - 1)).2) (cx := (pAt l m).1) (cy := (pAt l m).2) (fun e => hd m (by omega) (by omega) e.symm) (ok (m - 1) (by omega)) (ok m (by omega)) hb hin
        have hs : segAt l lx ly hx hy m = some (f, (1, 1, (pAt l m).1, (pAt l m).2)) := hf
        rw [hs]
        unfold lineStep
        simp only [if_true]
        right
        have hkey : addP (lineS o n f).2 (cutP f) ≠ [] ∧ lastP (addP (lineS o n f).2 (cutP f)) ≠ pAt l m := by
          refine ⟨addP_ne _ _, ?_⟩
          by_cases hz : (lineS o n f).2 = []
          · rw [hz]
            have e1 : addP [] (cutP f) = [cutP f] := rfl
            rw [e1]
            exact hne
          · have e1 : addP (lineS o n f).2 (cutP f) = (lineS o n f).2 := by
              unfold addP; rw [if_neg (fun e => hz (List.length_eq_zero_iff.1 e))]
            rw [e1]
            have hf1 : f.1 = 0 := by
              by_cases hf1 : f.1 = 0
              · exact hf1
              · exfalso; apply hz; unfold lineS; rw [if_neg hf1]
            have e2 : (lineS o n f).2 = n := by unfold lineS; rw [if_pos hf1]
            rw [e2] at hz ⊢
            rw [hlast hz]
            exact fun e => hd m (by omega) (by omega) e.symm
        have e3 : addQ (addP (lineS o n f).2 (cutP f)) (cutP (1, 1, (pAt l m).1, (pAt l m).2)) = addP (lineS o n f).2 (cutP f) ++ [pAt l m] := by
          unfold addQ
          rw [if_neg (show ¬ cutP (1, 1, (pAt l m).1, (pAt l m).2) = lastP (addP (lineS o n f).2 (cutP f)) from fun e => hkey.2 e.symm)]
          rfl
        rw [e3]
        refine ⟨by simp, ?_⟩
        have := (addP_len2 (lineS o n f).2 (cutP f)).1
        simp; omega
theorem clip_kept {l : List Pt2} {lx ly hx hy : Int} (hl : lineB l = true) (hb : okB lx ly hx hy = true) {m : Nat} (hm : m < l.length) (hin : strictIn lx ly hx hy (pAt l m).1 (pAt l m).2) : pAt l m ∈ (clipLine l lx ly hx hy).flatten := by
  unfold clipLine
  rw [hl, hb, if_pos (show (true && true) = true from rfl)]
  obtain ⟨-, -, h2, -⟩ := lineB_iff.1 hl
  exact (run_kept hl hb hm hin (l.length - 1) 1 [] [] (Nat.le_refl _) (by omega) (fun h => absurd rfl h) (fun _ => .inl ⟨rfl, rfl⟩) (fun _ h => by omega)).endO

theorem mline_go {lx ly hx hy : Int} (hb : lx ≤ -40 ∧ 41 ≤ hx ∧ ly ≤ -40 ∧ 40 ≤ hy) : ∀ (k : Nat) (l : List Int) (out : List Pt2), goodL lx ly hx hy out → 1 ≤ out.length → (∀ p ∈ out, p.1 ≤ 41) →
    goodL lx ly hx hy (mlineGo k l out) ∧ (mlineGo k l out).length = out.length + k
  | 0, _, out, h, _, _ => ⟨h, by simp [mlineGo]⟩
  | k + 1, l, out, h, h1, h41 => by
    rw [mlineGo]
    have hp := ptOf_bd l
    have hne : mNext out (ptOf l).1 ≠ lastP out := by
      unfold mNext
      split
      · next e => rw [← e]; intro k; have := congrArg Prod.fst k; dsimp only at this; omega
      · next e => exact e
    have hbd : (-40 ≤ (mNext out (ptOf l).1).1 ∧ (mNext out (ptOf l).1).1 ≤ 41) ∧ (-40 ≤ (mNext out (ptOf l).1).2 ∧ (mNext out (ptOf l).1).2 ≤ 40) := by
      unfold mNext; split <;> (try dsimp only) <;> omega
    have hin : hasV lx ly hx hy (mNext out (ptOf l).1).1 (mNext out (ptOf l).1).2 = true := hasV_iff.2 (by omega)
    have hg := goodL_addQ h1 h hin
    have e : addQ out (mNext out (ptOf l).1) = out ++ [mNext out (ptOf l).1] := by unfold addQ; rw [if_neg hne]
    rw [e] at hg
    obtain ⟨a, b⟩ := mline_go hb k (ptOf l).2 _ hg (by simp) (fun p hp => by
      rcases List.mem_append.1 hp with hp | hp
      · exact h41 p hp
      · simp at hp; subst hp; omega)
    exact ⟨a, by rw [b]; simp; omega⟩
theorem mline_good (l : List Int) : goodL (-40) (-40) 41 40 (mline l) ∧ 2 ≤ (mline l).length ∧ (mline l).length ≤ 8 := by
  have hp := ptOf_bd l
  have hlt : l.length % 7 < 7 := Nat.mod_lt _ (by decide)
  have h1 : goodL (-40) (-40) 41 40 [(ptOf l).1] := ⟨fun p h => by simp at h; subst h; exact hasV_iff.2 (by omega), fun i h0 hi => by simp at hi; omega⟩
  obtain ⟨a, b⟩ := mline_go (lx := -40) (ly := -40) (hx := 41) (hy := 40) (by omega) (1 + l.length % 7) (ptOf l).2 [(ptOf l).1] h1 (by simp) (fun p h => by simp at h; subst h; omega)
  unfold mline
  refine ⟨a, ?_, ?_⟩ <;> rw [b] <;> simp <;> omega
theorem mline_line (l : List Int) : lineB (mline l) = true := by
  obtain ⟨h1, h2, h3⟩ := mline_good l
  refine lineB_iff.2 ⟨fun i hi => ?_, h1.2, h2, by omega⟩
  have := hasV_iff.1 (h1.1 _ (pAt_mem hi))
  exact okP_iff.2 (by omega)
theorem mline_ok (l : List Int) (i : Nat) (hi : i < (mline l).length) : okP (pAt (mline l) i).1 (pAt (mline l) i).2 = true := (lineB_iff.1 (mline_line l)).1 i hi

theorem fold_box : ∀ (l : List Pt2) (b : BoxT), okB b.1 b.2.1 b.2.2.1 b.2.2.2 = true → (∀ p ∈ l, okP p.1 p.2 = true) →
    okB ((l.map clampP).foldl joinP b).1 ((l.map clampP).foldl joinP b).2.1 ((l.map clampP).foldl joinP b).2.2.1 ((l.map clampP).foldl joinP b).2.2.2 = true ∧
    (((l.map clampP).foldl joinP b).1 ≤ b.1 ∧ ((l.map clampP).foldl joinP b).2.1 ≤ b.2.1 ∧ b.2.2.1 ≤ ((l.map clampP).foldl joinP b).2.2.1 ∧ b.2.2.2 ≤ ((l.map clampP).foldl joinP b).2.2.2) ∧
    ∀ p ∈ l, hasV ((l.map clampP).foldl joinP b).1 ((l.map clampP).foldl joinP b).2.1 ((l.map clampP).foldl joinP b).2.2.1 ((l.map clampP).foldl joinP b).2.2.2 p.1 p.2 = true
  | [], b, hb, _ => ⟨hb, ⟨Int.le_refl _, Int.le_refl _, Int.le_refl _, Int.le_refl _⟩, fun p hp => by simp at hp⟩
  | q :: l, b, hb, hl => by
    have hq := hl q (by simp)
    have hc := clamp_id hq
    have hj : joinP b (clampP q) = (min b.1 q.1, min b.2.1 q.2, max b.2.2.1 q.1, max b.2.2.2 q.2) := by unfold joinP clampP; rw [hc.1, hc.2]
    rw [List.map_cons, List.foldl_cons]
    have hb' := okB_iff.1 hb
    have hq' := okP_iff.1 hq
    obtain ⟨h1, h2, h3⟩ := fold_box l (joinP b (clampP q)) (by rw [hj]; exact okB_iff.2 (by dsimp only; omega)) (fun p hp => hl p (by simp [hp]))
    rw [hj] at h1 h2 h3 ⊢
    dsimp only at h2
    refine ⟨h1, by omega, fun p hp => ?_⟩
    rcases List.mem_cons.1 hp with rfl | hp
    · exact hasV_iff.2 (by omega)
    · exact h3 p hp
theorem of_box {l : List Pt2} (hne : l ≠ []) (hl : ∀ p ∈ l, okP p.1 p.2 = true) : okB (ofV l).1 (ofV l).2.1 (ofV l).2.2.1 (ofV l).2.2.2 = true ∧ ∀ p ∈ l, hasV (ofV l).1 (ofV l).2.1 (ofV l).2.2.1 (ofV l).2.2.2 p.1 p.2 = true := by
  cases l with
  | nil => exact absurd rfl hne
  | cons p t =>
    have hp := hl p (by simp)
    have hc := clamp_id hp
    have hp' := okP_iff.1 hp
    obtain ⟨h1, h2, h3⟩ := fold_box t ((clampP p).1, (clampP p).2, (clampP p).1, (clampP p).2) (by unfold clampP; rw [hc.1, hc.2]; exact okB_iff.2 (by dsimp only; omega)) (fun q hq => hl q (by simp [hq]))
    refine ⟨h1, fun q hq => ?_⟩
    rcases List.mem_cons.1 hq with rfl | hq
    · obtain ⟨a, b, c, d⟩ := h2
      exact hasV_iff.2 ⟨⟨Int.le_trans a (Int.le_of_eq hc.1), Int.le_trans (Int.le_of_eq hc.1.symm) c⟩, ⟨Int.le_trans b (Int.le_of_eq hc.2), Int.le_trans (Int.le_of_eq hc.2.symm) d⟩⟩
    · exact h3 q hq
theorem pAt_all {l : List Pt2} {P : Pt2 → Prop} (h : ∀ i, i < l.length → P (pAt l i)) : ∀ p ∈ l, P p := by
  intro p hp
  obtain ⟨i, hi, rfl⟩ := List.getElem_of_mem hp
  rw [← pAt_eq hi]; exact h i hi
/-- The line itself. -/
theorem clip_of (l : List Int) : clipLine (mline l) (ofV (mline l)).1 (ofV (mline l)).2.1 (ofV (mline l)).2.2.1 (ofV (mline l)).2.2.2 = [mline l] := by
  obtain ⟨h1, h2⟩ := of_box (l := mline l) (fun e => by have := (mline_good l).2.1; rw [e] at this; simp at this) (pAt_all (mline_ok l))
  exact clip_in (mline_line l) h1 fun i hi => h2 _ (pAt_mem hi)
end Go.Proofs.Ytcckekdfeeghaaa
