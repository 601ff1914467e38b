/-
  Plain laws of clip.Segment: its part lies in the box; from the other end it is the same; box and segment meet. Conditions: none.
-/
import Derived.Test.YtcckekdfeeghaaaClipB0
import Derived.Test.YtcckekdfeeghaaaClipI
namespace Go.Proofs.Ytcckekdfeeghaaa
set_option linter.unusedSimpArgs false
set_option linter.unusedVariables false

theorem rnd_mul (m d : Int) (hd : 0 < d) : rnd (m * d) d = m := by
  unfold rnd
  rw [show 2 * (m * d) + d = d + 2 * d * m by grind, Int.add_mul_ediv_left _ _ (by omega), Int.ediv_eq_zero_of_lt (by omega) (by omega)]; omega
theorem rnd_sub (x m d : Int) (hd : 0 < d) : rnd (x - m * d) d = rnd x d - m := by
  unfold rnd
  rw [show 2 * (x - m * d) + d = (2 * x + d) + 2 * d * (-m) by grind, Int.add_mul_ediv_left _ _ (by omega)]; omega
theorem rnd_mono {x y d : Int} (hd : 0 < d) (h : x ≤ y) : rnd x d ≤ rnd y d := by
  unfold rnd; exact Int.ediv_le_ediv (by omega) (by omega)
theorem rnd_le {x m d : Int} (hd : 0 < d) (h : x ≤ m * d) : rnd x d ≤ m := by
  have := rnd_mono hd h; rwa [rnd_mul m d hd] at this
theorem rnd_ge {x m d : Int} (hd : 0 < d) (h : m * d ≤ x) : m ≤ rnd x d := by
  have := rnd_mono hd h; rwa [rnd_mul m d hd] at this
/-- The cut at n / d of the way. -/
def ptC (ax ay dx dy n d : Int) : CutT := (n, d, ax + rnd (n * dx) d, ay + rnd (n * dy) d)
theorem le_trans_q {n1 d1 n2 d2 n3 d3 : Int} (h1 : 0 ≤ d1) (h2 : 0 < d2) (h3 : 0 ≤ d3) (a : n1 * d2 ≤ n2 * d1) (b : n2 * d3 ≤ n3 * d2) : n1 * d3 ≤ n3 * d1 := by
  have a' := Int.mul_le_mul_of_nonneg_right a h3
  have b' := Int.mul_le_mul_of_nonneg_right b h1
  refine Int.le_of_mul_le_mul_right (a := d2) ?_ h2
  rw [show n1 * d3 * d2 = n1 * d2 * d3 by grind, show n3 * d1 * d2 = n3 * d2 * d1 by grind]
  rw [show n2 * d1 * d3 = n2 * d3 * d1 by grind] at a'
  exact Int.le_trans a' b'
theorem lt_le_q {n1 d1 n2 d2 n3 d3 : Int} (h1 : 0 < d1) (h2 : 0 < d2) (h3 : 0 < d3) (a : n1 * d2 < n2 * d1) (b : n2 * d3 ≤ n3 * d2) : n1 * d3 < n3 * d1 := by
  have a' := Int.mul_lt_mul_of_pos_right a h3
  have b' := Int.mul_le_mul_of_nonneg_right b (Int.le_of_lt h1)
  refine Int.lt_of_mul_lt_mul_right (a := d2) ?_ (Int.le_of_lt h2)
  rw [show n1 * d3 * d2 = n1 * d2 * d3 by grind, show n3 * d1 * d2 = n3 * d2 * d1 by grind]
  rw [show n2 * d1 * d3 = n2 * d3 * d1 by grind] at a'
  exact Int.lt_of_lt_of_le a' b'
/-- One side: how far the start is within, and how that changes. -/
def okSide (ax ay dx dy lx ly hx hy : Int) (i : Nat) (n d : Int) : Prop := 0 ≤ fromV ax ay lx ly hx hy i * d + n * byV dx dy i

theorem kCut_pos {ax ay dx dy lx ly hx hy : Int} {i : Nat} (hi : i < 4) (h : 0 < byV dx dy i) :
    kCut ax ay dx dy (atV lx ly hx hy i) i (-(fromV ax ay lx ly hx hy i)) (byV dx dy i) = ptC ax ay dx dy (-(fromV ax ay lx ly hx hy i)) (byV dx dy i) := by
  unfold kCut ptC
  have hc : i = 0 ∨ i = 1 ∨ i = 2 ∨ i = 3 := by omega
  rcases hc with rfl | rfl | rfl | rfl
  · simp [byV, fromV, atV] at h ⊢
    rw [show (-(ax - lx)) * dx = (lx - ax) * dx by grind, rnd_mul _ _ h]; omega
  · simp [byV, fromV, atV] at h ⊢
    rw [show (ax - hx) * dx = (hx - ax) * -dx by grind, rnd_mul _ _ (by omega)]; omega
  · simp [byV, fromV, atV] at h ⊢
    rw [show (-(ay - ly)) * dy = (ly - ay) * dy by grind, rnd_mul _ _ h]; omega
  · simp [byV, fromV, atV] at h ⊢
    rw [show (ay - hy) * dy = (hy - ay) * -dy by grind, rnd_mul _ _ (by omega)]; omega
theorem kCut_neg {ax ay dx dy lx ly hx hy : Int} {i : Nat} (hi : i < 4) (h : byV dx dy i < 0) :
    kCut ax ay dx dy (atV lx ly hx hy i) i (fromV ax ay lx ly hx hy i) (-(byV dx dy i)) = ptC ax ay dx dy (fromV ax ay lx ly hx hy i) (-(byV dx dy i)) := by
  unfold kCut ptC
  have hc : i = 0 ∨ i = 1 ∨ i = 2 ∨ i = 3 := by omega
  rcases hc with rfl | rfl | rfl | rfl
  · simp [byV, fromV, atV] at h ⊢
    rw [show (ax - lx) * dx = (lx - ax) * -dx by grind, rnd_mul _ _ (by omega)]; omega
  · simp [byV, fromV, atV] at h ⊢
    rw [show (-(ax - hx)) * dx = (hx - ax) * dx by grind, rnd_mul _ _ (by omega)]; omega
  · simp [byV, fromV, atV] at h ⊢
    rw [show (ay - ly) * dy = (ly - ay) * -dy by grind, rnd_mul _ _ (by omega)]; omega
  · simp [byV, fromV, atV] at h ⊢
    rw [show (-(ay - hy)) * dy = (hy - ay) * dy by grind, rnd_mul _ _ (by omega)]; omega

section
variable (ax ay dx dy lx ly hx hy : Int)
/-- A cut lies on the segment's line, at its place. -/
def onC (k : CutT) : Prop := 0 < k.2.1 ∧ k = ptC ax ay dx dy k.1 k.2.1
theorem onC_pt {n d : Int} (h : 0 < d) : onC ax ay dx dy (ptC ax ay dx dy n d) := ⟨h, rfl⟩
/-- What the sides from i on, k of them, ask of the first and the last cut. -/
def sided (i k : Nat) (f l : CutT) : Prop := ∀ j, i ≤ j → j < i + k →
  (0 < byV dx dy j → -(fromV ax ay lx ly hx hy j) * f.2.1 ≤ f.1 * byV dx dy j) ∧ (byV dx dy j < 0 → l.1 * (-(byV dx dy j)) ≤ fromV ax ay lx ly hx hy j * l.2.1) ∧ (byV dx dy j = 0 → 0 ≤ fromV ax ay lx ly hx hy j)
def leC (f k : CutT) : Prop := f.1 * k.2.1 ≤ k.1 * f.2.1
end
theorem leC_refl (f : CutT) : leC f f := Int.le_refl _
theorem leC_trans {a b c : CutT} (ha : 0 < a.2.1) (hb : 0 < b.2.1) (hc : 0 < c.2.1) (h : leC a b) (k : leC b c) : leC a c :=
  le_trans_q (Int.le_of_lt ha) hb (Int.le_of_lt hc) h k
theorem ltC_iff {a b : CutT} : ltC a b = true ↔ a.1 * b.2.1 < b.1 * a.2.1 := by unfold ltC ltV; exact decide_eq_true_iff
theorem ltC_le {a b : CutT} (h : ltC a b = true) : leC a b := Int.le_of_lt (ltC_iff.1 h)
theorem ltC_ge {a b : CutT} (h : ltC a b = false) : leC b a := by
  have : ¬ (a.1 * b.2.1 < b.1 * a.2.1) := fun k => by rw [ltC_iff.2 k] at h; cases h
  unfold leC; omega

theorem sideStep_law {ax ay dx dy lx ly hx hy : Int} {i : Nat} (hi : i < 4) {f l f' l' : CutT} (hf : onC ax ay dx dy f) (hl : onC ax ay dx dy l)
    (h : sideStep ax ay dx dy (atV lx ly hx hy i) (fromV ax ay lx ly hx hy i) (byV dx dy i) i f l = some (f', l')) :
    onC ax ay dx dy f' ∧ onC ax ay dx dy l' ∧ leC f f' ∧ leC l' l ∧ sided ax ay dx dy lx ly hx hy i 1 f' l' := by
  unfold sideStep at h
  by_cases h0 : byV dx dy i = 0
  · rw [if_pos h0] at h
    split at h
    · cases h
    · injection h with h; injection h with h1 h2; subst h1 h2
      refine ⟨hf, hl, leC_refl _, leC_refl _, fun j hj hj2 => ?_⟩
      obtain rfl : j = i := by omega
      exact ⟨fun h => by omega, fun h => by omega, fun _ => by omega⟩
  · rw [if_neg h0] at h
    by_cases hp : 0 < byV dx dy i
    · rw [if_pos hp, kCut_pos hi hp] at h
      injection h with h; injection h with h1 h2; subst h2
      cases hc : ltC f (ptC ax ay dx dy (-(fromV ax ay lx ly hx hy i)) (byV dx dy i))
      · rw [hc] at h1
        simp at h1; subst h1
        refine ⟨hf, hl, leC_refl _, leC_refl _, fun j hj hj2 => ?_⟩
        obtain rfl : j = i := by omega
        exact ⟨fun _ => ltC_ge hc, fun h => by omega, fun h => by omega⟩
      · rw [hc] at h1
        simp at h1; subst h1
        refine ⟨onC_pt _ _ _ _ hp, hl, ltC_le hc, leC_refl _, fun j hj hj2 => ?_⟩
        obtain rfl : j = i := by omega
        exact ⟨fun _ => Int.le_refl _, fun h => by omega, fun h => by omega⟩
    · have hn : byV dx dy i < 0 := by omega
      rw [if_neg hp, kCut_neg hi hn] at h
      injection h with h; injection h with h1 h2; subst h1
      cases hc : ltC (ptC ax ay dx dy (fromV ax ay lx ly hx hy i) (-(byV dx dy i))) l
      · rw [hc] at h2
        simp at h2; subst h2
        refine ⟨hf, hl, leC_refl _, leC_refl _, fun j hj hj2 => ?_⟩
        obtain rfl : j = i := by omega
        exact ⟨fun h => by omega, fun _ => ltC_ge hc, fun h => by omega⟩
      · rw [hc] at h2
        simp at h2; subst h2
        refine ⟨hf, onC_pt _ _ _ _ (by omega), leC_refl _, ltC_le hc, fun j hj hj2 => ?_⟩
        obtain rfl : j = i := by omega
        exact ⟨fun h => by omega, fun _ => Int.le_refl _, fun h => by omega⟩

theorem segRun_law {ax ay dx dy lx ly hx hy : Int} : ∀ (k i : Nat) (f l f' l' : CutT), i + k ≤ 4 → onC ax ay dx dy f → onC ax ay dx dy l →
    segRun ax ay dx dy lx ly hx hy k i f l = some (f', l') →
    onC ax ay dx dy f' ∧ onC ax ay dx dy l' ∧ leC f f' ∧ leC l' l ∧ sided ax ay dx dy lx ly hx hy i k f' l'
  | 0, i, f, l, f', l', hi, hf, hl, h => by
    rw [segRun] at h
    injection h with h; injection h with h1 h2; subst h1 h2
    exact ⟨hf, hl, leC_refl _, leC_refl _, fun j hj hj2 => by omega⟩
  | k + 1, i, f, l, f', l', hi, hf, hl, h => by
    rw [segRun] at h
    cases hs : sideStep ax ay dx dy (atV lx ly hx hy i) (fromV ax ay lx ly hx hy i) (byV dx dy i) i f l with
    | none => rw [hs] at h; cases h
    | some p =>
      obtain ⟨f1, l1⟩ := p
      rw [hs] at h
      simp only [Option.bind_some] at h
      obtain ⟨a1, a2, a3, a4, a5⟩ := sideStep_law (by omega) hf hl hs
      obtain ⟨b1, b2, b3, b4, b5⟩ := segRun_law k (i + 1) f1 l1 f' l' (by omega) a1 a2 h
      refine ⟨b1, b2, leC_trans hf.1 a1.1 b1.1 a3 b3, leC_trans b2.1 a2.1 hl.1 b4 a4, fun j hj hj2 => ?_⟩
      by_cases e : j = i
      · subst e
        obtain ⟨c1, c2, c3⟩ := a5 j (Nat.le_refl _) (by omega)
        refine ⟨fun hp => ?_, fun hn => ?_, c3⟩
        · exact le_trans_q (Int.le_of_lt hp) a1.1 (Int.le_of_lt b1.1) (c1 hp) b3
        · exact le_trans_q (d1 := l'.2.1) (d3 := -(byV dx dy j)) (n3 := fromV ax ay lx ly hx hy j) (Int.le_of_lt b2.1) a2.1 (by omega) b4 (c2 hn)
      · exact b5 j (by omega) (by omega)

/-- What is known of a segment's part. -/
structure PartLaw (ax ay cx cy lx ly hx hy : Int) (f l : CutT) : Prop where
  ne : ¬(ax = cx ∧ ay = cy)
  okA : okP ax ay = true
  okC : okP cx cy = true
  box : okB lx ly hx hy = true
  onF : onC ax ay (cx - ax) (cy - ay) f
  onL : onC ax ay (cx - ax) (cy - ay) l
  f0 : 0 ≤ f.1
  l1 : l.1 ≤ l.2.1
  lt : f.1 * l.2.1 < l.1 * f.2.1
  sd : sided ax ay (cx - ax) (cy - ay) lx ly hx hy 0 4 f l

theorem segV_law {ax ay cx cy lx ly hx hy : Int} {f l : CutT} (h : segV ax ay cx cy lx ly hx hy = some (f, l)) : PartLaw ax ay cx cy lx ly hx hy f l := by
  unfold segV at h
  split at h
  case isFalse => cases h
  case isTrue hg =>
    simp only [Bool.and_eq_true, Bool.not_eq_true', Bool.and_eq_false_iff, beq_eq_false_iff_ne] at hg
    obtain ⟨⟨⟨g1, g2⟩, g3⟩, g4⟩ := hg
    cases hr : segRun ax ay (cx - ax) (cy - ay) lx ly hx hy 4 0 (0, 1, ax, ay) (1, 1, cx, cy) with
    | none => rw [hr] at h; cases h
    | some p =>
      obtain ⟨f1, l1⟩ := p
      rw [hr] at h
      simp only [Option.bind_some] at h
      split at h
      case isFalse => cases h
      case isTrue hlt =>
        injection h with h; injection h with h1 h2; subst h1 h2
        have e0 : onC ax ay (cx - ax) (cy - ay) (0, 1, ax, ay) := ⟨Int.zero_lt_one, by simp [ptC, rnd]⟩
        have e1 : onC ax ay (cx - ax) (cy - ay) (1, 1, cx, cy) := ⟨Int.zero_lt_one, by
          simp only [ptC]
          rw [show (1 : Int) * (cx - ax) = (cx - ax) * 1 by omega, show (1 : Int) * (cy - ay) = (cy - ay) * 1 by omega, rnd_mul _ _ (by decide), rnd_mul _ _ (by decide)]
          simp; omega⟩
        obtain ⟨b1, b2, b3, b4, b5⟩ := segRun_law 4 0 _ _ _ _ (by decide) e0 e1 hr
        refine ⟨fun e => ?_, g2, g3, g4, b1, b2, ?_, ?_, ltC_iff.1 hlt, b5⟩
        · rcases g1 with g | g
          · exact g e.1
          · exact g e.2
        · unfold leC at b3; simp at b3; omega
        · unfold leC at b4; simp at b4; omega

theorem PartLaw.sideF {ax ay cx cy lx ly hx hy : Int} {f l : CutT} (h : PartLaw ax ay cx cy lx ly hx hy f l) (j : Nat) (hj : j < 4) :
    okSide ax ay (cx - ax) (cy - ay) lx ly hx hy j f.1 f.2.1 ∧ okSide ax ay (cx - ax) (cy - ay) lx ly hx hy j l.1 l.2.1 := by
  obtain ⟨s1, s2, s3⟩ := h.sd j (Nat.zero_le _) (by omega)
  have hF := h.onF.1
  have hL := h.onL.1
  have hlt := Int.le_of_lt h.lt
  unfold okSide
  generalize hb : byV (cx - ax) (cy - ay) j = b at *
  generalize hr : fromV ax ay lx ly hx hy j = r at *
  rcases Int.lt_trichotomy b 0 with hn | h0 | hp
  · have h2 := s2 hn
    refine ⟨?_, by grind⟩
    have := le_trans_q (d1 := f.2.1) (d2 := l.2.1) (d3 := -b) (Int.le_of_lt hF) hL (by omega) hlt h2
    grind
  · have h3 := s3 h0
    subst h0
    have := Int.mul_nonneg h3 (Int.le_of_lt hF)
    have := Int.mul_nonneg h3 (Int.le_of_lt hL)
    constructor <;> omega
  · have h1 := s1 hp
    refine ⟨by grind, ?_⟩
    have := le_trans_q (n1 := -r) (d1 := b) (d2 := f.2.1) (d3 := l.2.1) (by omega) hF (Int.le_of_lt hL) h1 hlt
    grind

/-- The rounded point of a place within the sides is in the box. -/
theorem pt_in {ax ay dx dy lx ly hx hy n d : Int} (hd : 0 < d) (h : ∀ j, j < 4 → okSide ax ay dx dy lx ly hx hy j n d) :
    (lx ≤ ax + rnd (n * dx) d ∧ ax + rnd (n * dx) d ≤ hx) ∧ (ly ≤ ay + rnd (n * dy) d ∧ ay + rnd (n * dy) d ≤ hy) := by
  have h0 := h 0 (by decide)
  have h1 := h 1 (by decide)
  have h2 := h 2 (by decide)
  have h3 := h 3 (by decide)
  simp [okSide, fromV, byV] at h0 h1 h2 h3
  have k0 := rnd_ge (x := n * dx) (m := lx - ax) hd (by grind)
  have k1 := rnd_le (x := n * dx) (m := hx - ax) hd (by grind)
  have k2 := rnd_ge (x := n * dy) (m := ly - ay) hd (by grind)
  have k3 := rnd_le (x := n * dy) (m := hy - ay) hd (by grind)
  omega
theorem PartLaw.inF {ax ay cx cy lx ly hx hy : Int} {f l : CutT} (h : PartLaw ax ay cx cy lx ly hx hy f l) : (lx ≤ f.2.2.1 ∧ f.2.2.1 ≤ hx) ∧ (ly ≤ f.2.2.2 ∧ f.2.2.2 ≤ hy) := by
  have := pt_in h.onF.1 fun j hj => (h.sideF j hj).1
  rw [h.onF.2]; exact this
theorem PartLaw.inL {ax ay cx cy lx ly hx hy : Int} {f l : CutT} (h : PartLaw ax ay cx cy lx ly hx hy f l) : (lx ≤ l.2.2.1 ∧ l.2.2.1 ≤ hx) ∧ (ly ≤ l.2.2.2 ∧ l.2.2.2 ≤ hy) := by
  have := pt_in h.onL.1 fun j hj => (h.sideF j hj).2
  rw [h.onL.2]; exact this
/-- A cut seen from the other end. -/
def flipC (k : CutT) : CutT := (k.2.1 - k.1, k.2.1, k.2.2.1, k.2.2.2)
theorem flip_flip (k : CutT) : flipC (flipC k) = k := by
  obtain ⟨a, b, c, d⟩ := k; simp only [flipC]; rw [show b - (b - a) = a by omega]
theorem ltC_flip (a b : CutT) : ltC (flipC a) (flipC b) = ltC b a := by
  unfold ltC ltV flipC
  rw [Bool.eq_iff_iff, decide_eq_true_iff, decide_eq_true_iff]
  simp only []
  constructor <;> intro h <;> grind
theorem flip_if (b : Bool) (x y : CutT) : flipC (if b = true then x else y) = if b = true then flipC x else flipC y := by cases b <;> rfl
theorem ptC_flip {ax ay cx cy n d : Int} (hd : 0 < d) : ptC cx cy (-(cx - ax)) (-(cy - ay)) (d - n) d = flipC (ptC ax ay (cx - ax) (cy - ay) n d) := by
  unfold ptC flipC
  simp only []
  rw [show (d - n) * -(cx - ax) = n * (cx - ax) - (cx - ax) * d by grind, show (d - n) * -(cy - ay) = n * (cy - ay) - (cy - ay) * d by grind, rnd_sub _ _ _ hd, rnd_sub _ _ _ hd]
  refine Prod.ext rfl (Prod.ext rfl (Prod.ext ?_ ?_)) <;> simp <;> omega
theorem byV_neg (dx dy : Int) (i : Nat) : byV (-dx) (-dy) i = -(byV dx dy i) := by unfold byV; (repeat' split) <;> omega
theorem fromV_end {ax ay cx cy lx ly hx hy : Int} (i : Nat) : fromV cx cy lx ly hx hy i = fromV ax ay lx ly hx hy i + byV (cx - ax) (cy - ay) i := by unfold fromV byV; (repeat' split) <;> omega

theorem step_pos {ax ay dx dy at_ fr by_ : Int} {i : Nat} {f l : CutT} (h : 0 < by_) : sideStep ax ay dx dy at_ fr by_ i f l = some (if ltC f (kCut ax ay dx dy at_ i (-fr) by_) then kCut ax ay dx dy at_ i (-fr) by_ else f, l) := by
  unfold sideStep; rw [if_neg (show ¬ by_ = 0 by omega), if_pos h]
theorem step_neg {ax ay dx dy at_ fr by_ : Int} {i : Nat} {f l : CutT} (h : by_ < 0) : sideStep ax ay dx dy at_ fr by_ i f l = some (f, if ltC (kCut ax ay dx dy at_ i fr (-by_)) l then kCut ax ay dx dy at_ i fr (-by_) else l) := by
  unfold sideStep; rw [if_neg (show ¬ by_ = 0 by omega), if_neg (show ¬ 0 < by_ by omega)]
theorem step_zero {ax ay dx dy at_ fr by_ : Int} {i : Nat} {f l : CutT} (h : by_ = 0) : sideStep ax ay dx dy at_ fr by_ i f l = if fr < 0 then none else some (f, l) := by
  unfold sideStep; rw [if_pos h]
theorem sideStep_flip {ax ay cx cy lx ly hx hy : Int} {i : Nat} (hi : i < 4) (f l : CutT) :
    sideStep cx cy (-(cx - ax)) (-(cy - ay)) (atV lx ly hx hy i) (fromV cx cy lx ly hx hy i) (byV (-(cx - ax)) (-(cy - ay)) i) i (flipC l) (flipC f) =
    (sideStep ax ay (cx - ax) (cy - ay) (atV lx ly hx hy i) (fromV ax ay lx ly hx hy i) (byV (cx - ax) (cy - ay) i) i f l).map fun p => (flipC p.2, flipC p.1) := by
  have hb := byV_neg (cx - ax) (cy - ay) i
  have hf := fromV_end (ax := ax) (ay := ay) (cx := cx) (cy := cy) (lx := lx) (ly := ly) (hx := hx) (hy := hy) i
  rcases Int.lt_trichotomy (byV (cx - ax) (cy - ay) i) 0 with hn | h0 | hp
  · rw [step_pos (by omega), step_neg hn, kCut_pos hi (by omega), kCut_neg hi hn]
    have e : ptC cx cy (-(cx - ax)) (-(cy - ay)) (-(fromV cx cy lx ly hx hy i)) (byV (-(cx - ax)) (-(cy - ay)) i) = flipC (ptC ax ay (cx - ax) (cy - ay) (fromV ax ay lx ly hx hy i) (-(byV (cx - ax) (cy - ay) i))) := by
      rw [← ptC_flip (by omega), hb]
      congr 1
      omega
    rw [e, ltC_flip, ← flip_if]
    rfl
  · rw [step_zero (by omega), step_zero h0, hf, h0, Int.add_zero]
    split <;> rfl
  · rw [step_neg (by omega), step_pos hp, kCut_neg hi (by omega), kCut_pos hi hp]
    have e : ptC cx cy (-(cx - ax)) (-(cy - ay)) (fromV cx cy lx ly hx hy i) (-(byV (-(cx - ax)) (-(cy - ay)) i)) = flipC (ptC ax ay (cx - ax) (cy - ay) (-(fromV ax ay lx ly hx hy i)) (byV (cx - ax) (cy - ay) i)) := by
      rw [← ptC_flip hp, hb]
      congr 1 <;> omega
    rw [e, ltC_flip, ← flip_if]
    rfl
theorem segRun_flip {ax ay cx cy lx ly hx hy : Int} : ∀ (k i : Nat) (f l : CutT), i + k ≤ 4 →
    segRun cx cy (-(cx - ax)) (-(cy - ay)) lx ly hx hy k i (flipC l) (flipC f) = (segRun ax ay (cx - ax) (cy - ay) lx ly hx hy k i f l).map fun p => (flipC p.2, flipC p.1)
  | 0, i, f, l, hi => rfl
  | k + 1, i, f, l, hi => by
    rw [segRun, segRun, sideStep_flip (by omega)]
    cases sideStep ax ay (cx - ax) (cy - ay) (atV lx ly hx hy i) (fromV ax ay lx ly hx hy i) (byV (cx - ax) (cy - ay) i) i f l with
    | none => rfl
    | some p =>
      obtain ⟨f1, l1⟩ := p
      simp only [Option.map_some, Option.bind_some]
      exact segRun_flip k (i + 1) f1 l1 (by omega)

/-- The part of a segment from the other end. -/
theorem segV_flip (ax ay cx cy lx ly hx hy : Int) : segV cx cy ax ay lx ly hx hy = (segV ax ay cx cy lx ly hx hy).map fun p => (flipC p.2, flipC p.1) := by
  unfold segV
  have e : (!(cx == ax && cy == ay) && okP cx cy && okP ax ay && okB lx ly hx hy) = (!(ax == cx && ay == cy) && okP ax ay && okP cx cy && okB lx ly hx hy) := by
    rw [show (cx == ax) = (ax == cx) from BEq.comm, show (cy == ay) = (ay == cy) from BEq.comm]
    cases (ax == cx && ay == cy) <;> cases okP cx cy <;> cases okP ax ay <;> rfl
  rw [e]
  split
  · have h := segRun_flip (ax := ax) (ay := ay) (cx := cx) (cy := cy) (lx := lx) (ly := ly) (hx := hx) (hy := hy) 4 0 (0, 1, ax, ay) (1, 1, cx, cy) (by decide)
    rw [show flipC (1, 1, cx, cy) = (0, 1, cx, cy) from rfl, show flipC (0, 1, ax, ay) = (1, 1, ax, ay) from rfl, show -(cx - ax) = ax - cx by omega, show -(cy - ay) = ay - cy by omega] at h
    rw [h]
    cases segRun ax ay (cx - ax) (cy - ay) lx ly hx hy 4 0 (0, 1, ax, ay) (1, 1, cx, cy) with
    | none => rfl
    | some p =>
      obtain ⟨f1, l1⟩ := p
      simp only [Option.map_some, Option.bind_some, ltC_flip]
      split <;> rfl
  · rfl

/-- Box and segment have a point in common. -/
def hitB (lx ly hx hy ax ay cx cy : Int) : Bool :=
  (decide (lx ≤ max lx (min ax cx)) && decide (max lx (min ax cx) ≤ hx) && decide (ly ≤ max ly (min ay cy)) && decide (max ly (min ay cy) ≤ hy)) &&
  (decide (min ax cx ≤ max lx (min ax cx)) && decide (max lx (min ax cx) ≤ max ax cx) && decide (min ay cy ≤ max ly (min ay cy)) && decide (max ly (min ay cy) ≤ max ay cy)) &&
  (decide (0 ≤ crossV ax ay cx cy lx ly) || decide (0 ≤ crossV ax ay cx cy hx ly) || decide (0 ≤ crossV ax ay cx cy hx hy) || decide (0 ≤ crossV ax ay cx cy lx hy)) &&
  (decide (crossV ax ay cx cy lx ly ≤ 0) || decide (crossV ax ay cx cy hx ly ≤ 0) || decide (crossV ax ay cx cy hx hy ≤ 0) || decide (crossV ax ay cx cy lx hy ≤ 0))

theorem between {a d n dx l h : Int} (hd : 0 < d) (hn0 : 0 ≤ n) (hn : n ≤ d) (h1 : 0 ≤ (a - l) * d + n * dx) (h2 : 0 ≤ (h - a) * d + n * -dx) : l ≤ max a (a + dx) ∧ min a (a + dx) ≤ h := by
  constructor
  · rcases Int.lt_or_le (max a (a + dx)) l with hlt | hle
    · exfalso
      have e1 : a < l := by omega
      have e2 : a + dx < l := by omega
      have q : (a - l) * d + n * dx < 0 := by
        have z1 : n * dx ≤ n * (l - a) := Int.mul_le_mul_of_nonneg_left (by omega) hn0
        rcases Int.lt_or_le n d with g | g
        · have z2 : (l - a) * n < (l - a) * d := Int.mul_lt_mul_of_pos_left g (by omega)
          grind
        · obtain rfl : n = d := by omega
          have z2 : n * dx < n * (l - a) := Int.mul_lt_mul_of_pos_left (by omega) hd
          grind
      omega
    · exact hle
  · rcases Int.lt_or_le h (min a (a + dx)) with hlt | hle
    · exfalso
      have e1 : h < a := by omega
      have e2 : h < a + dx := by omega
      have q : (h - a) * d + n * -dx < 0 := by
        have z1 : n * (-dx) ≤ n * (a - h) := Int.mul_le_mul_of_nonneg_left (by omega) hn0
        rcases Int.lt_or_le n d with g | g
        · have z2 : (a - h) * n < (a - h) * d := Int.mul_lt_mul_of_pos_left g (by omega)
          grind
        · obtain rfl : n = d := by omega
          have z2 : n * (-dx) < n * (a - h) := Int.mul_lt_mul_of_pos_left (by omega) hd
          grind
      omega
    · exact hle

theorem PartLaw.hit {ax ay cx cy lx ly hx hy : Int} {f l : CutT} (h : PartLaw ax ay cx cy lx ly hx hy f l) : hitB lx ly hx hy ax ay cx cy = true := by
  have hd := h.onF.1
  have h0 := (h.sideF 0 (by decide)).1
  have h1 := (h.sideF 1 (by decide)).1
  have h2 := (h.sideF 2 (by decide)).1
  have h3 := (h.sideF 3 (by decide)).1
  simp [okSide, fromV, byV] at h0 h1 h2 h3
  have hn0 := h.f0
  have hn : f.1 ≤ f.2.1 := by
    have := h.lt
    have a1 := h.l1
    have a2 := h.onL.1
    have b1 : l.1 * f.2.1 ≤ l.2.1 * f.2.1 := Int.mul_le_mul_of_nonneg_right a1 (Int.le_of_lt hd)
    have b2 : f.1 * l.2.1 < f.2.1 * l.2.1 := by grind
    have := Int.lt_of_mul_lt_mul_right b2 (Int.le_of_lt a2)
    omega
  have hb := okB_iff.1 h.box
  generalize f.1 = n at *
  generalize f.2.1 = d at *
  have bx := between (a := ax) (dx := cx - ax) (l := lx) (h := hx) hd hn0 hn (by grind) (by grind)
  have b_y := between (a := ay) (dx := cy - ay) (l := ly) (h := hy) hd hn0 hn (by grind) (by grind)
  have cz : ∀ X Y : Int, d * crossV ax ay cx cy X Y = (cx - ax) * (Y * d - (ay * d + n * (cy - ay))) - (cy - ay) * (X * d - (ax * d + n * (cx - ax))) := by
    intro X Y; unfold crossV; grind
  have sg : ∀ v : Int, 0 ≤ d * v → 0 ≤ v := fun v hv => by
    rcases Int.lt_or_le v 0 with g | g
    · have := Int.mul_lt_mul_of_pos_left g hd; omega
    · exact g
  have sl : ∀ v : Int, d * v ≤ 0 → v ≤ 0 := fun v hv => by
    rcases Int.lt_or_le 0 v with g | g
    · have := Int.mul_lt_mul_of_pos_left g hd; omega
    · exact g
  -- the corner that lies least, and the one that lies most to the left
  have hx1 : 0 ≤ hx * d - (ax * d + n * (cx - ax)) := by grind
  have hx0 : lx * d - (ax * d + n * (cx - ax)) ≤ 0 := by grind
  have hy1 : 0 ≤ hy * d - (ay * d + n * (cy - ay)) := by grind
  have hy0 : ly * d - (ay * d + n * (cy - ay)) ≤ 0 := by grind
  have P := fun (u v : Int) (hu : 0 ≤ u) (hv : 0 ≤ v) => Int.mul_nonneg hu hv
  have big : 0 ≤ crossV ax ay cx cy lx ly ∨ 0 ≤ crossV ax ay cx cy hx ly ∨ 0 ≤ crossV ax ay cx cy hx hy ∨ 0 ≤ crossV ax ay cx cy lx hy := by
    rcases Int.lt_or_le (cx - ax) 0 with u | u <;> rcases Int.lt_or_le (cy - ay) 0 with v | v
    · right; left; apply sg; rw [cz]
      have p1 := P (-(cx - ax)) (-(ly * d - (ay * d + n * (cy - ay)))) (by omega) (by omega)
      have p2 := P (-(cy - ay)) (hx * d - (ax * d + n * (cx - ax))) (by omega) hx1
      grind
    · left; apply sg; rw [cz]
      have p1 := P (-(cx - ax)) (-(ly * d - (ay * d + n * (cy - ay)))) (by omega) (by omega)
      have p2 := P (cy - ay) (-(lx * d - (ax * d + n * (cx - ax)))) v (by omega)
      grind
    · right; right; left; apply sg; rw [cz]
      have p1 := P (cx - ax) (hy * d - (ay * d + n * (cy - ay))) u hy1
      have p2 := P (-(cy - ay)) (hx * d - (ax * d + n * (cx - ax))) (by omega) hx1
      grind
    · right; right; right; apply sg; rw [cz]
      have p1 := P (cx - ax) (hy * d - (ay * d + n * (cy - ay))) u hy1
      have p2 := P (cy - ay) (-(lx * d - (ax * d + n * (cx - ax)))) v (by omega)
      grind
  have small : crossV ax ay cx cy lx ly ≤ 0 ∨ crossV ax ay cx cy hx ly ≤ 0 ∨ crossV ax ay cx cy hx hy ≤ 0 ∨ crossV ax ay cx cy lx hy ≤ 0 := by
    rcases Int.lt_or_le (cx - ax) 0 with u | u <;> rcases Int.lt_or_le (cy - ay) 0 with v | v
    · right; right; right; apply sl; rw [cz]
      have p1 := P (-(cx - ax)) (hy * d - (ay * d + n * (cy - ay))) (by omega) hy1
      have p2 := P (-(cy - ay)) (-(lx * d - (ax * d + n * (cx - ax)))) (by omega) (by omega)
      grind
    · right; right; left; apply sl; rw [cz]
      have p1 := P (-(cx - ax)) (hy * d - (ay * d + n * (cy - ay))) (by omega) hy1
      have p2 := P (cy - ay) (hx * d - (ax * d + n * (cx - ax))) v hx1
      grind
    · left; apply sl; rw [cz]
      have p1 := P (cx - ax) (-(ly * d - (ay * d + n * (cy - ay)))) u (by omega)
      have p2 := P (-(cy - ay)) (-(lx * d - (ax * d + n * (cx - ax)))) (by omega) (by omega)
      grind
    · right; left; apply sl; rw [cz]
      have p1 := P (cx - ax) (-(ly * d - (ay * d + n * (cy - ay)))) u (by omega)
      have p2 := P (cy - ay) (hx * d - (ax * d + n * (cx - ax))) v hx1
      grind
  unfold hitB
  simp only [Bool.and_eq_true, Bool.or_eq_true, decide_eq_true_eq]
  refine ⟨⟨⟨⟨⟨⟨?_, ?_⟩, ?_⟩, ?_⟩, ⟨⟨?_, ?_⟩, ?_⟩, ?_⟩, ?_⟩, ?_⟩
  all_goals omega

theorem of_two {ax ay cx cy : Int} (ha : okP ax ay = true) (hc : okP cx cy = true) : ofV [(ax, ay), (cx, cy)] = (min ax cx, min ay cy, max ax cx, max ay cy) := by
  have h1 := clamp_id ha
  have h2 := clamp_id hc
  simp [ofV, joinP, clampP, h1, h2]
theorem turn_ge {ax ay cx cy px py : Int} (ha : okP ax ay = true) (hc : okP cx cy = true) (hp : okP px py = true) : decide (0 ≤ turnV ax ay cx cy px py) = decide (0 ≤ crossV ax ay cx cy px py) := by
  have h1 := clamp_id ha
  have h2 := clamp_id hc
  have h3 := clamp_id hp
  unfold turnV
  rw [h1.1, h1.2, h2.1, h2.2, h3.1, h3.2]
  unfold cmpI
  rw [Bool.eq_iff_iff, decide_eq_true_eq, decide_eq_true_eq]
  (repeat' split) <;> omega
theorem turn_le {ax ay cx cy px py : Int} (ha : okP ax ay = true) (hc : okP cx cy = true) (hp : okP px py = true) : decide (turnV ax ay cx cy px py ≤ 0) = decide (crossV ax ay cx cy px py ≤ 0) := by
  have h1 := clamp_id ha
  have h2 := clamp_id hc
  have h3 := clamp_id hp
  unfold turnV
  rw [h1.1, h1.2, h2.1, h2.2, h3.1, h3.2]
  unfold cmpI
  rw [Bool.eq_iff_iff, decide_eq_true_eq, decide_eq_true_eq]
  (repeat' split) <;> omega
theorem hit_eq {lx ly hx hy ax ay cx cy : Int} (hb : okB lx ly hx hy = true) (ha : okP ax ay = true) (hc : okP cx cy = true) : hitV lx ly hx hy ax ay cx cy = hitB lx ly hx hy ax ay cx cy := by
  have hb' := okB_iff.1 hb
  have p1 : okP lx ly = true := okP_iff.2 (by omega)
  have p2 : okP hx ly = true := okP_iff.2 (by omega)
  have p3 : okP hx hy = true := okP_iff.2 (by omega)
  have p4 : okP lx hy = true := okP_iff.2 (by omega)
  unfold hitV hitB meetOf meetV hasV leftK rightK
  rw [of_two ha hc]
  simp [cornersV, turn_ge ha hc, turn_le ha hc, p1, p2, p3, p4, Bool.or_assoc, Bool.and_assoc]
theorem has_of {lx ly hx hy px py : Int} (h : (lx ≤ px ∧ px ≤ hx) ∧ (ly ≤ py ∧ py ≤ hy)) : hasV lx ly hx hy px py = true := by
  unfold hasV; simp only [Bool.and_eq_true, decide_eq_true_eq]; omega
end Go.Proofs.Ytcckekdfeeghaaa
