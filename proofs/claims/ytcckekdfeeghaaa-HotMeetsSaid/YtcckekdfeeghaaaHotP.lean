/-
  The plain law of HotMeets: at valid points the program's formula and the reference's are one. Conditions: points are valid.
-/
import Derived.Test.YtcckekdfeeghaaaHotS
namespace Go.Proofs.Ytcckekdfeeghaaa
set_option linter.unusedSimpArgs false
set_option linter.unusedVariables false

/-- Bound b is the number v / M. -/
def Val (M : Int) (b : Bnd) (v : Int) : Prop := 0 < b.2.1 ∧ b.2.1 ≤ 16777216 ∧ b.1.natAbs ≤ 16777216 ∧ v * b.2.1 = b.1 * M

theorem bnd_raw {n d n' d' : Int} (h1 : n.natAbs ≤ 16777216) (h2 : n'.natAbs ≤ 16777216) (h3 : d.natAbs ≤ 16777216) (h4 : d'.natAbs ≤ 16777216) :
    bndCmp n d n' d' = if n * d' < n' * d then -1 else if n' * d < n * d' then 1 else 0 := by
  have a1 := mul_bd h1 h4
  have a2 := mul_bd h2 h3
  unfold bndCmp
  have w1 : RowKit.wrap64 (n * d') = n * d' := wrap_id (by omega)
  have w2 : RowKit.wrap64 (n' * d) = n' * d := wrap_id (by omega)
  rw [w1, w2, wrap_id (by omega)]
  (repeat' split) <;> omega

theorem val_lt {M n d v n' d' v' : Int} (hM : 0 < M) (hd : 0 < d) (hd' : 0 < d') (h : v * d = n * M) (h' : v' * d' = n' * M) : n * d' < n' * d ↔ v < v' := by
  have e1 : n * d' * M = v * (d * d') := by rw [Int.mul_right_comm, ← h, Int.mul_assoc]
  have e2 : n' * d * M = v' * (d * d') := by rw [Int.mul_right_comm, ← h', Int.mul_assoc, Int.mul_comm d' d]
  have hdd : 0 < d * d' := Int.mul_pos hd hd'
  constructor
  · intro hlt
    have h3 : n * d' * M < n' * d * M := Int.mul_lt_mul_of_pos_right hlt hM
    rw [e1, e2] at h3
    exact Int.lt_of_mul_lt_mul_right h3 (Int.le_of_lt hdd)
  · intro hlt
    have h3 : v * (d * d') < v' * (d * d') := Int.mul_lt_mul_of_pos_right hlt hdd
    rw [← e1, ← e2] at h3
    exact Int.lt_of_mul_lt_mul_right h3 (Int.le_of_lt hM)

theorem bnd_val {M : Int} {b b' : Bnd} {v v' : Int} (hM : 0 < M) (h : Val M b v) (h' : Val M b' v') : bndCmp b.1 b.2.1 b'.1 b'.2.1 = if v < v' then -1 else if v' < v then 1 else 0 := by
  obtain ⟨h1, h2, h3, h4⟩ := h
  obtain ⟨k1, k2, k3, k4⟩ := h'
  rw [bnd_raw h3 k3 (by omega) (by omega)]
  simp only [val_lt hM h1 k1 h4 k4, val_lt hM k1 h1 k4 h4]

def leastV (v : Int) (c : Bool) (v' : Int) (c' : Bool) : Int × Bool := if v < v' ∨ (v' = v ∧ c' = false) then (v', c') else (v, c)
def mostV (v : Int) (c : Bool) (v' : Int) (c' : Bool) : Int × Bool := if v' < v ∨ (v' = v ∧ c' = false) then (v', c') else (v, c)

theorem least_val {M : Int} {lo : Bnd} {v n d v' : Int} {c : Bool} (hM : 0 < M) (h : Val M lo v) (h' : Val M (bnN n d, bnD d, c) v') :
    Val M (leastLo lo n d c) (leastV v lo.2.2 v' c).1 ∧ (leastLo lo n d c).2.2 = (leastV v lo.2.2 v' c).2 := by
  have hb := bnd_val hM h' h
  have ht : leastT lo.1 lo.2.1 (bnN n d) (bnD d) c ↔ (v < v' ∨ (v' = v ∧ c = false)) := by
    unfold leastT
    simp only at hb
    rw [hb]
    constructor
    · rintro (k | ⟨k, kc⟩)
      · left; (repeat' split at k) <;> omega
      · right; refine ⟨?_, kc⟩; (repeat' split at k) <;> omega
    · rintro (k | ⟨k, kc⟩)
      · left; (repeat' split) <;> omega
      · right; refine ⟨?_, kc⟩; (repeat' split) <;> omega
  unfold leastLo leastV
  by_cases k : leastT lo.1 lo.2.1 (bnN n d) (bnD d) c
  · rw [if_pos k, if_pos (ht.1 k)]; exact ⟨h', rfl⟩
  · rw [if_neg k, if_neg (fun x => k (ht.2 x))]; exact ⟨h, rfl⟩

theorem most_val {M : Int} {hi : Bnd} {v n d v' : Int} {c : Bool} (hM : 0 < M) (h : Val M hi v) (h' : Val M (bnN n d, bnD d, c) v') :
    Val M (mostHi hi n d c) (mostV v hi.2.2 v' c).1 ∧ (mostHi hi n d c).2.2 = (mostV v hi.2.2 v' c).2 := by
  have hb := bnd_val hM h' h
  have ht : mostT hi.1 hi.2.1 (bnN n d) (bnD d) c ↔ (v' < v ∨ (v' = v ∧ c = false)) := by
    unfold mostT
    simp only at hb
    rw [hb]
    constructor
    · rintro (k | ⟨k, kc⟩)
      · left; (repeat' split at k) <;> omega
      · right; refine ⟨?_, kc⟩; (repeat' split at k) <;> omega
    · rintro (k | ⟨k, kc⟩)
      · left; (repeat' split) <;> omega
      · right; refine ⟨?_, kc⟩; (repeat' split) <;> omega
  unfold mostHi mostV
  by_cases k : mostT hi.1 hi.2.1 (bnN n d) (bnD d) c
  · rw [if_pos k, if_pos (ht.1 k)]; exact ⟨h', rfl⟩
  · rw [if_neg k, if_neg (fun x => k (ht.2 x))]; exact ⟨h, rfl⟩

theorem end_val {M : Int} {lo hi : Bnd} {v v' : Int} (hM : 0 < M) (h : Val M lo v) (h' : Val M hi v') : endE lo hi = decide (v < v' ∨ (v = v' ∧ lo.2.2 = true ∧ hi.2.2 = true)) := by
  unfold endE
  rw [bnd_val hM h h']
  cases hl : lo.2.2 <;> cases hh : hi.2.2 <;> (repeat' split) <;> simp <;> omega

/-- The value of a cut of the x side or the y side: from f on, d a step, other the factor by which the step of the other side widens the scale. -/
def sg (d : Int) : Int := if 0 < d then 1 else -1
theorem val_cut {n d o : Int} (hd : d ≠ 0) (ho : 0 < o) (hf : n.natAbs ≤ 16777216) (hd2 : d.natAbs ≤ 16777216) (c : Bool) : Val (d.natAbs * o) (bnN n d, bnD d, c) (n * sg d * o) := by
  unfold Val bnN bnD sg
  rcases Int.lt_or_gt_of_ne hd with h | h
  · rw [if_pos h, if_pos h, if_neg (by omega), wrap_id (by omega), wrap_id (by omega)]
    refine ⟨by dsimp only; omega, by dsimp only; omega, by dsimp only; omega, ?_⟩
    have e : (d.natAbs : Int) = -d := by omega
    dsimp only
    rw [e]
    simp only [Int.mul_neg, Int.neg_mul, Int.mul_one, Int.neg_neg, Int.mul_assoc, Int.mul_comm, Int.mul_left_comm]
  · rw [if_neg (by omega), if_neg (by omega), if_pos h]
    refine ⟨by dsimp only; omega, by dsimp only; omega, by dsimp only; omega, ?_⟩
    have e : (d.natAbs : Int) = d := by omega
    dsimp only
    rw [e]
    simp only [Int.mul_one, Int.mul_assoc, Int.mul_comm, Int.mul_left_comm]

/-- The range of the numbers from 0 to M of one side, in values: f is the start, d the way, t = the value of a place. -/
def loV (v : Int) (c : Bool) (d a b : Int) : Int × Bool := if 0 < d then leastV v c a true else if d < 0 then leastV v c b false else (v, c)
def hiV (v : Int) (c : Bool) (d a b : Int) : Int × Bool := if 0 < d then mostV v c b false else if d < 0 then mostV v c a true else (v, c)

theorem cutLo_val {M : Int} {lo : Bnd} {v f d o : Int} (hM : 0 < M) (h : Val M lo v) (hf : f.natAbs ≤ 8388608) (hd : d.natAbs ≤ 8388608) (ho : d ≠ 0 → 0 < o ∧ M = d.natAbs * o) :
    Val M (cutLo lo f d) (loV v lo.2.2 d (-f * sg d * o) ((2 - f) * sg d * o)).1 ∧ (cutLo lo f d).2.2 = (loV v lo.2.2 d (-f * sg d * o) ((2 - f) * sg d * o)).2 := by
  unfold cutLo loV
  by_cases h1 : 0 < d
  · obtain ⟨ho1, rfl⟩ := ho (by omega)
    rw [if_pos h1, if_pos h1]
    exact least_val hM h (val_cut (by omega) ho1 (by omega) (by omega) true)
  · rw [if_neg h1, if_neg h1]
    by_cases h2 : d < 0
    · obtain ⟨ho1, rfl⟩ := ho (by omega)
      rw [if_pos h2, if_pos h2]
      exact least_val hM h (val_cut (by omega) ho1 (by omega) (by omega) false)
    · rw [if_neg h2, if_neg h2]; exact ⟨h, rfl⟩

theorem cutHi_val {M : Int} {hi : Bnd} {v f d o : Int} (hM : 0 < M) (h : Val M hi v) (hf : f.natAbs ≤ 8388608) (hd : d.natAbs ≤ 8388608) (ho : d ≠ 0 → 0 < o ∧ M = d.natAbs * o) :
    Val M (cutHi hi f d) (hiV v hi.2.2 d (-f * sg d * o) ((2 - f) * sg d * o)).1 ∧ (cutHi hi f d).2.2 = (hiV v hi.2.2 d (-f * sg d * o) ((2 - f) * sg d * o)).2 := by
  unfold cutHi hiV
  by_cases h1 : 0 < d
  · obtain ⟨ho1, rfl⟩ := ho (by omega)
    rw [if_pos h1, if_pos h1]
    exact most_val hM h (val_cut (by omega) ho1 (by omega) (by omega) false)
  · rw [if_neg h1, if_neg h1]
    by_cases h2 : d < 0
    · obtain ⟨ho1, rfl⟩ := ho (by omega)
      rw [if_pos h2, if_pos h2]
      exact most_val hM h (val_cut (by omega) ho1 (by omega) (by omega) true)
    · rw [if_neg h2, if_neg h2]; exact ⟨h, rfl⟩

/-- The end of Meets in values. -/
def endV (M d1 a1 b1 d2 a2 b2 : Int) : Prop :=
  (loV (loV 0 true d1 a1 b1).1 (loV 0 true d1 a1 b1).2 d2 a2 b2).1 < (hiV (hiV M true d1 a1 b1).1 (hiV M true d1 a1 b1).2 d2 a2 b2).1 ∨
  ((loV (loV 0 true d1 a1 b1).1 (loV 0 true d1 a1 b1).2 d2 a2 b2).1 = (hiV (hiV M true d1 a1 b1).1 (hiV M true d1 a1 b1).2 d2 a2 b2).1 ∧ (loV (loV 0 true d1 a1 b1).1 (loV 0 true d1 a1 b1).2 d2 a2 b2).2 = true ∧ (hiV (hiV M true d1 a1 b1).1 (hiV M true d1 a1 b1).2 d2 a2 b2).2 = true)

theorem meetsE_val {M f1 d1 f2 d2 o1 o2 : Int} (hM : 0 < M) (h1 : f1.natAbs ≤ 8388608) (h2 : d1.natAbs ≤ 8388608) (h3 : f2.natAbs ≤ 8388608) (h4 : d2.natAbs ≤ 8388608) (k1 : d1 ≠ 0 → 0 < o1 ∧ M = d1.natAbs * o1) (k2 : d2 ≠ 0 → 0 < o2 ∧ M = d2.natAbs * o2) :
    (meetsE f1 d1 f2 d2 = true) ↔ endV M d1 (-f1 * sg d1 * o1) ((2 - f1) * sg d1 * o1) d2 (-f2 * sg d2 * o2) ((2 - f2) * sg d2 * o2) := by
  have v0 : Val M (0, 1, true) 0 := ⟨by dsimp only; omega, by dsimp only; omega, by dsimp only; omega, by dsimp only; omega⟩
  have v1 : Val M (1, 1, true) M := ⟨by dsimp only; omega, by dsimp only; omega, by dsimp only; omega, by dsimp only; omega⟩
  obtain ⟨l1, l2⟩ := cutLo_val hM v0 h1 h2 k1
  obtain ⟨l3, l4⟩ := cutLo_val hM l1 h3 h4 k2
  obtain ⟨m1, m2⟩ := cutHi_val hM v1 h1 h2 k1
  obtain ⟨m3, m4⟩ := cutHi_val hM m1 h3 h4 k2
  unfold meetsE meetsLo meetsHi
  rw [end_val hM l3 m3, l4, m4, l2, m2, decide_eq_true_eq]
  rfl

/-- The reference in the place of the start and the way alone. -/
def refF (f dx g dy : Int) : Prop :=
  (0 ≤ f ∧ f < 2 ∧ 0 ≤ g ∧ g < 2) ∨ (0 ≤ f + 2 * dx ∧ f + 2 * dx < 2 ∧ 0 ≤ g + 2 * dy ∧ g + 2 * dy < 2) ∨
  (dx ≠ 0 ∧ ¬ 0 < f * (f + 2 * dx) ∧ 0 ≤ g * max dx (-dx) - f * dy * sgn dx ∧ g * max dx (-dx) - f * dy * sgn dx < 2 * max dx (-dx)) ∨
  (dy ≠ 0 ∧ ¬ 0 < g * (g + 2 * dy) ∧ 0 ≤ f * max dy (-dy) - g * dx * sgn dy ∧ f * max dy (-dy) - g * dx * sgn dy < 2 * max dy (-dy)) ∨
  (dx ≠ 0 ∧ ¬ 0 < (2 - f) * (2 - f - 2 * dx) ∧ dy ≠ 0 ∧ ¬ 0 < (2 - g) * (2 - g - 2 * dy) ∧ 0 ≤ g * max dx (-dx) + (2 - f) * dy * sgn dx ∧ g * max dx (-dx) + (2 - f) * dy * sgn dx < 2 * max dx (-dx) ∧
    0 ≤ f * max dy (-dy) + (2 - g) * dx * sgn dy ∧ f * max dy (-dy) + (2 - g) * dx * sgn dy < 2 * max dy (-dy))

theorem atB_iff {x ax bx dx u v : Int} (hu : x - 2 * ax = u) (hv : x - 2 * bx = v) : atB x ax bx dx = true ↔ dx ≠ 0 ∧ ¬ 0 < u * v := by
  subst hu hv
  unfold atB
  by_cases h : dx = 0
  · rw [if_pos h]; simp [h]
  · rw [if_neg h]; simp only [decide_eq_true_eq]; exact ⟨fun k => ⟨h, k⟩, fun k => k.2⟩

theorem nearB_iff {n d p : Int} : nearB n d p = true ↔ 0 ≤ n - (2 * p - 1) * d ∧ n - (2 * p - 1) * d < 2 * d := by
  unfold nearB
  have e : (2 * p + 1) * d = (2 * p - 1) * d + 2 * d := by
    rw [← Int.add_mul]; congr 1; omega
  rw [Bool.and_eq_true, decide_eq_true_eq, decide_eq_true_eq, e]
  omega

theorem any_addS (p : Spt → Bool) (b : Bool) (s : Spt) (l : List Spt) : (addS b s l).any p = (l.any p || (b && p s)) := by
  unfold addS; cases b <;> simp

theorem side_eq (ay py D u : Int) : 2 * ay * D + u - (2 * py - 1) * D = (2 * (ay - py) + 1) * D + u := by
  have h : (2 * (ay - py) + 1) * D = 2 * ay * D - (2 * py - 1) * D := by rw [← Int.sub_mul]; congr 1; omega
  omega

theorem side_iff {ax ay px py dx dy x u : Int} (hx : x - 2 * ax = u) (k : Int) : (0 ≤ (atS x ax ay dx dy).2.1 - (2 * py - 1) * max dx (-dx) ∧ (atS x ax ay dx dy).2.1 - (2 * py - 1) * max dx (-dx) < k) ↔
    (0 ≤ (2 * (ay - py) + 1) * max dx (-dx) + u * dy * sgn dx ∧ (2 * (ay - py) + 1) * max dx (-dx) + u * dy * sgn dx < k) := by
  subst hx
  unfold atS
  dsimp only
  rw [side_eq]

theorem own_side {x p D : Int} (hx : x = 2 * p - 1) (hD : 0 < D) : nearB (x * D) D p = true := by
  subst hx
  rw [nearB_iff]; omega

theorem left_iff {ax ay bx px py dx dy : Int} (hb : bx = ax + dx) :
    (atB (2 * px - 1) ax bx dx = true ∧ inB (atS (2 * px - 1) ax ay dx dy) px py = true) ↔
    (dx ≠ 0 ∧ ¬ 0 < (2 * (ax - px) + 1) * (2 * (ax - px) + 1 + 2 * dx) ∧ 0 ≤ (2 * (ay - py) + 1) * max dx (-dx) - (2 * (ax - px) + 1) * dy * sgn dx ∧ (2 * (ay - py) + 1) * max dx (-dx) - (2 * (ax - px) + 1) * dy * sgn dx < 2 * max dx (-dx)) := by
  have hu : 2 * px - 1 - 2 * ax = -(2 * (ax - px) + 1) := by omega
  have hv : 2 * px - 1 - 2 * bx = -(2 * (ax - px) + 1 + 2 * dx) := by omega
  rw [atB_iff hu hv, Int.neg_mul_neg]
  have h2 := @side_iff ax ay px py dx dy (2 * px - 1) _ hu (2 * max dx (-dx))
  rw [Int.neg_mul, Int.neg_mul, Int.add_neg_eq_sub] at h2
  unfold inB
  rw [Bool.and_eq_true]
  constructor
  · rintro ⟨⟨k1, k2⟩, k3, k4⟩
    have k5 := h2.1 (nearB_iff.1 k4)
    exact ⟨k1, k2, k5.1, k5.2⟩
  · rintro ⟨k1, k2, k3, k4⟩
    exact ⟨⟨k1, k2⟩, own_side rfl (by first | omega | (unfold atS; dsimp only; omega)), nearB_iff.2 (h2.2 ⟨k3, k4⟩)⟩

theorem low_iff {ax ay by_ px py dx dy : Int} (hb : by_ = ay + dy) :
    (atB (2 * py - 1) ay by_ dy = true ∧ inB (atT (2 * py - 1) ay ax dy dx) px py = true) ↔
    (dy ≠ 0 ∧ ¬ 0 < (2 * (ay - py) + 1) * (2 * (ay - py) + 1 + 2 * dy) ∧ 0 ≤ (2 * (ax - px) + 1) * max dy (-dy) - (2 * (ay - py) + 1) * dx * sgn dy ∧ (2 * (ax - px) + 1) * max dy (-dy) - (2 * (ay - py) + 1) * dx * sgn dy < 2 * max dy (-dy)) := by
  rw [← left_iff (ay := ax) hb]
  unfold inB
  rw [Bool.and_eq_true, Bool.and_eq_true]
  constructor
  · rintro ⟨h, a, b⟩; exact ⟨h, b, a⟩
  · rintro ⟨h, a, b⟩; exact ⟨h, b, a⟩

theorem right_iff {ax ay bx px py dx dy : Int} (hb : bx = ax + dx) :
    (atB (2 * px + 1) ax bx dx = true ∧ nearB (atS (2 * px + 1) ax ay dx dy).2.1 (atS (2 * px + 1) ax ay dx dy).2.2 py = true) ↔
    (dx ≠ 0 ∧ ¬ 0 < (2 - (2 * (ax - px) + 1)) * (2 - (2 * (ax - px) + 1) - 2 * dx) ∧ 0 ≤ (2 * (ay - py) + 1) * max dx (-dx) + (2 - (2 * (ax - px) + 1)) * dy * sgn dx ∧ (2 * (ay - py) + 1) * max dx (-dx) + (2 - (2 * (ax - px) + 1)) * dy * sgn dx < 2 * max dx (-dx)) := by
  have hu : 2 * px + 1 - 2 * ax = 2 - (2 * (ax - px) + 1) := by omega
  have hv : 2 * px + 1 - 2 * bx = 2 - (2 * (ax - px) + 1) - 2 * dx := by omega
  rw [atB_iff hu hv]
  have h2 := @side_iff ax ay px py dx dy (2 * px + 1) _ hu (2 * max dx (-dx))
  rw [nearB_iff]
  constructor
  · rintro ⟨⟨k1, k2⟩, k4⟩
    have k5 := h2.1 k4
    exact ⟨k1, k2, k5.1, k5.2⟩
  · rintro ⟨k1, k2, k3, k4⟩
    exact ⟨⟨k1, k2⟩, h2.2 ⟨k3, k4⟩⟩

theorem refV_iff (ax ay bx by_ px py : Int) : refV ax ay bx by_ px py = true ↔ refF (2 * (ax - px) + 1) (bx - ax) (2 * (ay - py) + 1) (by_ - ay) := by
  have hL := @left_iff ax ay bx px py (bx - ax) (by_ - ay) (by omega)
  have hD := @low_iff ax ay by_ px py (bx - ax) (by_ - ay) (by omega)
  have hR := @right_iff ax ay bx px py (bx - ax) (by_ - ay) (by omega)
  have hU := @right_iff ay ax by_ py px (by_ - ay) (bx - ax) (by omega)
  have hA : inB (2 * ax, 2 * ay, 1) px py = true ↔ (0 ≤ 2 * (ax - px) + 1 ∧ 2 * (ax - px) + 1 < 2 ∧ 0 ≤ 2 * (ay - py) + 1 ∧ 2 * (ay - py) + 1 < 2) := by
    unfold inB; rw [Bool.and_eq_true, nearB_iff, nearB_iff]; dsimp only; omega
  have hB : inB (2 * bx, 2 * by_, 1) px py = true ↔ (0 ≤ 2 * (ax - px) + 1 + 2 * (bx - ax) ∧ 2 * (ax - px) + 1 + 2 * (bx - ax) < 2 ∧ 0 ≤ 2 * (ay - py) + 1 + 2 * (by_ - ay) ∧ 2 * (ay - py) + 1 + 2 * (by_ - ay) < 2) := by
    unfold inB; rw [Bool.and_eq_true, nearB_iff, nearB_iff]; dsimp only; omega
  unfold refV refL refT refF
  rw [any_addS, any_addS]
  simp only [S0, List.any_cons, List.any_nil, Bool.or_eq_true, Bool.and_eq_true, Bool.or_false]
  rw [← hL, ← hD, ← hA, ← hB]
  have hRU : ∀ (p q r s : Prop), (p ∧ q ∧ r ∧ s) ↔ (p ∧ q ∧ r ∧ s) := fun _ _ _ _ => Iff.rfl
  constructor
  · rintro (⟨⟨⟨k1, k2⟩, k3⟩, k4⟩ | (((h | h) | h) | h))
    · obtain ⟨a1, a2, a3, a4⟩ := hR.1 ⟨k1, k3⟩
      obtain ⟨b1, b2, b3, b4⟩ := hU.1 ⟨k2, k4⟩
      exact .inr (.inr (.inr (.inr ⟨a1, a2, b1, b2, a3, a4, b3, b4⟩)))
    · exact .inl h
    · exact .inr (.inl h)
    · exact .inr (.inr (.inl h))
    · exact .inr (.inr (.inr (.inl h)))
  · rintro (h | h | h | h | ⟨a1, a2, b1, b2, a3, a4, b3, b4⟩)
    · exact .inr (.inl (.inl (.inl h)))
    · exact .inr (.inl (.inl (.inr h)))
    · exact .inr (.inl (.inr h))
    · exact .inr (.inr h)
    · have hr := hR.2 ⟨a1, a2, a3, a4⟩
      have hu := hU.2 ⟨b1, b2, b3, b4⟩
      exact .inl ⟨⟨⟨hr.1, hu.1⟩, hr.2⟩, hu.2⟩

theorem prod_iff {u v : Int} (h : u ≤ v) : (¬ 0 < u * v) ↔ (u ≤ 0 ∧ 0 ≤ v) := by
  constructor
  · intro hn
    refine ⟨?_, ?_⟩
    · rcases Int.lt_or_le 0 u with k | k
      · exact absurd (Int.mul_pos k (by omega)) hn
      · exact k
    · rcases Int.lt_or_le v 0 with k | k
      · exact absurd (Int.mul_pos_of_neg_of_neg (by omega) k) hn
      · exact k
  · rintro ⟨h1, h2⟩ hp
    have := Int.mul_nonneg (by omega : 0 ≤ -u) h2
    rw [Int.neg_mul] at this
    omega

theorem nn_iff {x q : Int} (h : 0 < q) : 0 ≤ x ↔ 0 ≤ x * q := by
  constructor
  · intro k; exact Int.mul_nonneg k (by omega)
  · intro k
    rcases Int.lt_or_le x 0 with j | j
    · have := Int.mul_pos (by omega : 0 < -x) h
      rw [Int.neg_mul] at this; omega
    · exact j

theorem m1 (f q : Int) : -f * 1 * (2 * q) = -(2 * (f * q)) := by rw [Int.mul_one, Int.neg_mul, Int.mul_left_comm]
theorem m2 (f q : Int) : (2 - f) * 1 * (2 * q) = 4 * q - 2 * (f * q) := by rw [Int.mul_one, Int.sub_mul, Int.mul_left_comm f]; omega
theorem m3 (f q : Int) : -f * -1 * (2 * q) = 2 * (f * q) := by rw [Int.neg_mul_neg, Int.mul_one, Int.mul_left_comm]
theorem m4 (f q : Int) : (2 - f) * -1 * (2 * q) = -(4 * q) + 2 * (f * q) := by rw [Int.mul_neg, Int.mul_one, Int.neg_mul, Int.sub_mul, Int.mul_left_comm f]; omega

def satP (v : Int) (c : Bool) (u : Int) (k : Bool) : Prop := v < u ∨ (v = u ∧ c = true ∧ k = true)
theorem sat_least (v v' u : Int) (c c' k : Bool) : satP (leastV v c v' c').1 (leastV v c v' c').2 u k ↔ satP v c u k ∧ satP v' c' u k := by
  unfold leastV satP
  cases c <;> cases c' <;> cases k <;> simp <;> (repeat' split) <;> (try simp) <;> omega
theorem sat_most (v v' u : Int) (c c' k : Bool) : satP u k (mostV v c v' c').1 (mostV v c v' c').2 ↔ satP u k v c ∧ satP u k v' c' := by
  unfold mostV satP
  cases c <;> cases c' <;> cases k <;> simp <;> (repeat' split) <;> (try simp) <;> omega

theorem endV_iff (M d1 a1 b1 d2 a2 b2 : Int) : endV M d1 a1 b1 d2 a2 b2 ↔ satP (loV (loV 0 true d1 a1 b1).1 (loV 0 true d1 a1 b1).2 d2 a2 b2).1 (loV (loV 0 true d1 a1 b1).1 (loV 0 true d1 a1 b1).2 d2 a2 b2).2 (hiV (hiV M true d1 a1 b1).1 (hiV M true d1 a1 b1).2 d2 a2 b2).1 (hiV (hiV M true d1 a1 b1).1 (hiV M true d1 a1 b1).2 d2 a2 b2).2 := Iff.rfl

theorem sgn_iffs {x q : Int} (h : 0 < q) : (0 ≤ x ↔ 0 ≤ x * q) ∧ (x ≤ 0 ↔ x * q ≤ 0) ∧ (x < 0 ↔ x * q < 0) := by
  have a := @nn_iff x q h
  have b := @nn_iff (-x) q h
  rw [Int.neg_mul] at b
  omega

/-- The heart: both sides in values. -/
theorem heart (f g p q sx sy : Int) (hp : 0 < p) (hq : 0 < q) (hsx : sx = 1 ∨ sx = -1) (hsy : sy = 1 ∨ sy = -1) :
    endV (4 * (p * q)) (2 * (sx * p)) (-f * sx * (2 * q)) ((2 - f) * sx * (2 * q)) (2 * (sy * q)) (-g * sy * (2 * p)) ((2 - g) * sy * (2 * p)) ↔ refF f (sx * p) g (sy * q) := by
  have hM : 0 < p * q := Int.mul_pos hp hq
  have hW1 : p ≤ p * q := by have := Int.mul_le_mul_of_nonneg_left (show 1 ≤ q by omega) (show 0 ≤ p by omega); omega
  have hW2 : q ≤ p * q := by have := Int.mul_le_mul_of_nonneg_right (show 1 ≤ p by omega) (show 0 ≤ q by omega); omega
  rcases hsx with rfl | rfl <;> rcases hsy with rfl | rfl
  · have i1 : -f * 1 * (2 * q) = -(2 * (f * q)) := m1 f q
    have i2 : (2 - f) * 1 * (2 * q) = 4 * q - 2 * (f * q) := m2 f q
    have i3 : -g * 1 * (2 * p) = -(2 * (g * p)) := m1 g p
    have i4 : (2 - g) * 1 * (2 * p) = 4 * p - 2 * (g * p) := m2 g p
    rw [i1, i2, i3, i4]
    clear i1 i2 i3 i4
    have r1f : 0 ≤ f ↔ 0 ≤ f * q := by
      have h := (@sgn_iffs (f) q (by assumption)).1
      have e : (f) * q = f * q := by simp only [Int.sub_mul, Int.add_mul, Int.mul_neg, Int.neg_mul, Int.mul_assoc, Int.mul_comm q p]
      rw [e] at h; omega
    have r2f : f < 2 ↔ f * q < 2 * q := by
      have h := (@sgn_iffs (f - 2) q (by assumption)).2.2
      have e : (f - 2) * q = f * q - 2 * q := by simp only [Int.sub_mul, Int.add_mul, Int.mul_neg, Int.neg_mul, Int.mul_assoc, Int.mul_comm q p]
      rw [e] at h; omega
    have r3f : 0 ≤ f + 2 * p ↔ 0 ≤ f * q + 2 * (p * q) := by
      have h := (@sgn_iffs (f + 2 * p) q (by assumption)).1
      have e : (f + 2 * p) * q = f * q + 2 * (p * q) := by simp only [Int.sub_mul, Int.add_mul, Int.mul_neg, Int.neg_mul, Int.mul_assoc, Int.mul_comm q p]
      rw [e] at h; omega
    have r4f : f + 2 * p < 2 ↔ f * q + 2 * (p * q) < 2 * q := by
      have h := (@sgn_iffs (f + 2 * p - 2) q (by assumption)).2.2
      have e : (f + 2 * p - 2) * q = f * q + 2 * (p * q) - 2 * q := by simp only [Int.sub_mul, Int.add_mul, Int.mul_neg, Int.neg_mul, Int.mul_assoc, Int.mul_comm q p]
      rw [e] at h; omega
    have r5f : f ≤ 0 ↔ f * q ≤ 0 := by
      have h := (@sgn_iffs (f) q (by assumption)).2.1
      have e : (f) * q = f * q := by simp only [Int.sub_mul, Int.add_mul, Int.mul_neg, Int.neg_mul, Int.mul_assoc, Int.mul_comm q p]
      rw [e] at h; omega
    have r6f : f + 2 * p ≤ 0 ↔ f * q + 2 * (p * q) ≤ 0 := by
      have h := (@sgn_iffs (f + 2 * p) q (by assumption)).2.1
      have e : (f + 2 * p) * q = f * q + 2 * (p * q) := by simp only [Int.sub_mul, Int.add_mul, Int.mul_neg, Int.neg_mul, Int.mul_assoc, Int.mul_comm q p]
      rw [e] at h; omega
    have r7f : 2 - f - 2 * p ≤ 0 ↔ 2 * q - f * q - 2 * (p * q) ≤ 0 := by
      have h := (@sgn_iffs (2 - f - 2 * p) q (by assumption)).2.1
      have e : (2 - f - 2 * p) * q = 2 * q - f * q - 2 * (p * q) := by simp only [Int.sub_mul, Int.add_mul, Int.mul_neg, Int.neg_mul, Int.mul_assoc, Int.mul_comm q p]
      rw [e] at h; omega
    have r8f : 0 ≤ 2 - f ↔ 0 ≤ 2 * q - f * q := by
      have h := (@sgn_iffs (2 - f) q (by assumption)).1
      have e : (2 - f) * q = 2 * q - f * q := by simp only [Int.sub_mul, Int.add_mul, Int.mul_neg, Int.neg_mul, Int.mul_assoc, Int.mul_comm q p]
      rw [e] at h; omega
    have r9f : 2 - f ≤ 0 ↔ 2 * q - f * q ≤ 0 := by
      have h := (@sgn_iffs (2 - f) q (by assumption)).2.1
      have e : (2 - f) * q = 2 * q - f * q := by simp only [Int.sub_mul, Int.add_mul, Int.mul_neg, Int.neg_mul, Int.mul_assoc, Int.mul_comm q p]
      rw [e] at h; omega
    have r0f : 0 ≤ 2 - f - 2 * p ↔ 0 ≤ 2 * q - f * q - 2 * (p * q) := by
      have h := (@sgn_iffs (2 - f - 2 * p) q (by assumption)).1
      have e : (2 - f - 2 * p) * q = 2 * q - f * q - 2 * (p * q) := by simp only [Int.sub_mul, Int.add_mul, Int.mul_neg, Int.neg_mul, Int.mul_assoc, Int.mul_comm q p]
      rw [e] at h; omega
    have r1g : 0 ≤ g ↔ 0 ≤ g * p := by
      have h := (@sgn_iffs (g) p (by assumption)).1
      have e : (g) * p = g * p := by simp only [Int.sub_mul, Int.add_mul, Int.mul_neg, Int.neg_mul, Int.mul_assoc, Int.mul_comm q p]
      rw [e] at h; omega
    have r2g : g < 2 ↔ g * p < 2 * p := by
      have h := (@sgn_iffs (g - 2) p (by assumption)).2.2
      have e : (g - 2) * p = g * p - 2 * p := by simp only [Int.sub_mul, Int.add_mul, Int.mul_neg, Int.neg_mul, Int.mul_assoc, Int.mul_comm q p]
      rw [e] at h; omega
    have r3g : 0 ≤ g + 2 * q ↔ 0 ≤ g * p + 2 * (p * q) := by
      have h := (@sgn_iffs (g + 2 * q) p (by assumption)).1
      have e : (g + 2 * q) * p = g * p + 2 * (p * q) := by simp only [Int.sub_mul, Int.add_mul, Int.mul_neg, Int.neg_mul, Int.mul_assoc, Int.mul_comm q p]
      rw [e] at h; omega
    have r4g : g + 2 * q < 2 ↔ g * p + 2 * (p * q) < 2 * p := by
      have h := (@sgn_iffs (g + 2 * q - 2) p (by assumption)).2.2
      have e : (g + 2 * q - 2) * p = g * p + 2 * (p * q) - 2 * p := by simp only [Int.sub_mul, Int.add_mul, Int.mul_neg, Int.neg_mul, Int.mul_assoc, Int.mul_comm q p]
      rw [e] at h; omega
    have r5g : g ≤ 0 ↔ g * p ≤ 0 := by
      have h := (@sgn_iffs (g) p (by assumption)).2.1
      have e : (g) * p = g * p := by simp only [Int.sub_mul, Int.add_mul, Int.mul_neg, Int.neg_mul, Int.mul_assoc, Int.mul_comm q p]
      rw [e] at h; omega
    have r6g : g + 2 * q ≤ 0 ↔ g * p + 2 * (p * q) ≤ 0 := by
      have h := (@sgn_iffs (g + 2 * q) p (by assumption)).2.1
      have e : (g + 2 * q) * p = g * p + 2 * (p * q) := by simp only [Int.sub_mul, Int.add_mul, Int.mul_neg, Int.neg_mul, Int.mul_assoc, Int.mul_comm q p]
      rw [e] at h; omega
    have r7g : 2 - g - 2 * q ≤ 0 ↔ 2 * p - g * p - 2 * (p * q) ≤ 0 := by
      have h := (@sgn_iffs (2 - g - 2 * q) p (by assumption)).2.1
      have e : (2 - g - 2 * q) * p = 2 * p - g * p - 2 * (p * q) := by simp only [Int.sub_mul, Int.add_mul, Int.mul_neg, Int.neg_mul, Int.mul_assoc, Int.mul_comm q p]
      rw [e] at h; omega
    have r8g : 0 ≤ 2 - g ↔ 0 ≤ 2 * p - g * p := by
      have h := (@sgn_iffs (2 - g) p (by assumption)).1
      have e : (2 - g) * p = 2 * p - g * p := by simp only [Int.sub_mul, Int.add_mul, Int.mul_neg, Int.neg_mul, Int.mul_assoc, Int.mul_comm q p]
      rw [e] at h; omega
    have r9g : 2 - g ≤ 0 ↔ 2 * p - g * p ≤ 0 := by
      have h := (@sgn_iffs (2 - g) p (by assumption)).2.1
      have e : (2 - g) * p = 2 * p - g * p := by simp only [Int.sub_mul, Int.add_mul, Int.mul_neg, Int.neg_mul, Int.mul_assoc, Int.mul_comm q p]
      rw [e] at h; omega
    have r0g : 0 ≤ 2 - g - 2 * q ↔ 0 ≤ 2 * p - g * p - 2 * (p * q) := by
      have h := (@sgn_iffs (2 - g - 2 * q) p (by assumption)).1
      have e : (2 - g - 2 * q) * p = 2 * p - g * p - 2 * (p * q) := by simp only [Int.sub_mul, Int.add_mul, Int.mul_neg, Int.neg_mul, Int.mul_assoc, Int.mul_comm q p]
      rw [e] at h; omega
    have e1 : max (p) (-(p)) = p := by omega
    have e2 : max (q) (-(q)) = q := by omega
    have g1 : sgn (p) = 1 := by unfold sgn; rw [if_pos hp]
    have g2 : sgn (q) = 1 := by unfold sgn; rw [if_pos hq]
    have c1f := @prod_iff f (f + 2 * p) (by omega)
    have c2f := @prod_iff (2 - f - 2 * p) (2 - f) (by omega)
    rw [Int.mul_comm] at c2f
    have c1g := @prod_iff g (g + 2 * q) (by omega)
    have c2g := @prod_iff (2 - g - 2 * q) (2 - g) (by omega)
    rw [Int.mul_comm] at c2g
    simp only [Int.one_mul, Int.neg_one_mul]
    rw [endV_iff]
    unfold loV hiV refF
    simp only [if_pos (show (0 : Int) < 2 * p by omega), if_pos (show (0 : Int) < 2 * q by omega)]
    simp only [sat_least, sat_most]
    simp only [c1f, c2f, c1g, c2g, e1, e2, g1, g2]
    clear c1f c2f c1g c2g e1 e2 g1 g2
    simp only [r1f, r2f, r3f, r4f, r5f, r6f, r7f, r8f, r9f, r0f, r1g, r2g, r3g, r4g, r5g, r6g, r7g, r8g, r9g, r0g]
    clear r1f r2f r3f r4f r5f r6f r7f r8f r9f r0f r1g r2g r3g r4g r5g r6g r7g r8g r9g r0g
    simp only [Int.mul_one, Int.mul_neg, Int.neg_mul, Int.neg_neg, Int.sub_neg, Int.sub_mul]
    generalize f * q = U at *
    generalize g * p = V at *
    generalize p * q = W at *
    unfold satP
    simp only [and_true, and_false, or_false, Bool.false_eq_true, reduceCtorEq, Bool.true_eq_false]
    omega
  · have i1 : -f * 1 * (2 * q) = -(2 * (f * q)) := m1 f q
    have i2 : (2 - f) * 1 * (2 * q) = 4 * q - 2 * (f * q) := m2 f q
    have i3 : -g * -1 * (2 * p) = 2 * (g * p) := m3 g p
    have i4 : (2 - g) * -1 * (2 * p) = -(4 * p) + 2 * (g * p) := m4 g p
    rw [i1, i2, i3, i4]
    clear i1 i2 i3 i4
    have r1f : 0 ≤ f ↔ 0 ≤ f * q := by
      have h := (@sgn_iffs (f) q (by assumption)).1
      have e : (f) * q = f * q := by simp only [Int.sub_mul, Int.add_mul, Int.mul_neg, Int.neg_mul, Int.mul_assoc, Int.mul_comm q p]
      rw [e] at h; omega
    have r2f : f < 2 ↔ f * q < 2 * q := by
      have h := (@sgn_iffs (f - 2) q (by assumption)).2.2
      have e : (f - 2) * q = f * q - 2 * q := by simp only [Int.sub_mul, Int.add_mul, Int.mul_neg, Int.neg_mul, Int.mul_assoc, Int.mul_comm q p]
      rw [e] at h; omega
    have r3f : 0 ≤ f + 2 * p ↔ 0 ≤ f * q + 2 * (p * q) := by
      have h := (@sgn_iffs (f + 2 * p) q (by assumption)).1
      have e : (f + 2 * p) * q = f * q + 2 * (p * q) := by simp only [Int.sub_mul, Int.add_mul, Int.mul_neg, Int.neg_mul, Int.mul_assoc, Int.mul_comm q p]
      rw [e] at h; omega
    have r4f : f + 2 * p < 2 ↔ f * q + 2 * (p * q) < 2 * q := by
      have h := (@sgn_iffs (f + 2 * p - 2) q (by assumption)).2.2
      have e : (f + 2 * p - 2) * q = f * q + 2 * (p * q) - 2 * q := by simp only [Int.sub_mul, Int.add_mul, Int.mul_neg, Int.neg_mul, Int.mul_assoc, Int.mul_comm q p]
      rw [e] at h; omega
    have r5f : f ≤ 0 ↔ f * q ≤ 0 := by
      have h := (@sgn_iffs (f) q (by assumption)).2.1
      have e : (f) * q = f * q := by simp only [Int.sub_mul, Int.add_mul, Int.mul_neg, Int.neg_mul, Int.mul_assoc, Int.mul_comm q p]
      rw [e] at h; omega
    have r6f : f + 2 * p ≤ 0 ↔ f * q + 2 * (p * q) ≤ 0 := by
      have h := (@sgn_iffs (f + 2 * p) q (by assumption)).2.1
      have e : (f + 2 * p) * q = f * q + 2 * (p * q) := by simp only [Int.sub_mul, Int.add_mul, Int.mul_neg, Int.neg_mul, Int.mul_assoc, Int.mul_comm q p]
      rw [e] at h; omega
    have r7f : 2 - f - 2 * p ≤ 0 ↔ 2 * q - f * q - 2 * (p * q) ≤ 0 := by
      have h := (@sgn_iffs (2 - f - 2 * p) q (by assumption)).2.1
      have e : (2 - f - 2 * p) * q = 2 * q - f * q - 2 * (p * q) := by simp only [Int.sub_mul, Int.add_mul, Int.mul_neg, Int.neg_mul, Int.mul_assoc, Int.mul_comm q p]
      rw [e] at h; omega
    have r8f : 0 ≤ 2 - f ↔ 0 ≤ 2 * q - f * q := by
      have h := (@sgn_iffs (2 - f) q (by assumption)).1
      have e : (2 - f) * q = 2 * q - f * q := by simp only [Int.sub_mul, Int.add_mul, Int.mul_neg, Int.neg_mul, Int.mul_assoc, Int.mul_comm q p]
      rw [e] at h; omega
    have r9f : 2 - f ≤ 0 ↔ 2 * q - f * q ≤ 0 := by
      have h := (@sgn_iffs (2 - f) q (by assumption)).2.1
      have e : (2 - f) * q = 2 * q - f * q := by simp only [Int.sub_mul, Int.add_mul, Int.mul_neg, Int.neg_mul, Int.mul_assoc, Int.mul_comm q p]
      rw [e] at h; omega
    have r0f : 0 ≤ 2 - f - 2 * p ↔ 0 ≤ 2 * q - f * q - 2 * (p * q) := by
      have h := (@sgn_iffs (2 - f - 2 * p) q (by assumption)).1
      have e : (2 - f - 2 * p) * q = 2 * q - f * q - 2 * (p * q) := by simp only [Int.sub_mul, Int.add_mul, Int.mul_neg, Int.neg_mul, Int.mul_assoc, Int.mul_comm q p]
      rw [e] at h; omega
    have r1g : 0 ≤ g ↔ 0 ≤ g * p := by
      have h := (@sgn_iffs (g) p (by assumption)).1
      have e : (g) * p = g * p := by simp only [Int.sub_mul, Int.add_mul, Int.mul_neg, Int.neg_mul, Int.mul_assoc, Int.mul_comm q p]
      rw [e] at h; omega
    have r2g : g < 2 ↔ g * p < 2 * p := by
      have h := (@sgn_iffs (g - 2) p (by assumption)).2.2
      have e : (g - 2) * p = g * p - 2 * p := by simp only [Int.sub_mul, Int.add_mul, Int.mul_neg, Int.neg_mul, Int.mul_assoc, Int.mul_comm q p]
      rw [e] at h; omega
    have r3g : 0 ≤ g + 2 * -q ↔ 0 ≤ g * p - 2 * (p * q) := by
      have h := (@sgn_iffs (g + 2 * -q) p (by assumption)).1
      have e : (g + 2 * -q) * p = g * p + -(2 * (p * q)) := by simp only [Int.sub_mul, Int.add_mul, Int.mul_neg, Int.neg_mul, Int.mul_assoc, Int.mul_comm q p]
      rw [e] at h; omega
    have r4g : g + 2 * -q < 2 ↔ g * p - 2 * (p * q) < 2 * p := by
      have h := (@sgn_iffs (g + 2 * -q - 2) p (by assumption)).2.2
      have e : (g + 2 * -q - 2) * p = g * p + -(2 * (p * q)) - 2 * p := by simp only [Int.sub_mul, Int.add_mul, Int.mul_neg, Int.neg_mul, Int.mul_assoc, Int.mul_comm q p]
      rw [e] at h; omega
    have r5g : g ≤ 0 ↔ g * p ≤ 0 := by
      have h := (@sgn_iffs (g) p (by assumption)).2.1
      have e : (g) * p = g * p := by simp only [Int.sub_mul, Int.add_mul, Int.mul_neg, Int.neg_mul, Int.mul_assoc, Int.mul_comm q p]
      rw [e] at h; omega
    have r6g : g + 2 * -q ≤ 0 ↔ g * p - 2 * (p * q) ≤ 0 := by
      have h := (@sgn_iffs (g + 2 * -q) p (by assumption)).2.1
      have e : (g + 2 * -q) * p = g * p + -(2 * (p * q)) := by simp only [Int.sub_mul, Int.add_mul, Int.mul_neg, Int.neg_mul, Int.mul_assoc, Int.mul_comm q p]
      rw [e] at h; omega
    have r7g : 2 - g - 2 * -q ≤ 0 ↔ 2 * p - g * p + 2 * (p * q) ≤ 0 := by
      have h := (@sgn_iffs (2 - g - 2 * -q) p (by assumption)).2.1
      have e : (2 - g - 2 * -q) * p = 2 * p - g * p - -(2 * (p * q)) := by simp only [Int.sub_mul, Int.add_mul, Int.mul_neg, Int.neg_mul, Int.mul_assoc, Int.mul_comm q p]
      rw [e] at h; omega
    have r8g : 0 ≤ 2 - g ↔ 0 ≤ 2 * p - g * p := by
      have h := (@sgn_iffs (2 - g) p (by assumption)).1
      have e : (2 - g) * p = 2 * p - g * p := by simp only [Int.sub_mul, Int.add_mul, Int.mul_neg, Int.neg_mul, Int.mul_assoc, Int.mul_comm q p]
      rw [e] at h; omega
    have r9g : 2 - g ≤ 0 ↔ 2 * p - g * p ≤ 0 := by
      have h := (@sgn_iffs (2 - g) p (by assumption)).2.1
      have e : (2 - g) * p = 2 * p - g * p := by simp only [Int.sub_mul, Int.add_mul, Int.mul_neg, Int.neg_mul, Int.mul_assoc, Int.mul_comm q p]
      rw [e] at h; omega
    have r0g : 0 ≤ 2 - g - 2 * -q ↔ 0 ≤ 2 * p - g * p + 2 * (p * q) := by
      have h := (@sgn_iffs (2 - g - 2 * -q) p (by assumption)).1
      have e : (2 - g - 2 * -q) * p = 2 * p - g * p - -(2 * (p * q)) := by simp only [Int.sub_mul, Int.add_mul, Int.mul_neg, Int.neg_mul, Int.mul_assoc, Int.mul_comm q p]
      rw [e] at h; omega
    have e1 : max (p) (-(p)) = p := by omega
    have e2 : max (-q) (-(-q)) = q := by omega
    have g1 : sgn (p) = 1 := by unfold sgn; rw [if_pos hp]
    have g2 : sgn (-q) = -1 := by unfold sgn; rw [if_neg (by omega), if_pos (by omega)]
    have c1f := @prod_iff f (f + 2 * p) (by omega)
    have c2f := @prod_iff (2 - f - 2 * p) (2 - f) (by omega)
    rw [Int.mul_comm] at c2f
    have c1g := @prod_iff (g + 2 * -q) g (by omega)
    rw [Int.mul_comm] at c1g
    have c2g := @prod_iff (2 - g) (2 - g - 2 * -q) (by omega)
    simp only [Int.one_mul, Int.neg_one_mul]
    rw [endV_iff]
    unfold loV hiV refF
    simp only [if_pos (show (0 : Int) < 2 * p by omega), if_neg (show ¬ (0 : Int) < 2 * -q by omega), if_pos (show 2 * -q < (0 : Int) by omega)]
    simp only [sat_least, sat_most]
    simp only [c1f, c2f, c1g, c2g, e1, e2, g1, g2]
    clear c1f c2f c1g c2g e1 e2 g1 g2
    simp only [r1f, r2f, r3f, r4f, r5f, r6f, r7f, r8f, r9f, r0f, r1g, r2g, r3g, r4g, r5g, r6g, r7g, r8g, r9g, r0g]
    clear r1f r2f r3f r4f r5f r6f r7f r8f r9f r0f r1g r2g r3g r4g r5g r6g r7g r8g r9g r0g
    simp only [Int.mul_one, Int.mul_neg, Int.neg_mul, Int.neg_neg, Int.sub_neg, Int.sub_mul]
    generalize f * q = U at *
    generalize g * p = V at *
    generalize p * q = W at *
    unfold satP
    simp only [and_true, and_false, or_false, Bool.false_eq_true, reduceCtorEq, Bool.true_eq_false]
    omega
  · have i1 : -f * -1 * (2 * q) = 2 * (f * q) := m3 f q
    have i2 : (2 - f) * -1 * (2 * q) = -(4 * q) + 2 * (f * q) := m4 f q
    have i3 : -g * 1 * (2 * p) = -(2 * (g * p)) := m1 g p
    have i4 : (2 - g) * 1 * (2 * p) = 4 * p - 2 * (g * p) := m2 g p
    rw [i1, i2, i3, i4]
    clear i1 i2 i3 i4
    have r1f : 0 ≤ f ↔ 0 ≤ f * q := by
      have h := (@sgn_iffs (f) q (by assumption)).1
      have e : (f) * q = f * q := by simp only [Int.sub_mul, Int.add_mul, Int.mul_neg, Int.neg_mul, Int.mul_assoc, Int.mul_comm q p]
      rw [e] at h; omega
    have r2f : f < 2 ↔ f * q < 2 * q := by
      have h := (@sgn_iffs (f - 2) q (by assumption)).2.2
      have e : (f - 2) * q = f * q - 2 * q := by simp only [Int.sub_mul, Int.add_mul, Int.mul_neg, Int.neg_mul, Int.mul_assoc, Int.mul_comm q p]
      rw [e] at h; omega
    have r3f : 0 ≤ f + 2 * -p ↔ 0 ≤ f * q - 2 * (p * q) := by
      have h := (@sgn_iffs (f + 2 * -p) q (by assumption)).1
      have e : (f + 2 * -p) * q = f * q + -(2 * (p * q)) := by simp only [Int.sub_mul, Int.add_mul, Int.mul_neg, Int.neg_mul, Int.mul_assoc, Int.mul_comm q p]
      rw [e] at h; omega
    have r4f : f + 2 * -p < 2 ↔ f * q - 2 * (p * q) < 2 * q := by
      have h := (@sgn_iffs (f + 2 * -p - 2) q (by assumption)).2.2
      have e : (f + 2 * -p - 2) * q = f * q + -(2 * (p * q)) - 2 * q := by simp only [Int.sub_mul, Int.add_mul, Int.mul_neg, Int.neg_mul, Int.mul_assoc, Int.mul_comm q p]
      rw [e] at h; omega
    have r5f : f ≤ 0 ↔ f * q ≤ 0 := by
      have h := (@sgn_iffs (f) q (by assumption)).2.1
      have e : (f) * q = f * q := by simp only [Int.sub_mul, Int.add_mul, Int.mul_neg, Int.neg_mul, Int.mul_assoc, Int.mul_comm q p]
      rw [e] at h; omega
    have r6f : f + 2 * -p ≤ 0 ↔ f * q - 2 * (p * q) ≤ 0 := by
      have h := (@sgn_iffs (f + 2 * -p) q (by assumption)).2.1
      have e : (f + 2 * -p) * q = f * q + -(2 * (p * q)) := by simp only [Int.sub_mul, Int.add_mul, Int.mul_neg, Int.neg_mul, Int.mul_assoc, Int.mul_comm q p]
      rw [e] at h; omega
    have r7f : 2 - f - 2 * -p ≤ 0 ↔ 2 * q - f * q + 2 * (p * q) ≤ 0 := by
      have h := (@sgn_iffs (2 - f - 2 * -p) q (by assumption)).2.1
      have e : (2 - f - 2 * -p) * q = 2 * q - f * q - -(2 * (p * q)) := by simp only [Int.sub_mul, Int.add_mul, Int.mul_neg, Int.neg_mul, Int.mul_assoc, Int.mul_comm q p]
      rw [e] at h; omega
    have r8f : 0 ≤ 2 - f ↔ 0 ≤ 2 * q - f * q := by
      have h := (@sgn_iffs (2 - f) q (by assumption)).1
      have e : (2 - f) * q = 2 * q - f * q := by simp only [Int.sub_mul, Int.add_mul, Int.mul_neg, Int.neg_mul, Int.mul_assoc, Int.mul_comm q p]
      rw [e] at h; omega
    have r9f : 2 - f ≤ 0 ↔ 2 * q - f * q ≤ 0 := by
      have h := (@sgn_iffs (2 - f) q (by assumption)).2.1
      have e : (2 - f) * q = 2 * q - f * q := by simp only [Int.sub_mul, Int.add_mul, Int.mul_neg, Int.neg_mul, Int.mul_assoc, Int.mul_comm q p]
      rw [e] at h; omega
    have r0f : 0 ≤ 2 - f - 2 * -p ↔ 0 ≤ 2 * q - f * q + 2 * (p * q) := by
      have h := (@sgn_iffs (2 - f - 2 * -p) q (by assumption)).1
      have e : (2 - f - 2 * -p) * q = 2 * q - f * q - -(2 * (p * q)) := by simp only [Int.sub_mul, Int.add_mul, Int.mul_neg, Int.neg_mul, Int.mul_assoc, Int.mul_comm q p]
      rw [e] at h; omega
    have r1g : 0 ≤ g ↔ 0 ≤ g * p := by
      have h := (@sgn_iffs (g) p (by assumption)).1
      have e : (g) * p = g * p := by simp only [Int.sub_mul, Int.add_mul, Int.mul_neg, Int.neg_mul, Int.mul_assoc, Int.mul_comm q p]
      rw [e] at h; omega
    have r2g : g < 2 ↔ g * p < 2 * p := by
      have h := (@sgn_iffs (g - 2) p (by assumption)).2.2
      have e : (g - 2) * p = g * p - 2 * p := by simp only [Int.sub_mul, Int.add_mul, Int.mul_neg, Int.neg_mul, Int.mul_assoc, Int.mul_comm q p]
      rw [e] at h; omega
    have r3g : 0 ≤ g + 2 * q ↔ 0 ≤ g * p + 2 * (p * q) := by
      have h := (@sgn_iffs (g + 2 * q) p (by assumption)).1
      have e : (g + 2 * q) * p = g * p + 2 * (p * q) := by simp only [Int.sub_mul, Int.add_mul, Int.mul_neg, Int.neg_mul, Int.mul_assoc, Int.mul_comm q p]
      rw [e] at h; omega
    have r4g : g + 2 * q < 2 ↔ g * p + 2 * (p * q) < 2 * p := by
      have h := (@sgn_iffs (g + 2 * q - 2) p (by assumption)).2.2
      have e : (g + 2 * q - 2) * p = g * p + 2 * (p * q) - 2 * p := by simp only [Int.sub_mul, Int.add_mul, Int.mul_neg, Int.neg_mul, Int.mul_assoc, Int.mul_comm q p]
      rw [e] at h; omega
    have r5g : g ≤ 0 ↔ g * p ≤ 0 := by
      have h := (@sgn_iffs (g) p (by assumption)).2.1
      have e : (g) * p = g * p := by simp only [Int.sub_mul, Int.add_mul, Int.mul_neg, Int.neg_mul, Int.mul_assoc, Int.mul_comm q p]
      rw [e] at h; omega
    have r6g : g + 2 * q ≤ 0 ↔ g * p + 2 * (p * q) ≤ 0 := by
      have h := (@sgn_iffs (g + 2 * q) p (by assumption)).2.1
      have e : (g + 2 * q) * p = g * p + 2 * (p * q) := by simp only [Int.sub_mul, Int.add_mul, Int.mul_neg, Int.neg_mul, Int.mul_assoc, Int.mul_comm q p]
      rw [e] at h; omega
    have r7g : 2 - g - 2 * q ≤ 0 ↔ 2 * p - g * p - 2 * (p * q) ≤ 0 := by
      have h := (@sgn_iffs (2 - g - 2 * q) p (by assumption)).2.1
      have e : (2 - g - 2 * q) * p = 2 * p - g * p - 2 * (p * q) := by simp only [Int.sub_mul, Int.add_mul, Int.mul_neg, Int.neg_mul, Int.mul_assoc, Int.mul_comm q p]
      rw [e] at h; omega
    have r8g : 0 ≤ 2 - g ↔ 0 ≤ 2 * p - g * p := by
      have h := (@sgn_iffs (2 - g) p (by assumption)).1
      have e : (2 - g) * p = 2 * p - g * p := by simp only [Int.sub_mul, Int.add_mul, Int.mul_neg, Int.neg_mul, Int.mul_assoc, Int.mul_comm q p]
      rw [e] at h; omega
    have r9g : 2 - g ≤ 0 ↔ 2 * p - g * p ≤ 0 := by
      have h := (@sgn_iffs (2 - g) p (by assumption)).2.1
      have e : (2 - g) * p = 2 * p - g * p := by simp only [Int.sub_mul, Int.add_mul, Int.mul_neg, Int.neg_mul, Int.mul_assoc, Int.mul_comm q p]
      rw [e] at h; omega
    have r0g : 0 ≤ 2 - g - 2 * q ↔ 0 ≤ 2 * p - g * p - 2 * (p * q) := by
      have h := (@sgn_iffs (2 - g - 2 * q) p (by assumption)).1
      have e : (2 - g - 2 * q) * p = 2 * p - g * p - 2 * (p * q) := by simp only [Int.sub_mul, Int.add_mul, Int.mul_neg, Int.neg_mul, Int.mul_assoc, Int.mul_comm q p]
      rw [e] at h; omega
    have e1 : max (-p) (-(-p)) = p := by omega
    have e2 : max (q) (-(q)) = q := by omega
    have g1 : sgn (-p) = -1 := by unfold sgn; rw [if_neg (by omega), if_pos (by omega)]
    have g2 : sgn (q) = 1 := by unfold sgn; rw [if_pos hq]
    have c1f := @prod_iff (f + 2 * -p) f (by omega)
    rw [Int.mul_comm] at c1f
    have c2f := @prod_iff (2 - f) (2 - f - 2 * -p) (by omega)
    have c1g := @prod_iff g (g + 2 * q) (by omega)
    have c2g := @prod_iff (2 - g - 2 * q) (2 - g) (by omega)
    rw [Int.mul_comm] at c2g
    simp only [Int.one_mul, Int.neg_one_mul]
    rw [endV_iff]
    unfold loV hiV refF
    simp only [if_neg (show ¬ (0 : Int) < 2 * -p by omega), if_pos (show 2 * -p < (0 : Int) by omega), if_pos (show (0 : Int) < 2 * q by omega)]
    simp only [sat_least, sat_most]
    simp only [c1f, c2f, c1g, c2g, e1, e2, g1, g2]
    clear c1f c2f c1g c2g e1 e2 g1 g2
    simp only [r1f, r2f, r3f, r4f, r5f, r6f, r7f, r8f, r9f, r0f, r1g, r2g, r3g, r4g, r5g, r6g, r7g, r8g, r9g, r0g]
    clear r1f r2f r3f r4f r5f r6f r7f r8f r9f r0f r1g r2g r3g r4g r5g r6g r7g r8g r9g r0g
    simp only [Int.mul_one, Int.mul_neg, Int.neg_mul, Int.neg_neg, Int.sub_neg, Int.sub_mul]
    generalize f * q = U at *
    generalize g * p = V at *
    generalize p * q = W at *
    unfold satP
    simp only [and_true, and_false, or_false, Bool.false_eq_true, reduceCtorEq, Bool.true_eq_false]
    omega
  · have i1 : -f * -1 * (2 * q) = 2 * (f * q) := m3 f q
    have i2 : (2 - f) * -1 * (2 * q) = -(4 * q) + 2 * (f * q) := m4 f q
    have i3 : -g * -1 * (2 * p) = 2 * (g * p) := m3 g p
    have i4 : (2 - g) * -1 * (2 * p) = -(4 * p) + 2 * (g * p) := m4 g p
    rw [i1, i2, i3, i4]
    clear i1 i2 i3 i4
    have r1f : 0 ≤ f ↔ 0 ≤ f * q := by
      have h := (@sgn_iffs (f) q (by assumption)).1
      have e : (f) * q = f * q := by simp only [Int.sub_mul, Int.add_mul, Int.mul_neg, Int.neg_mul, Int.mul_assoc, Int.mul_comm q p]
      rw [e] at h; omega
    have r2f : f < 2 ↔ f * q < 2 * q := by
      have h := (@sgn_iffs (f - 2) q (by assumption)).2.2
      have e : (f - 2) * q = f * q - 2 * q := by simp only [Int.sub_mul, Int.add_mul, Int.mul_neg, Int.neg_mul, Int.mul_assoc, Int.mul_comm q p]
      rw [e] at h; omega
    have r3f : 0 ≤ f + 2 * -p ↔ 0 ≤ f * q - 2 * (p * q) := by
      have h := (@sgn_iffs (f + 2 * -p) q (by assumption)).1
      have e : (f + 2 * -p) * q = f * q + -(2 * (p * q)) := by simp only [Int.sub_mul, Int.add_mul, Int.mul_neg, Int.neg_mul, Int.mul_assoc, Int.mul_comm q p]
      rw [e] at h; omega
    have r4f : f + 2 * -p < 2 ↔ f * q - 2 * (p * q) < 2 * q := by
      have h := (@sgn_iffs (f + 2 * -p - 2) q (by assumption)).2.2
      have e : (f + 2 * -p - 2) * q = f * q + -(2 * (p * q)) - 2 * q := by simp only [Int.sub_mul, Int.add_mul, Int.mul_neg, Int.neg_mul, Int.mul_assoc, Int.mul_comm q p]
      rw [e] at h; omega
    have r5f : f ≤ 0 ↔ f * q ≤ 0 := by
      have h := (@sgn_iffs (f) q (by assumption)).2.1
      have e : (f) * q = f * q := by simp only [Int.sub_mul, Int.add_mul, Int.mul_neg, Int.neg_mul, Int.mul_assoc, Int.mul_comm q p]
      rw [e] at h; omega
    have r6f : f + 2 * -p ≤ 0 ↔ f * q - 2 * (p * q) ≤ 0 := by
      have h := (@sgn_iffs (f + 2 * -p) q (by assumption)).2.1
      have e : (f + 2 * -p) * q = f * q + -(2 * (p * q)) := by simp only [Int.sub_mul, Int.add_mul, Int.mul_neg, Int.neg_mul, Int.mul_assoc, Int.mul_comm q p]
      rw [e] at h; omega
    have r7f : 2 - f - 2 * -p ≤ 0 ↔ 2 * q - f * q + 2 * (p * q) ≤ 0 := by
      have h := (@sgn_iffs (2 - f - 2 * -p) q (by assumption)).2.1
      have e : (2 - f - 2 * -p) * q = 2 * q - f * q - -(2 * (p * q)) := by simp only [Int.sub_mul, Int.add_mul, Int.mul_neg, Int.neg_mul, Int.mul_assoc, Int.mul_comm q p]
      rw [e] at h; omega
    have r8f : 0 ≤ 2 - f ↔ 0 ≤ 2 * q - f * q := by
      have h := (@sgn_iffs (2 - f) q (by assumption)).1
      have e : (2 - f) * q = 2 * q - f * q := by simp only [Int.sub_mul, Int.add_mul, Int.mul_neg, Int.neg_mul, Int.mul_assoc, Int.mul_comm q p]
      rw [e] at h; omega
    have r9f : 2 - f ≤ 0 ↔ 2 * q - f * q ≤ 0 := by
      have h := (@sgn_iffs (2 - f) q (by assumption)).2.1
      have e : (2 - f) * q = 2 * q - f * q := by simp only [Int.sub_mul, Int.add_mul, Int.mul_neg, Int.neg_mul, Int.mul_assoc, Int.mul_comm q p]
      rw [e] at h; omega
    have r0f : 0 ≤ 2 - f - 2 * -p ↔ 0 ≤ 2 * q - f * q + 2 * (p * q) := by
      have h := (@sgn_iffs (2 - f - 2 * -p) q (by assumption)).1
      have e : (2 - f - 2 * -p) * q = 2 * q - f * q - -(2 * (p * q)) := by simp only [Int.sub_mul, Int.add_mul, Int.mul_neg, Int.neg_mul, Int.mul_assoc, Int.mul_comm q p]
      rw [e] at h; omega
    have r1g : 0 ≤ g ↔ 0 ≤ g * p := by
      have h := (@sgn_iffs (g) p (by assumption)).1
      have e : (g) * p = g * p := by simp only [Int.sub_mul, Int.add_mul, Int.mul_neg, Int.neg_mul, Int.mul_assoc, Int.mul_comm q p]
      rw [e] at h; omega
    have r2g : g < 2 ↔ g * p < 2 * p := by
      have h := (@sgn_iffs (g - 2) p (by assumption)).2.2
      have e : (g - 2) * p = g * p - 2 * p := by simp only [Int.sub_mul, Int.add_mul, Int.mul_neg, Int.neg_mul, Int.mul_assoc, Int.mul_comm q p]
      rw [e] at h; omega
    have r3g : 0 ≤ g + 2 * -q ↔ 0 ≤ g * p - 2 * (p * q) := by
      have h := (@sgn_iffs (g + 2 * -q) p (by assumption)).1
      have e : (g + 2 * -q) * p = g * p + -(2 * (p * q)) := by simp only [Int.sub_mul, Int.add_mul, Int.mul_neg, Int.neg_mul, Int.mul_assoc, Int.mul_comm q p]
      rw [e] at h; omega
    have r4g : g + 2 * -q < 2 ↔ g * p - 2 * (p * q) < 2 * p := by
      have h := (@sgn_iffs (g + 2 * -q - 2) p (by assumption)).2.2
      have e : (g + 2 * -q - 2) * p = g * p + -(2 * (p * q)) - 2 * p := by simp only [Int.sub_mul, Int.add_mul, Int.mul_neg, Int.neg_mul, Int.mul_assoc, Int.mul_comm q p]
      rw [e] at h; omega
    have r5g : g ≤ 0 ↔ g * p ≤ 0 := by
      have h := (@sgn_iffs (g) p (by assumption)).2.1
      have e : (g) * p = g * p := by simp only [Int.sub_mul, Int.add_mul, Int.mul_neg, Int.neg_mul, Int.mul_assoc, Int.mul_comm q p]
      rw [e] at h; omega
    have r6g : g + 2 * -q ≤ 0 ↔ g * p - 2 * (p * q) ≤ 0 := by
      have h := (@sgn_iffs (g + 2 * -q) p (by assumption)).2.1
      have e : (g + 2 * -q) * p = g * p + -(2 * (p * q)) := by simp only [Int.sub_mul, Int.add_mul, Int.mul_neg, Int.neg_mul, Int.mul_assoc, Int.mul_comm q p]
      rw [e] at h; omega
    have r7g : 2 - g - 2 * -q ≤ 0 ↔ 2 * p - g * p + 2 * (p * q) ≤ 0 := by
      have h := (@sgn_iffs (2 - g - 2 * -q) p (by assumption)).2.1
      have e : (2 - g - 2 * -q) * p = 2 * p - g * p - -(2 * (p * q)) := by simp only [Int.sub_mul, Int.add_mul, Int.mul_neg, Int.neg_mul, Int.mul_assoc, Int.mul_comm q p]
      rw [e] at h; omega
    have r8g : 0 ≤ 2 - g ↔ 0 ≤ 2 * p - g * p := by
      have h := (@sgn_iffs (2 - g) p (by assumption)).1
      have e : (2 - g) * p = 2 * p - g * p := by simp only [Int.sub_mul, Int.add_mul, Int.mul_neg, Int.neg_mul, Int.mul_assoc, Int.mul_comm q p]
      rw [e] at h; omega
    have r9g : 2 - g ≤ 0 ↔ 2 * p - g * p ≤ 0 := by
      have h := (@sgn_iffs (2 - g) p (by assumption)).2.1
      have e : (2 - g) * p = 2 * p - g * p := by simp only [Int.sub_mul, Int.add_mul, Int.mul_neg, Int.neg_mul, Int.mul_assoc, Int.mul_comm q p]
      rw [e] at h; omega
    have r0g : 0 ≤ 2 - g - 2 * -q ↔ 0 ≤ 2 * p - g * p + 2 * (p * q) := by
      have h := (@sgn_iffs (2 - g - 2 * -q) p (by assumption)).1
      have e : (2 - g - 2 * -q) * p = 2 * p - g * p - -(2 * (p * q)) := by simp only [Int.sub_mul, Int.add_mul, Int.mul_neg, Int.neg_mul, Int.mul_assoc, Int.mul_comm q p]
      rw [e] at h; omega
    have e1 : max (-p) (-(-p)) = p := by omega
    have e2 : max (-q) (-(-q)) = q := by omega
    have g1 : sgn (-p) = -1 := by unfold sgn; rw [if_neg (by omega), if_pos (by omega)]
    have g2 : sgn (-q) = -1 := by unfold sgn; rw [if_neg (by omega), if_pos (by omega)]
    have c1f := @prod_iff (f + 2 * -p) f (by omega)
    rw [Int.mul_comm] at c1f
    have c2f := @prod_iff (2 - f) (2 - f - 2 * -p) (by omega)
    have c1g := @prod_iff (g + 2 * -q) g (by omega)
    rw [Int.mul_comm] at c1g
    have c2g := @prod_iff (2 - g) (2 - g - 2 * -q) (by omega)
    simp only [Int.one_mul, Int.neg_one_mul]
    rw [endV_iff]
    unfold loV hiV refF
    simp only [if_neg (show ¬ (0 : Int) < 2 * -p by omega), if_pos (show 2 * -p < (0 : Int) by omega), if_neg (show ¬ (0 : Int) < 2 * -q by omega), if_pos (show 2 * -q < (0 : Int) by omega)]
    simp only [sat_least, sat_most]
    simp only [c1f, c2f, c1g, c2g, e1, e2, g1, g2]
    clear c1f c2f c1g c2g e1 e2 g1 g2
    simp only [r1f, r2f, r3f, r4f, r5f, r6f, r7f, r8f, r9f, r0f, r1g, r2g, r3g, r4g, r5g, r6g, r7g, r8g, r9g, r0g]
    clear r1f r2f r3f r4f r5f r6f r7f r8f r9f r0f r1g r2g r3g r4g r5g r6g r7g r8g r9g r0g
    simp only [Int.mul_one, Int.mul_neg, Int.neg_mul, Int.neg_neg, Int.sub_neg, Int.sub_mul]
    generalize f * q = U at *
    generalize g * p = V at *
    generalize p * q = W at *
    unfold satP
    simp only [and_true, and_false, or_false, Bool.false_eq_true, reduceCtorEq, Bool.true_eq_false]
    omega

end Go.Proofs.Ytcckekdfeeghaaa
