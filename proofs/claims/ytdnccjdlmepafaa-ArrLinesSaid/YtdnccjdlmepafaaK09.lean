/-
  The library's sort over segments, the closure of hot.edges, Compact over a row of one's own; The walk of hot.edges; The walk of hot.through; What hot.Chains computes; an append to a slice that is full; The walk of hot.Chains; Plain law: snap rounding. Pieces of two segments that do not meet, and in whose pixels no end of the other lies, do not meet when they are rounded; Plain law: hot.Meets says whether some point of the segment lies in the pixel; Plain laws of rounded chains: points met by a segment, in its direction. Conditions: those that each lemma names.
-/
import Derived.Test.YtdnccjdlmepafaaK08
import Derived.Test.YtdnccjdlmepafaaK04
import Derived.Test.YtdnccjdlmepafaaK03
import Derived.Test.YtdnccjdlmepafaaK01
section
namespace Go.Proofs.Ytdnccjdlmepafaa
set_option linter.unusedSimpArgs false
set_option linter.unusedVariables false
open Go.RowKit Go.BigFrame Go.Shelf Go.Lib Go.Proofs
attribute [local go_sem ↓] eqPt neqPt
theorem sgV_len (s : Sg) : (sgV s).length = 4 := rfl
section
variable {w : World} {B g n c m : Nat} {l l' : List Sg} {os : Array Obj}
end


theorem grown_since (w : World) (q : Nat) (os : Array Obj) : Since w (Go.Sort.grow (w.drewN q) os) :=
  ⟨rfl, rfl, rfl, by simp [Go.Sort.grow, World.drewN], fun i hi => by
    have h1 : (Go.Sort.grow (w.drewN q) os).heap = w.heap ++ os := rfl
    rw [h1, Array.getElem?_append_left hi]⟩
/-- The closure of edges. -/
def cmpS (s t : Sg) : Int := if cmpP s.1 t.1 = 0 then cmpP s.2 t.2 else cmpP s.1 t.1
def lxG (s t : Sg) : Bool := lxB s.1 t.1 || (decide (s.1 = t.1) && lxB s.2 t.2)
theorem cmpP_zero (a b : Pt2) : cmpP a b = 0 ↔ a = b := by
  unfold cmpP cmpI
  constructor
  · intro h
    repeat' split at h
    all_goals first | exact absurd h (by omega) | exact Prod.ext (by omega) (by omega)
  · rintro rfl; simp
theorem cmpS_lt (s t : Sg) : Go.Proofs.ltOf cmpS s t = lxG s t := by
  have h1 := cmpP_lt s.1 t.1
  have h2 := cmpP_lt s.2 t.2
  unfold Go.Proofs.ltOf at *
  unfold cmpS lxG
  rw [← h1, ← h2]
  by_cases h : s.1 = t.1
  · rw [if_pos ((cmpP_zero _ _).2 h), (cmpP_zero _ _).2 h]; simp [h]
  · rw [if_neg (fun k => h ((cmpP_zero _ _).1 k))]; simp [h]
theorem lxB_lx {a b : Pt2} : lxB a b = true ↔ lx a b := by unfold lxB lx; simp only [Bool.or_eq_true, Bool.and_eq_true, decide_eq_true_eq]
theorem lxG_iff {s t : Sg} : lxG s t = true ↔ lx s.1 t.1 ∨ (s.1 = t.1 ∧ lx s.2 t.2) := by unfold lxG; rw [Bool.or_eq_true, Bool.and_eq_true, decide_eq_true_eq, lxB_lx, lxB_lx]
theorem lxG_irr (x : Sg) : lxG x x = false := by
  rw [Bool.eq_false_iff]; intro h
  rcases lxG_iff.1 h with h | h
  · exact lx_irr _ h
  · exact lx_irr _ h.2
/-- Segments in their order. -/
def srtG (l : List Sg) : List Sg := l.mergeSort fun x y => !lxG y x
end Go.Proofs.Ytdnccjdlmepafaa
end
section
namespace Go.Proofs.Ytdnccjdlmepafaa
set_option linter.unusedSimpArgs false
set_option linter.unusedVariables false
open Go.RowKit Go.BigFrame
attribute [local go_sem ↓] eqPt neqPt
def chAt (cs : List (List Pt2)) (i : Nat) : List Pt2 := cs.getD i []
/-- The slice v reads as the chains cs. -/
def ChS (w : World) (v : Value) (cs : List (List Pt2)) : Prop :=
  ∃ (g : Nat) (c : Nat), v = .slice (some ⟨g, 0, none⟩) cs.length c ∧ ∀ i, i < cs.length → ∃ v', w.cell? ⟨g, i, none⟩ = some v' ∧ PtsS w v' (chAt cs i)
theorem ChS.since {w w' : World} {v : Value} {cs : List (List Pt2)} (h : ChS w v cs) (k : Since w w') : ChS w' v cs := by
  obtain ⟨g, c, hv, h⟩ := h
  refine ⟨g, c, hv, fun i hi => ?_⟩
  obtain ⟨v', h1, h2⟩ := h i hi
  exact ⟨v', keepC k _ _ h1, h2.since k⟩
/-- A segment with its lesser end first. -/
def ordE (p q : Pt2) : Sg := if 0 < cmpP p q then (q, p) else (p, q)
/-- The first n segments of a chain; those of the first k chains. -/
def edgC (c : List Pt2) (n : Nat) : List Sg := (List.range n).map fun i => ordE (pAt c i) (pAt c (i + 1))
def edgA (cs : List (List Pt2)) (k : Nat) : List Sg := (List.range k).flatMap fun i => edgC (chAt cs i) ((chAt cs i).length - 1)
def edgL (cs : List (List Pt2)) : List Sg := cmpG (srtG (edgA cs cs.length))
theorem cell4_new (w : World) (x y z u : Value) (t : TypeId) : ∀ j v, [x, y, z, u][j]? = some v → (w.alloc (.cells #[x, y, z, u] t)).cell? ((⟨w.heap.size, 0, none⟩ : Addr).add j) = some v := by
  intro j v hv
  rcases j with _ | _ | _ | _ | j
  · rw [← hv]; exact (Blk.new w t #[x, y, z, u]).cell 0
  · rw [← hv]; exact (Blk.new w t #[x, y, z, u]).cell 1
  · rw [← hv]; exact (Blk.new w t #[x, y, z, u]).cell 2
  · rw [← hv]; exact (Blk.new w t #[x, y, z, u]).cell 3
  · simp at hv
theorem one4 (k k' k'' k3 : IntKind) (a b c d : Int) : ∀ u ∈ [Value.int k a, .int k' b, .int k'' c, .int k3 d], u.oneCell' = true := by
  intro u hu
  simp only [List.mem_cons, List.not_mem_nil, or_false] at hu
  rcases hu with rfl | rfl | rfl | rfl <;> rfl

end Go.Proofs.Ytdnccjdlmepafaa
end
section
namespace Go.Proofs.Ytdnccjdlmepafaa
set_option linter.unusedSimpArgs false
set_option linter.unusedVariables false
open Go.RowKit Go.BigFrame
attribute [local go_sem ↓] eqPt neqPt
def metB (a b p : Pt2) : Bool := meetsV a.1 a.2 b.1 b.2 p.1 p.2
/-- What through gives: the points met, in the direction. -/
def Thru (a b : Pt2) (H l : List Pt2) : Prop := l.Perm (H.filter (metB a b)) ∧ l.Pairwise fun x y => 0 ≤ dirV a b y x

end Go.Proofs.Ytdnccjdlmepafaa
end
section
namespace Go.Proofs.Ytdnccjdlmepafaa
set_option linter.unusedSimpArgs false
set_option linter.unusedVariables false
open Go.RowKit Go.BigFrame

/-- The points met, in the direction. -/
def thrL (a b : Pt2) (H : List Pt2) : List Pt2 := (H.filter (metB a b)).mergeSort fun x y => !decide (dirV a b y x < 0)
def nextG (H c : List Pt2) (n : Nat) : List Pt2 := (List.range n).flatMap fun i => (thrL (pAt c i) (pAt c (i + 1)) H).tail
/-- A chain, one round on. -/
def nextC (H c : List Pt2) : List Pt2 := pAt c 0 :: nextG H c (c.length - 1)
def stepC (cs : List (List Pt2)) : List (List Pt2) := cs.map (nextC (hotL (edgL cs)))
/-- Slot next of a round: the first point, as it lies in the old chain; or a row of one's own. -/
def NxS (w : World) (B : Nat) (v : Value) (l : List Pt2) : Prop :=
  (∃ g p, v = .slice (some ⟨g, 0, none⟩) 1 1 ∧ l = [p] ∧ g < B ∧ w.cell? ⟨g, 0, none⟩ = some (.int .i64 p.1) ∧ w.cell? ⟨g, 1, none⟩ = some (.int .i64 p.2)) ∨ w.ownsRow B 34 2 v l.length (l.flatMap ptV)
theorem NxS.slice {w : World} {B : Nat} {v : Value} {l : List Pt2} (h : NxS w B v l) : ∃ a c, v = .slice a l.length c := by
  rcases h with ⟨g, p, hv, hl, -⟩ | h
  · exact ⟨_, 1, by rw [hv, hl]; rfl⟩
  · exact own_slice h
theorem NxS.since {w w' : World} {B : Nat} {v : Value} {l : List Pt2} (h : NxS w B v l) (hs : Since w w') : NxS w' B v l := by
  rcases h with ⟨g, p, hv, hl, hg, h1, h2⟩ | h
  · exact .inl ⟨g, p, hv, hl, hg, keepC hs _ _ h1, keepC hs _ _ h2⟩
  · exact .inr (own_since hs h)
end Go.Proofs.Ytdnccjdlmepafaa
end
section
namespace Go.Proofs.Ytdnccjdlmepafaa
set_option linter.unusedSimpArgs false
set_option linter.unusedVariables false
open Go.RowKit Go.BigFrame
attribute [local go_sem ↓] eqPt neqPt
/-- The slice v reads as the points c, in a block behind g5. -/
def SlP (w : World) (v : Value) (c : List Pt2) (g5 : Nat) : Prop :=
  ∃ g cap, v = .slice (some ⟨g, 0, none⟩) c.length cap ∧ c.length ≤ cap ∧ g5 < g ∧ g < w.heap.size ∧ ∀ j, j < c.length → w.cell? ⟨g, j * 2, none⟩ = some (.int .i64 (pAt c j).1) ∧ w.cell? ⟨g, j * 2 + 1, none⟩ = some (.int .i64 (pAt c j).2)
theorem SlP.since {w w' : World} {v : Value} {c : List Pt2} {g5 : Nat} (h : SlP w v c g5) (k : Since w w') : SlP w' v c g5 := by
  obtain ⟨g, cap, hv, hc, hg, hl, h⟩ := h
  exact ⟨g, cap, hv, hc, hg, Nat.lt_of_lt_of_le hl k.size, fun j hj => ⟨keepC k _ _ (h j hj).1, keepC k _ _ (h j hj).2⟩⟩
theorem SlP.only {w w' : World} {v : Value} {c : List Pt2} {g5 : Nat} (h : SlP w v c g5) (k : Only g5 w w') : SlP w' v c g5 := by
  obtain ⟨g, cap, hv, hc, hg, hl, h⟩ := h
  exact ⟨g, cap, hv, hc, hg, Nat.lt_of_lt_of_le hl k.size, fun j hj => ⟨keepOC k _ _ (by dsimp only; omega) (h j hj).1, keepOC k _ _ (by dsimp only; omega) (h j hj).2⟩⟩
/-- Block g5 holds chains, of which the first k read as those of cs. -/
def VG (w : World) (g5 : Nat) (cs : List (List Pt2)) (k : Nat) : Prop :=
  ∃ vals : List Value, Blk w g5 22 vals.toArray ∧ vals.length = cs.length ∧ ∀ i, i < k → SlP w (vals.getD i undef) (chAt cs i) g5
theorem VG.since {w w' : World} {g5 : Nat} {cs : List (List Pt2)} {k : Nat} (h : VG w g5 cs k) (s : Since w w') : VG w' g5 cs k := by
  obtain ⟨vals, hb, hl, h⟩ := h
  exact ⟨vals, s.blk hb, hl, fun i hi => (h i hi).since s⟩
/-- A chain is stored. -/
theorem VG.set {w w' : World} {g5 : Nat} {cs cs' : List (List Pt2)} {n i : Nat} {v : Value} (h : VG w g5 cs n) (hs : Since w w') (hn : cs'.length = cs.length) (hi : i < cs.length) (hv : SlP w' v (chAt cs' i) g5) (hne : ∀ j, j < n → j ≠ i → chAt cs' j = chAt cs j) (m : Nat) (hm : ∀ j, j < m → j < n ∨ j = i) :
    VG (w'.setCell ⟨g5, i, none⟩ v) g5 cs' m ∧ Only g5 w' (w'.setCell ⟨g5, i, none⟩ v) := by
  obtain ⟨vals, hb, hl, h⟩ := h
  have ho : Only g5 w' (w'.setCell ⟨g5, i, none⟩ v) := ((Since.rfl_ w').only g5).setCell (.inl rfl) v
  refine ⟨⟨vals.set i v, ?_, by rw [List.length_set, hl, hn], fun j hj => ?_⟩, ho⟩
  · have := (hs.blk hb).set_ i v
    simpa using this
  · by_cases e : j = i
    · subst e
      have : (vals.set j v).getD j undef = v := by simp [List.getD, show j < vals.length by omega]
      rw [this]; exact hv.only ho
    · have hj' : j < n := by rcases hm j hj with h | h <;> first | exact h | exact absurd h e
      have : (vals.set i v).getD j undef = vals.getD j undef := by simp [List.getD, List.getElem?_set, Ne.symm e]
      rw [this, hne j hj' e]; exact ((h j hj').since hs).only ho
/-- The chains of the segments. -/
def cs0 (l : List Sg) : List (List Pt2) := l.map fun s => [s.1, s.2]
end Go.Proofs.Ytdnccjdlmepafaa
end
section
namespace Go.Proofs.Ytdnccjdlmepafaa
set_option linter.unusedVariables false

abbrev Q2 := Rat × Rat
/-- The point at l of the way from P to Q. -/
def lerp (P Q : Q2) (l : Rat) : Q2 := (P.1 + l * (Q.1 - P.1), P.2 + l * (Q.2 - P.2))
def I01 (l : Rat) : Prop := 0 ≤ l ∧ l ≤ 1
def Box (d : Rat) : Prop := -1 / 2 ≤ d ∧ d < 1 / 2
def inP (h X : Q2) : Prop := Box (X.1 - h.1) ∧ Box (X.2 - h.2)
end Go.Proofs.Ytdnccjdlmepafaa
end
section
namespace Go.Proofs.Ytdnccjdlmepafaa
set_option linter.unusedSimpArgs false
set_option linter.unusedVariables false
open Go.RowKit

theorem bnd_raw2 {n d n' d' : Int} (h1 : n.natAbs ≤ 16777216) (h2 : n'.natAbs ≤ 16777216) (h3 : d.natAbs ≤ 16777216) (h4 : d'.natAbs ≤ 16777216) :
    bndCmp n d n' d' = if n * d' < n' * d then -1 else if n' * d < n * d' then 1 else 0 := by
  have a1 := mul_bd h1 h4
  have a2 := mul_bd h2 h3
  unfold bndCmp
  have w1 : RowKit.wrap64 (n * d') = n * d' := wrap_id (by omega)
  have w2 : RowKit.wrap64 (n' * d) = n' * d := wrap_id (by omega)
  rw [w1, w2, wrap_id (by omega)]
  (repeat' split) <;> omega
def satLo (b : Bnd) (t : Rat) : Prop := if b.2.2 = true then (b.1 : Rat) ≤ t * b.2.1 else (b.1 : Rat) < t * b.2.1
def satHi (b : Bnd) (t : Rat) : Prop := if b.2.2 = true then t * b.2.1 ≤ (b.1 : Rat) else t * b.2.1 < (b.1 : Rat)
def bOk (b : Bnd) : Prop := 0 < b.2.1 ∧ b.2.1 ≤ 16777216 ∧ b.1.natAbs ≤ 16777216
theorem cross_lt {n d n' d' : Int} (hd : 0 < d) (hd' : 0 < d') {t t' : Rat} (h : t * d = n) (h' : t' * d' = n') : n * d' < n' * d ↔ t < t' := by
  have p : (0 : Rat) < d := by exact_mod_cast hd
  have p' : (0 : Rat) < d' := by exact_mod_cast hd'
  have e : (n * d' < n' * d) ↔ ((n : Rat) * d' < n' * d) := by constructor <;> intro k <;> exact_mod_cast k
  rw [e, ← h, ← h']
  constructor
  · intro k
    refine Classical.byContradiction fun hn => ?_
    have := Rat.mul_nonneg (a := t - t') (b := (d : Rat) * d') (by grind) (Rat.mul_nonneg (Rat.le_of_lt p) (Rat.le_of_lt p'))
    grind
  · intro k
    have := Rat.mul_pos (a := t' - t) (b := (d : Rat) * d') (by grind) (Rat.mul_pos p p')
    grind
theorem b_val {b : Bnd} (h : bOk b) : ∃ t : Rat, t * b.2.1 = b.1 := by
  have p : (0 : Rat) < (b.2.1 : Rat) := by exact_mod_cast h.1
  exact ⟨(b.1 : Rat) * (b.2.1 : Rat)⁻¹, by have := Rat.mul_inv_cancel (b.2.1 : Rat) (by grind); grind⟩
theorem sat_lo_iff {b : Bnd} (h : bOk b) {v : Rat} (hv : v * b.2.1 = b.1) (t : Rat) : satLo b t ↔ v < t ∨ (v = t ∧ b.2.2 = true) := by
  have p : (0 : Rat) < (b.2.1 : Rat) := by exact_mod_cast h.1
  have key : (v < t ↔ (b.1 : Rat) < t * b.2.1) ∧ (v = t ↔ (b.1 : Rat) = t * b.2.1) := by
    rw [← hv]
    refine ⟨⟨fun k => ?_, fun k => ?_⟩, fun k => by rw [k], fun k => ?_⟩
    · have := Rat.mul_pos (a := t - v) (b := (b.2.1 : Rat)) (by grind) p
      grind
    · refine Classical.byContradiction fun hn => ?_
      have := Rat.mul_nonneg (a := v - t) (b := (b.2.1 : Rat)) (by grind) (Rat.le_of_lt p)
      grind
    · have : (v - t) * (b.2.1 : Rat) = 0 := by grind
      rcases Rat.mul_eq_zero.1 this with k | k <;> grind
  unfold satLo
  rw [key.1, key.2]
  split <;> grind
theorem sat_hi_iff {b : Bnd} (h : bOk b) {v : Rat} (hv : v * b.2.1 = b.1) (t : Rat) : satHi b t ↔ t < v ∨ (v = t ∧ b.2.2 = true) := by
  have p : (0 : Rat) < (b.2.1 : Rat) := by exact_mod_cast h.1
  have key : (t < v ↔ t * b.2.1 < (b.1 : Rat)) ∧ (v = t ↔ (b.1 : Rat) = t * b.2.1) := by
    rw [← hv]
    refine ⟨⟨fun k => ?_, fun k => ?_⟩, fun k => by rw [k], fun k => ?_⟩
    · have := Rat.mul_pos (a := v - t) (b := (b.2.1 : Rat)) (by grind) p
      grind
    · refine Classical.byContradiction fun hn => ?_
      have := Rat.mul_nonneg (a := t - v) (b := (b.2.1 : Rat)) (by grind) (Rat.le_of_lt p)
      grind
    · have : (v - t) * (b.2.1 : Rat) = 0 := by grind
      rcases Rat.mul_eq_zero.1 this with k | k <;> grind
  unfold satHi
  rw [key.1, key.2]
  split <;> grind
theorem cmp_val {b b' : Bnd} (h : bOk b) (h' : bOk b') {v v' : Rat} (hv : v * b.2.1 = b.1) (hv' : v' * b'.2.1 = b'.1) : bndCmp b.1 b.2.1 b'.1 b'.2.1 = if v < v' then -1 else if v' < v then 1 else 0 := by
  obtain ⟨p1, p2, p3⟩ := h
  obtain ⟨q1, q2, q3⟩ := h'
  rw [bnd_raw2 p3 q3 (by omega) (by omega)]
  have e1 := cross_lt p1 q1 hv hv'
  have e2 := cross_lt q1 p1 hv' hv
  simp only [e1, e2]
theorem least_sat {lo : Bnd} {n d : Int} {c : Bool} (h : bOk lo) (h' : bOk (bnN n d, bnD d, c)) (t : Rat) : satLo (leastLo lo n d c) t ↔ satLo lo t ∧ satLo (bnN n d, bnD d, c) t := by
  obtain ⟨v, hv⟩ := b_val h
  obtain ⟨v', hv'⟩ := b_val h'
  have hc := cmp_val h' h hv' hv
  rw [sat_lo_iff h hv, sat_lo_iff h' hv']
  unfold leastLo
  dsimp only at hc
  split <;> rename_i k <;> unfold leastT at k <;> (try dsimp only at k) <;> rw [hc] at k
  · rw [sat_lo_iff h' hv']
    dsimp only
    grind
  · rw [sat_lo_iff h hv]
    grind
theorem most_sat {hi : Bnd} {n d : Int} {c : Bool} (h : bOk hi) (h' : bOk (bnN n d, bnD d, c)) (t : Rat) : satHi (mostHi hi n d c) t ↔ satHi hi t ∧ satHi (bnN n d, bnD d, c) t := by
  obtain ⟨v, hv⟩ := b_val h
  obtain ⟨v', hv'⟩ := b_val h'
  have hc := cmp_val h' h hv' hv
  rw [sat_hi_iff h hv, sat_hi_iff h' hv']
  unfold mostHi
  dsimp only at hc
  split <;> rename_i k <;> unfold mostT at k <;> (try dsimp only at k) <;> rw [hc] at k
  · rw [sat_hi_iff h' hv']
    dsimp only
    grind
  · rw [sat_hi_iff h hv]
    grind
theorem end_sat {lo hi : Bnd} (h : bOk lo) (h' : bOk hi) : endE lo hi = true ↔ ∃ t, satLo lo t ∧ satHi hi t := by
  obtain ⟨v, hv⟩ := b_val h
  obtain ⟨v', hv'⟩ := b_val h'
  have hc := cmp_val h h' hv hv'
  have k1 := fun t => sat_lo_iff h hv t
  have k2 := fun t => sat_hi_iff h' hv' t
  simp only [k1, k2]
  unfold endE
  rw [hc]
  by_cases h1 : v < v'
  · have : ∃ t : Rat, (v < t ∨ v = t ∧ lo.2.2 = true) ∧ (t < v' ∨ v' = t ∧ hi.2.2 = true) := ⟨(v + v') / 2, by grind⟩
    simp [h1, this]
  · by_cases h2 : v' < v
    · have : ¬ ∃ t : Rat, (v < t ∨ v = t ∧ lo.2.2 = true) ∧ (t < v' ∨ v' = t ∧ hi.2.2 = true) := by rintro ⟨t, ht⟩; grind
      simp [h1, h2, this]
    · have e : v = v' := by grind
      subst e
      have hi' : ¬ v < v := by grind
      simp only [hi', if_false]
      simp
      constructor
      · rintro ⟨a, b⟩
        exact ⟨v, .inr ⟨rfl, a⟩, .inr ⟨rfl, b⟩⟩
      · rintro ⟨t, ht⟩
        grind
theorem bOk_bn {n d : Int} {c : Bool} (hd : d ≠ 0) (h1 : n.natAbs ≤ 8388608) (h2 : d.natAbs ≤ 8388608) : bOk (bnN n d, bnD d, c) := by
  have e1 : wrap64 (-n) = -n := wrap_id (by omega)
  have e2 : wrap64 (-d) = -d := wrap_id (by omega)
  unfold bOk bnN bnD
  dsimp only
  rw [e1, e2]
  split <;> omega
/-- 0 <= f + t * d < 2. -/
def strip (f d : Int) (t : Rat) : Prop := 0 ≤ (f : Rat) + t * d ∧ (f : Rat) + t * d < 2
theorem cut_sat {lo hi : Bnd} {f d : Int} (h : bOk lo) (h' : bOk hi) (h1 : f.natAbs ≤ 8388600) (h2 : d.natAbs ≤ 8388608) :
    bOk (cutLo lo f d) ∧ bOk (cutHi hi f d) ∧ (cutOk f d = true → ∀ t, satLo (cutLo lo f d) t ∧ satHi (cutHi hi f d) t ↔ (satLo lo t ∧ satHi hi t) ∧ strip f d t) ∧ (cutOk f d = false → ∀ t, ¬ strip f d t) := by
  have e1 : wrap64 (-f) = -f := wrap_id (by omega)
  have e0 : wrap64 (-(-f)) = f := by rw [Int.neg_neg]; exact wrap_id (by omega)
  have e2 : wrap64 (-d) = -d := wrap_id (by omega)
  have e3 : wrap64 (-(2 - f)) = -(2 - f) := wrap_id (by omega)
  have pick : ∀ (b : Bnd) (n d : Int) (c : Bool), bOk b → bOk (bnN n d, bnD d, c) → bOk (leastLo b n d c) ∧ bOk (mostHi b n d c) := by
    intro b n d c k k'
    unfold leastLo mostHi
    constructor <;> split <;> assumption
  rcases Int.lt_trichotomy d 0 with hd | hd | hd
  · have b1 : bOk (bnN (2 - f) d, bnD d, false) := bOk_bn (by omega) (by omega) h2
    have b2 : bOk (bnN (-f) d, bnD d, true) := bOk_bn (by omega) (by omega) h2
    have c1 : cutLo lo f d = leastLo lo (2 - f) d false := by unfold cutLo; rw [if_neg (by omega), if_pos hd]
    have c2 : cutHi hi f d = mostHi hi (-f) d true := by unfold cutHi; rw [if_neg (by omega), if_pos hd]
    have c3 : cutOk f d = true := by unfold cutOk; rw [if_neg (by omega), if_pos hd]
    rw [c1, c2, c3]
    refine ⟨(pick _ _ _ _ h b1).1, (pick _ _ _ _ h' b2).2, fun _ t => ?_, fun k => by cases k⟩
    rw [least_sat h b1, most_sat h' b2]
    have : (satLo (bnN (2 - f) d, bnD d, false) t ∧ satHi (bnN (-f) d, bnD d, true) t) ↔ strip f d t := by
      unfold satLo satHi strip bnN bnD
      dsimp only
      simp only [if_pos hd, e3, e2, e0, Bool.false_eq_true, if_false, if_true]
      push_cast
      grind
    grind
  · subst hd
    have c1 : cutLo lo f 0 = lo := by unfold cutLo; rw [if_neg (by omega), if_neg (by omega)]
    have c2 : cutHi hi f 0 = hi := by unfold cutHi; rw [if_neg (by omega), if_neg (by omega)]
    have c3 : cutOk f 0 = (decide (0 ≤ f) && decide (f < 2)) := by unfold cutOk; rw [if_neg (by omega), if_neg (by omega)]
    rw [c1, c2, c3]
    have e : ∀ t, strip f 0 t ↔ (0 ≤ f ∧ f < 2) := fun t => by
      unfold strip
      have q : (f : Rat) + t * ((0 : Int) : Rat) = f := by push_cast; grind
      rw [q]
      constructor
      · rintro ⟨a, b⟩; exact ⟨by exact_mod_cast a, by exact_mod_cast b⟩
      · rintro ⟨a, b⟩; exact ⟨by exact_mod_cast a, by exact_mod_cast b⟩
    refine ⟨h, h', fun k t => ?_, fun k t => ?_⟩
    · rw [e]
      simp at k
      simp [k]
    · rw [e]
      simp at k
      omega
  · have b1 : bOk (bnN (-f) d, bnD d, true) := bOk_bn (by omega) (by omega) h2
    have b2 : bOk (bnN (2 - f) d, bnD d, false) := bOk_bn (by omega) (by omega) h2
    have c1 : cutLo lo f d = leastLo lo (-f) d true := by unfold cutLo; rw [if_pos hd]
    have c2 : cutHi hi f d = mostHi hi (2 - f) d false := by unfold cutHi; rw [if_pos hd]
    have c3 : cutOk f d = true := by unfold cutOk; rw [if_pos hd]
    rw [c1, c2, c3]
    refine ⟨(pick _ _ _ _ h b1).1, (pick _ _ _ _ h' b2).2, fun _ t => ?_, fun k => by cases k⟩
    rw [least_sat h b1, most_sat h' b2]
    have : (satLo (bnN (-f) d, bnD d, true) t ∧ satHi (bnN (2 - f) d, bnD d, false) t) ↔ strip f d t := by
      unfold satLo satHi strip bnN bnD
      dsimp only
      simp only [if_neg (show ¬ d < 0 by omega), Bool.false_eq_true, if_false, if_true]
      push_cast
      grind
    grind

def toQ (p : Int × Int) : Q2 := ((p.1 : Rat), (p.2 : Rat))
/-- Meets: some point of the segment lies in the pixel. -/
theorem meets_sat {a b p : Int × Int} (ha : a.1.natAbs ≤ 1048576 ∧ a.2.natAbs ≤ 1048576) (hb : b.1.natAbs ≤ 1048576 ∧ b.2.natAbs ≤ 1048576) (hp : p.1.natAbs ≤ 1048576 ∧ p.2.natAbs ≤ 1048576) :
    meetsV a.1 a.2 b.1 b.2 p.1 p.2 = true ↔ ∃ t, I01 t ∧ inP (toQ p) (lerp (toQ a) (toQ b) t) := by
  have k0 : bOk (0, 1, true) := by unfold bOk; dsimp only; omega
  have k1 : bOk (1, 1, true) := by unfold bOk; dsimp only; omega
  obtain ⟨x1, x2, x3, x4⟩ := cut_sat (f := 2 * (a.1 - p.1) + 1) (d := 2 * (b.1 - a.1)) k0 k1 (by omega) (by omega)
  obtain ⟨y1, y2, y3, y4⟩ := cut_sat (f := 2 * (a.2 - p.2) + 1) (d := 2 * (b.2 - a.2)) x1 x2 (by omega) (by omega)
  have hz : ∀ t, satLo (0, 1, true) t ∧ satHi (1, 1, true) t ↔ I01 t := fun t => by
    unfold satLo satHi I01
    simp only [if_true]
    push_cast
    grind
  have hs : ∀ t, strip (2 * (a.1 - p.1) + 1) (2 * (b.1 - a.1)) t ∧ strip (2 * (a.2 - p.2) + 1) (2 * (b.2 - a.2)) t ↔ inP (toQ p) (lerp (toQ a) (toQ b) t) := fun t => by
    unfold strip inP Box lerp toQ
    dsimp only
    push_cast
    grind
  unfold meetsV
  rw [Bool.and_eq_true, Bool.and_eq_true]
  unfold meetsE meetsLo meetsHi
  rw [end_sat y1 y2]
  constructor
  · rintro ⟨⟨h1, h2⟩, t, ht⟩
    have q1 := (y3 h2 t).1 ht
    have q2 := (x3 h1 t).1 q1.1
    exact ⟨t, (hz t).1 q2.1, (hs t).1 ⟨q2.2, q1.2⟩⟩
  · rintro ⟨t, h1, h2⟩
    have q := (hs t).2 h2
    have o1 : cutOk (2 * (a.1 - p.1) + 1) (2 * (b.1 - a.1)) = true := by
      cases e : cutOk (2 * (a.1 - p.1) + 1) (2 * (b.1 - a.1)) with
      | true => rfl
      | false => exact absurd q.1 (x4 e t)
    have o2 : cutOk (2 * (a.2 - p.2) + 1) (2 * (b.2 - a.2)) = true := by
      cases e : cutOk (2 * (a.2 - p.2) + 1) (2 * (b.2 - a.2)) with
      | true => rfl
      | false => exact absurd q.2 (y4 e t)
    exact ⟨⟨o1, o2⟩, t, (y3 o2 t).2 ⟨(x3 o1 t).2 ⟨(hz t).2 h1, q.1⟩, q.2⟩⟩
end Go.Proofs.Ytdnccjdlmepafaa
end
section
namespace Go.Proofs.Ytdnccjdlmepafaa
set_option linter.unusedSimpArgs false
set_option linter.unusedVariables false

theorem castLt {x y : Int} (h : (x : Rat) < (y : Rat)) : x < y := Rat.intCast_lt_intCast.1 h
theorem okP_abs {p : Pt2} (h : okP p.1 p.2 = true) : p.1.natAbs ≤ 1048576 ∧ p.2.natAbs ≤ 1048576 := by
  rw [okP_iff] at h; omega
/-- A point is met: some point of the segment lies in its pixel. -/
theorem met_iff {a b p : Pt2} (ha : okP a.1 a.2 = true) (hb : okP b.1 b.2 = true) (hp : okP p.1 p.2 = true) : metB a b p = true ↔ ∃ t, I01 t ∧ inP (toQ p) (lerp (toQ a) (toQ b) t) :=
  meets_sat (okP_abs ha) (okP_abs hb) (okP_abs hp)
/-- Rounding keeps the order of one coordinate. -/
theorem box_mono {a b p q : Int} {l m : Rat} (hl : l ≤ m) (hp : Box ((a : Rat) + l * ((b : Rat) - a) - p)) (hq : Box ((a : Rat) + m * ((b : Rat) - a) - q)) : 0 ≤ sgnI (b - a) * (q - p) ∧ (b = a → p = q) := by
  unfold Box at hp hq
  have h3 : b < a ∨ b = a ∨ a < b := by omega
  rcases h3 with h | h | h
  · have hs : sgnI (b - a) = -1 := by unfold sgnI; omega
    have hr : (b : Rat) < a := Rat.intCast_lt_intCast.2 h
    have h1 := Rat.mul_nonneg (a := m - l) (b := (a : Rat) - b) (by grind) (by grind)
    have : (q : Rat) < ((p + 1 : Int) : Rat) := by push_cast; grind
    have := castLt this
    rw [hs]; exact ⟨by omega, by omega⟩
  · subst h
    have hs : sgnI (b - b) = 0 := by unfold sgnI; omega
    have e1 : (q : Rat) < ((p + 1 : Int) : Rat) := by push_cast; grind
    have e2 : (p : Rat) < ((q + 1 : Int) : Rat) := by push_cast; grind
    have := castLt e1
    have := castLt e2
    rw [hs]; exact ⟨by omega, by omega⟩
  · have hs : sgnI (b - a) = 1 := by unfold sgnI; omega
    have hr : (a : Rat) < b := Rat.intCast_lt_intCast.2 h
    have h1 := Rat.mul_nonneg (a := m - l) (b := (b : Rat) - a) (by grind) (by grind)
    have : (p : Rat) < ((q + 1 : Int) : Rat) := by push_cast; grind
    have := castLt this
    rw [hs]; exact ⟨by omega, by omega⟩
/-- Points met in the order of the way stand in the order of both coordinates. -/
theorem dir_mono {a b p q : Pt2} {l m : Rat} (hl : l ≤ m) (hp : inP (toQ p) (lerp (toQ a) (toQ b) l)) (hq : inP (toQ q) (lerp (toQ a) (toQ b) m)) :
    (0 ≤ sgnI (b.1 - a.1) * (q.1 - p.1) ∧ (b.1 = a.1 → p.1 = q.1)) ∧ 0 ≤ sgnI (b.2 - a.2) * (q.2 - p.2) ∧ (b.2 = a.2 → p.2 = q.2) := by
  unfold inP lerp toQ at hp hq
  exact ⟨box_mono hl hp.1 hq.1, box_mono hl hp.2 hq.2⟩
theorem sgnI_zero {n x : Int} (hn : n ≠ 0) (h : sgnI n * x = 0) : x = 0 := by
  have : sgnI n = -1 ∨ sgnI n = 1 := by unfold sgnI; omega
  rcases this with e | e <;> rw [e] at h <;> omega
/-- Of two points met, neither before the other: they are one. -/
theorem dir_eq {a b p q : Pt2} {l m : Rat} (hp : inP (toQ p) (lerp (toQ a) (toQ b) l)) (hq : inP (toQ q) (lerp (toQ a) (toQ b) m)) (h : dirV a b p q = 0) : p = q := by
  have key : (b.1 = a.1 → p.1 = q.1) ∧ (b.2 = a.2 → p.2 = q.2) := by
    rcases Rat.le_total (a := l) (b := m) with h | h
    · have := dir_mono h hp hq; exact ⟨this.1.2, this.2.2⟩
    · have := dir_mono h hq hp; exact ⟨fun e => (this.1.2 e).symm, fun e => (this.2.2 e).symm⟩
  unfold dirV at h
  split at h
  · rename_i hx
    refine Prod.ext ?_ ?_
    · by_cases e : b.1 = a.1
      · exact key.1 e
      · have := sgnI_zero (by omega) hx; omega
    · by_cases e : b.2 = a.2
      · exact key.2 e
      · have := sgnI_zero (by omega) h; omega
  · contradiction
/-- Met in the order of the way: not behind. -/
theorem dir_le {a b p q : Pt2} {l m : Rat} (hl : l ≤ m) (hp : inP (toQ p) (lerp (toQ a) (toQ b) l)) (hq : inP (toQ q) (lerp (toQ a) (toQ b) m)) : dirV a b p q ≤ 0 := by
  have := dir_mono hl hp hq
  have e1 : sgnI (b.1 - a.1) * (p.1 - q.1) = -(sgnI (b.1 - a.1) * (q.1 - p.1)) := by grind
  have e2 : sgnI (b.2 - a.2) * (p.2 - q.2) = -(sgnI (b.2 - a.2) * (q.2 - p.2)) := by grind
  unfold dirV
  rw [e1, e2]
  split <;> omega
theorem dir_neg (a b p q : Pt2) : dirV a b q p = -dirV a b p q := by
  unfold dirV
  have e1 : sgnI (b.1 - a.1) * (q.1 - p.1) = -(sgnI (b.1 - a.1) * (p.1 - q.1)) := by grind
  have e2 : sgnI (b.2 - a.2) * (q.2 - p.2) = -(sgnI (b.2 - a.2) * (p.2 - q.2)) := by grind
  rw [e1, e2]
  split <;> split <;> omega
theorem in_self (a : Pt2) : inP (toQ a) (toQ a) := by unfold inP Box; grind
theorem lerp0 (P Q : Q2) : lerp P Q 0 = P := by unfold lerp; apply Prod.ext <;> dsimp only <;> grind
theorem lerp1 (P Q : Q2) : lerp P Q 1 = Q := by unfold lerp; apply Prod.ext <;> dsimp only <;> grind
/-- Both ends are met. -/
theorem met_fst {a b : Pt2} (ha : okP a.1 a.2 = true) (hb : okP b.1 b.2 = true) : metB a b a = true := (met_iff ha hb ha).2 ⟨0, by unfold I01; grind, by rw [lerp0]; exact in_self a⟩
theorem met_snd {a b : Pt2} (ha : okP a.1 a.2 = true) (hb : okP b.1 b.2 = true) : metB a b b = true := (met_iff ha hb hb).2 ⟨1, by unfold I01; grind, by rw [lerp1]; exact in_self b⟩
end Go.Proofs.Ytdnccjdlmepafaa
end
