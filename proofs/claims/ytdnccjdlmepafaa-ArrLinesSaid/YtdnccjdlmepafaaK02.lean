/-
  Walks of slices.Equal and EqualFunc over points and lists of points; The memory of clip.Line; the walk of its closure; clip.Line as a plain function; Walks of terrmake: Below, Stream.Next, Stream.point, Point; of terrkeep3: pt, window; A region that draws its order: reads, new blocks and calls that add to memory come first in any order, then stores in a forced order; walked once in the order of the text; Walks of terrmake.line, Line; Walks of cmp.Compare, point.way, Cross, Turn, box.Has, Meet, Join; Plain laws of convex hulls: chains, the ring, its uniqueness. Conditions: those that each lemma names.
-/
import Derived.Test.YtdnccjdlmepafaaK01
section
namespace Go.Proofs.Ytdnccjdlmepafaa
set_option linter.unusedSimpArgs false
set_option linter.unusedVariables false
open Go.RowKit Go.BigFrame
attribute [local go_sem ↓] eqPt neqPt
def rAt (l : List (List Pt2)) (i : Nat) : List Pt2 := l.getD i []
/-- The slice v reads as the lists of points ls. -/
def LisS (w : World) (v : Value) (ls : List (List Pt2)) : Prop :=
  ∃ a c, v = .slice a ls.length c ∧ ∀ i, i < ls.length → ∃ g o : Nat, a = some ⟨g, o, none⟩ ∧ ∃ u, w.cell? ⟨g, o + i, none⟩ = some u ∧ PtsS w u (rAt ls i)
theorem LisS.since {w w' : World} {v : Value} {l : List (List Pt2)} (h : LisS w v l) (k : Since w w') : LisS w' v l := by
  obtain ⟨a, c, hv, h⟩ := h
  refine ⟨a, c, hv, fun i hi => ?_⟩
  obtain ⟨g, o, ha, u, h1, h2⟩ := h i hi
  exact ⟨g, o, ha, u, keepC k _ _ h1, h2.since k⟩
end Go.Proofs.Ytdnccjdlmepafaa
end
section
namespace Go.Proofs.Ytdnccjdlmepafaa
set_option linter.unusedSimpArgs false
set_option linter.unusedVariables false
open Go.RowKit Go.BigFrame
attribute [local go_sem ↓] eqPt neqPt
def ptV (p : Pt2) : List Value := [.int .i64 p.1, .int .i64 p.2]
theorem ptV_len (p : Pt2) : (ptV p).length = 2 := rfl
/-- The slice v reads as the points l, in a block of points below B. -/
def PtsB (w : World) (v : Value) (l : List Pt2) (B : Nat) : Prop :=
  ∃ a c, v = .slice a l.length c ∧ ∀ i, i < l.length → ∃ (g o : Nat) (cs : Array Value), a = some ⟨g, o, none⟩ ∧ g < B ∧ Blk w g 34 cs ∧ cs[o + i * 2]? = some (.int .i64 (pAt l i).1) ∧ cs[o + i * 2 + 1]? = some (.int .i64 (pAt l i).2)
theorem PtsB.pts {w : World} {v : Value} {l : List Pt2} {B : Nat} (h : PtsB w v l B) : PtsS w v l := by
  obtain ⟨a, c, hv, h⟩ := h
  refine ⟨a, c, hv, fun i hi => ?_⟩
  obtain ⟨g, o, cs, ha, -, hb, h1, h2⟩ := h i hi
  exact ⟨g, o, ha, by rw [hb.cell]; exact h1, by rw [hb.cell]; exact h2⟩
theorem PtsB.keep {w w' : World} {v : Value} {l : List Pt2} {B B' : Nat} (h : PtsB w v l B) (hB : B ≤ B') (k : ∀ g cs, g < B → Blk w g 34 cs → Blk w' g 34 cs) : PtsB w' v l B' := by
  obtain ⟨a, c, hv, h⟩ := h
  refine ⟨a, c, hv, fun i hi => ?_⟩
  obtain ⟨g, o, cs, ha, hg, hb, h1, h2⟩ := h i hi
  exact ⟨g, o, cs, ha, by omega, k _ _ hg hb, h1, h2⟩
/-- A row of one's own reads as points. -/
theorem own_pts {w : World} {b B : Nat} {v : Value} {l : List Pt2} (h : w.ownsRow b 34 2 v l.length (l.flatMap ptV)) (hB : w.heap.size ≤ B) : PtsB w v l B := by
  have h0 := h
  obtain ⟨hl, ⟨rfl, hn⟩ | ⟨g, cap, cur, rfl, hb, hg, hc, hm, hs, ht⟩⟩ := h
  · exact ⟨none, 0, by rw [hn], fun i hi => by omega⟩
  · refine ⟨some ⟨g, 0, none⟩, cap, rfl, fun i hi => ⟨g, 0, cur, rfl, ?_, hg, ?_, ?_⟩⟩
    · have := Blk.lt hg; omega
    · have h1 := flat_at ptV_len l i 0 hi (by decide)
      have : (l.flatMap ptV)[i * 2 + 0]? = cur[i * 2 + 0]? := by
        rw [← ht, List.getElem?_take, if_pos (by omega)]; simp
      simp only [Nat.zero_add, Nat.add_zero] at this h1 ⊢
      rw [← this, h1]; simp [ptV, pAt, List.getD, hi]
    · have h1 := flat_at ptV_len l i 1 hi (by decide)
      have : (l.flatMap ptV)[i * 2 + 1]? = cur[i * 2 + 1]? := by
        rw [← ht, List.getElem?_take, if_pos (by omega)]; simp
      simp only [Nat.zero_add] at this h1 ⊢
      rw [← this, h1]; simp [ptV, pAt, List.getD, hi]
theorem Blk.grown {w w' : World} {g : Nat} {t : TypeId} {cs : Array Value} {row : Option Nat} (h : Blk w g t cs) (hg : w.grownBy w' row) (hne : some g ≠ row) : Blk w' g t cs := (hg.block g h.lt hne).trans h

theorem infoPt : (Try.prog.info? 34).map (fun i => (i.zero, i.size, i.bytes)) = some (some (.agg #[.int .i64 0, .int .i64 0]), 2, 16) := by kernel_rfl
theorem own_slice {w : World} {b : Nat} {e : TypeId} {k n : Nat} {v : Value} {xs : List Value} (h : w.ownsRow b e k v n xs) : ∃ a c, v = .slice a n c := by
  obtain ⟨-, ⟨rfl, rfl⟩ | ⟨g, cap, cur, rfl, -⟩⟩ := h
  · exact ⟨none, 0, rfl⟩
  · exact ⟨some ⟨g, 0, none⟩, cap, rfl⟩
theorem own_ne {w : World} {b g : Nat} {e : TypeId} {k n : Nat} {v : Value} {xs : List Value} (h : w.ownsRow b e k v n xs) (hg : g < b) : some g ≠ v.ownBlock := fun hk => by
  have := h.lt g hk.symm
  omega

theorem set_grown (w : World) (p : Addr) (u : Value) : w.grownBy (w.setCell p u) (some p.block) :=
  ⟨rfl, rfl, rfl, by simp [World.setCell], fun k _ hk => Below.heap_setCell w p u k (fun e => hk (by rw [e]))⟩
theorem own_far {w : World} {b : Nat} {e : TypeId} {k n : Nat} {v : Value} {xs : List Value} (h : w.ownsRow b e k v n xs) {p : Addr} (hp : some p.block ≠ v.ownBlock) (u : Value) : (w.setCell p u).ownsRow b e k v n xs :=
  h.kept (set_grown w p u) (.inr (Ne.symm hp))
theorem cell2_new (w : World) (x y : Value) (t : TypeId) : ∀ j u, [x, y][j]? = some u → (w.alloc (.cells #[x, y] t)).cell? ((⟨w.heap.size, 0, none⟩ : Addr).add j) = some u := by
  intro j u hu
  rcases j with _ | _ | j
  · rw [← hu]; exact (Blk.new w t #[x, y]).cell 0
  · rw [← hu]; exact (Blk.new w t #[x, y]).cell 1
  · simp at hu
theorem one2 (k k' : IntKind) (a b : Int) : ∀ u ∈ [Value.int k a, .int k' b], u.oneCell' = true := by
  intro u hu
  simp only [List.mem_cons, List.not_mem_nil, or_false] at hu
  rcases hu with rfl | rfl <;> rfl
theorem Blk.new' {w : World} {g : Nat} {t : TypeId} {cs : Array Value} (h : g = w.heap.size) : Blk (w.alloc (.cells cs t)) g t cs := by subst h; exact Blk.new w t cs
theorem Blk.pair {w : World} {g : Nat} {t : TypeId} {a b x y : Value} (h : Blk w g t #[a, b]) : Blk ((w.setCell ⟨g, 0, none⟩ x).setCell ⟨g, 1, none⟩ y) g t #[x, y] := (h.set_ 0 x).set_ 1 y

section
variable {w0 w wA w' : World} {g5 g6 BO : Nat} {outs : List (List Pt2)} {now : List Pt2} {p : Pt2} {vout vnow v' : Value} {us : List Value} {B : Nat}
end

def endO (outs : List (List Pt2)) (now : List Pt2) : List (List Pt2) := if 1 < now.length then outs ++ [now] else outs
end Go.Proofs.Ytdnccjdlmepafaa
end
section
namespace Go.Proofs.Ytdnccjdlmepafaa
set_option linter.unusedSimpArgs false
set_option linter.unusedVariables false
open Go.RowKit Go.BigFrame

abbrev SegT := Option (CutT × CutT)
def cutP (k : CutT) : Pt2 := (k.2.2.1, k.2.2.2)
def lastP (l : List Pt2) : Pt2 := pAt l (l.length - 1)
def addP (l : List Pt2) (p : Pt2) : List Pt2 := if l.length = 0 then l ++ [p] else l
def addQ (l : List Pt2) (q : Pt2) : List Pt2 := if q = lastP l then l else l ++ [q]
def lineS (outs : List (List Pt2)) (now : List Pt2) (f : CutT) : List (List Pt2) × List Pt2 := if f.1 = 0 then (outs, now) else (endO outs now, [])
def lineStep (outs : List (List Pt2)) (now : List Pt2) : SegT → List (List Pt2) × List Pt2
  | none => (endO outs now, [])
  | some p => if p.2.1 = p.2.2.1 then ((lineS outs now p.1).1, addQ (addP (lineS outs now p.1).2 (cutP p.1)) (cutP p.2)) else (endO (lineS outs now p.1).1 (addQ (addP (lineS outs now p.1).2 (cutP p.1)) (cutP p.2)), [])
def lineRun (seg : Nat → SegT) : Nat → Nat → List (List Pt2) → List Pt2 → List (List Pt2) × List Pt2
  | 0, _, o, n => (o, n)
  | k + 1, i, o, n => lineRun seg k (i + 1) (lineStep o n (seg i)).1 (lineStep o n (seg i)).2
end Go.Proofs.Ytdnccjdlmepafaa
end
section
namespace Go.Proofs.Ytdnccjdlmepafaa
set_option linter.unusedSimpArgs false
set_option linter.unusedVariables false
open Go.RowKit Go.BigFrame
attribute [local go_sem ↓] eqPt neqPt
theorem i64w (n : Int) : IntKind.i64.wrap n = wrap64 n := by unfold wrap64; exact IntKind.wrap_i64 n
/-- The slice v reads as the numbers l, in a block below B. -/
def IntsB (w : World) (v : Value) (l : List Int) (B : Nat) : Prop :=
  ∃ a c, v = .slice a l.length c ∧ l.length ≤ c ∧ c ≤ maxLen ∧ ∀ i, i < l.length → ∃ g o : Nat, a = some ⟨g, o, none⟩ ∧ g < B ∧ w.cell? ⟨g, o + i, none⟩ = some (.int .i64 (l.getD i 0))
theorem IntsB.keep {w w' : World} {v : Value} {l : List Int} {B : Nat} (h : IntsB w v l B) (k : ∀ (p : Addr) (u : Value), p.block < B → w.cell? p = some u → w'.cell? p = some u) : IntsB w' v l B := by
  obtain ⟨a, c, hv, hc, hm, h⟩ := h
  refine ⟨a, c, hv, hc, hm, fun i hi => ?_⟩
  obtain ⟨g, o, ha, hg, h1⟩ := h i hi
  exact ⟨g, o, ha, hg, k _ _ hg h1⟩
theorem IntsB.since {w w' : World} {v : Value} {l : List Int} {B : Nat} (h : IntsB w v l B) (k : Since w w') : IntsB w' v l B := h.keep fun p u _ hc => keepC k p u hc

theorem ptL_any (x y : Int) (w : World) : Calls Try.prog 9 #[.int .i64 x, .int .i64 y] w fun e w' => e = .returned (.agg #[.int .i64 x, .int .i64 y]) ∧ Since w w' := by
  go_enter Try.func9, Try.ntmps9
  go_wp2
  exact bodyPost_ret (v := .agg #[.int .i64 x, .int .i64 y]) (by simp [results, Try.results9, go_sem]) rfl ⟨rfl, (Since.rfl_ w).alloc _⟩

end Go.Proofs.Ytdnccjdlmepafaa
end
section
namespace Go.Proofs.Ytdnccjdlmepafaa
set_option linter.unusedSimpArgs false
set_option linter.unusedVariables false
open Go.RowKit Go.BigFrame

/-- What is said of an operation's value: it is c; it leads to a new block; R holds of it from then on. -/
inductive Spec where
  | det (c : Value)
  | mk (f : Nat → Value) (t : TypeId) (cs : Array Value)
  | any (R : Value → World → Prop)

def Spec.shape : Spec → Value → Prop
  | .det c, v => v = c
  | .mk f _ _, v => ∃ g, v = f g
  | .any _, _ => True
def Spec.fact (base : Nat) : Spec → Value → World → Prop
  | .det _, _, _ => True
  | .mk f t cs, v, w => ∃ g, v = f g ∧ Blk w g t cs ∧ base ≤ g
  | .any R, v, w => R v w
def Spec.blk : Spec → Value → Nat → Prop
  | .mk f _ _, v, g => v = f g
  | _, _, _ => False
def Spec.mono : Spec → Prop
  | .any R => ∀ v w w', R v w → Since w w' → R v w'
  | .mk f _ _ => ∀ g g', f g = f g' → g = g'
  | _ => True

def pres (o : Oper) : List Nat := (o.after.toList.filter (Region.binds .any)).map (·.on)
/-- The facts of the operations js. -/
def factsOf (Fs : List (World → Prop)) : List Nat → World → Prop
  | [], _ => True
  | j :: js, w => (Fs.getD j (fun _ => True)) w ∧ factsOf Fs js w
def allF : List (World → Prop) → World → Prop
  | [], _ => True
  | F :: Fs, w => F w ∧ allF Fs w

def runV (P : Program) (o : Oper) (a : Act) (w : World) (post : Value → World → Prop) : Prop :=
  match (execOp a.eval o).run P w with
  | .ok (.value v) w' => post v w'
  | .ok (.enter f args) w' => Calls P f args w' fun e w'' => ∃ v, e = .returned v ∧ post v w''
  | _ => False

/-- What is to be shown of one operation. -/
def Spec.asks (P : Program) (ops : Array Oper) (S : World → Prop) (o : Oper) (a : Act) (F : World → Prop) : Spec → Prop
  | .det c => if Region.wanted o (yielded ops a.tmps) = true then (∀ w w', F w → Since w w' → F w') → ∀ wx, S wx → F wx → o.quiet P a (Cls fun w' => S w' ∧ F w' ∧ Since wx w') (fun a' => a' = a.put o.dst c) else c = undef
  | .mk f t cs => Region.wanted o (yielded ops a.tmps) = true ∧ ∀ w, (execOp a.eval o).run P w = .ok (.value (f w.heap.size)) (w.alloc (.cells cs t))
  | .any R => Region.wanted o (yielded ops a.tmps) = true ∧ ∀ w, S w → F w → runV P o a w fun v w' => R v w' ∧ Since w w'

/-- The walk in the order of the text. -/
def wpO (P : Program) (ops : Array Oper) (S : World → Prop) (base : Nat) (K : Act → World → Prop) : List Oper → List Spec → List (World → Prop) → List (Nat → Prop) → Act → Prop
  | [], [], Fs, Bs, a => ∀ w, S w → allF Fs w → Bs.Pairwise (fun p q => ∀ g g', p g → q g' → g ≠ g') → K a w
  | o :: l, s :: ss, Fs, Bs, a => s.mono ∧ s.asks P ops S o a (factsOf Fs (pres o)) ∧ ∀ v, s.shape v → wpO P ops S base K l ss (Fs ++ [s.fact base v]) (Bs ++ [s.blk v]) (a.put o.dst v)
  | _, _, _, _, _ => False

def fr : List Oper → List Value → Act → Act
  | o :: l, v :: vs, a => fr l vs (a.put o.dst v)
  | _, _, a => a
def factL (base : Nat) : List Spec → List Value → List (World → Prop)
  | s :: ss, v :: vs => s.fact base v :: factL base ss vs
  | _, _ => []
def blkL : List Spec → List Value → List (Nat → Prop)
  | s :: ss, v :: vs => s.blk v :: blkL ss vs
  | _, _ => []
def shapeL : List Spec → List Value → Prop
  | s :: ss, v :: vs => s.shape v ∧ shapeL ss vs
  | [], [] => True
  | _, _ => False

section
variable {P : Program} {ops : Array Oper} {S : World → Prop} {base : Nat} {K : Act → World → Prop}

theorem shapeL_len : ∀ {ss : List Spec} {vs : List Value}, shapeL ss vs → ss.length = vs.length
  | [], [], _ => rfl
  | _ :: _, _ :: _, h => by simp [shapeL_len h.2]
  | [], _ :: _, h => h.elim
  | _ :: _, [], h => h.elim
theorem wpO_len : ∀ {l : List Oper} {ss : List Spec} {Fs : List (World → Prop)} {Bs : List (Nat → Prop)} {a : Act} {vs : List Value}, wpO P ops S base K l ss Fs Bs a → shapeL ss vs → l.length = ss.length
  | [], [], _, _, _, _, _, _ => rfl
  | o :: l, s :: ss, Fs, Bs, a, v :: vs, h, hs => by simp [wpO_len (h.2.2 v hs.1) hs.2]
  | [], _ :: _, _, _, _, _, h, _ => by unfold wpO at h; exact h.elim
  | _ :: _, [], _, _, _, _, h, _ => by unfold wpO at h; exact h.elim
  | _ :: _, _ :: _, _, _, _, [], _, hs => hs.elim
/-- What the walk says of operation i. -/
theorem wpO_get : ∀ {l : List Oper} {ss : List Spec} {Fs : List (World → Prop)} {Bs : List (Nat → Prop)} {a : Act} {vs : List Value}, wpO P ops S base K l ss Fs Bs a → shapeL ss vs →
    ∀ (i : Nat) (o : Oper) (s : Spec), l[i]? = some o → ss[i]? = some s → s.mono ∧ s.asks P ops S o (fr (l.take i) (vs.take i) a) (factsOf (Fs ++ factL base (ss.take i) (vs.take i)) (pres o))
  | o :: l, s :: ss, Fs, Bs, a, v :: vs, h, hs, 0, o', s', ho, hs' => by
    simp at ho hs'
    subst ho hs'
    simpa [fr, factL] using ⟨h.1, h.2.1⟩
  | o :: l, s :: ss, Fs, Bs, a, v :: vs, h, hs, i + 1, o', s', ho, hs' => by
    simp at ho hs'
    have := wpO_get (h.2.2 v hs.1) hs.2 i o' s' ho hs'
    simpa [fr, factL] using this
  | [], _, _, _, _, _, _, _, _, _, _, ho, _ => by simp at ho
  | _ :: _, [], _, _, _, _, h, _, _, _, _, _, _ => by unfold wpO at h; exact h.elim
  | _ :: _, _ :: _, _, _, _, [], _, hs, _, _, _, _, _ => hs.elim
theorem wpO_fin : ∀ {l : List Oper} {ss : List Spec} {Fs : List (World → Prop)} {Bs : List (Nat → Prop)} {a : Act} {vs : List Value}, wpO P ops S base K l ss Fs Bs a → shapeL ss vs →
    ∀ w, S w → allF (Fs ++ factL base ss vs) w → (Bs ++ blkL ss vs).Pairwise (fun p q => ∀ g g', p g → q g' → g ≠ g') → K (fr l vs a) w
  | [], [], Fs, Bs, a, [], h, _, w, hw, hf, hb => by
    unfold wpO at h
    exact h w hw (by simpa [factL] using hf) (by simpa [blkL] using hb)
  | o :: l, s :: ss, Fs, Bs, a, v :: vs, h, hs, w, hw, hf, hb => wpO_fin (h.2.2 v hs.1) hs.2 w hw (by simpa [factL] using hf) (by simpa [blkL] using hb)
  | [], _ :: _, _, _, _, _, h, _, _, _, _, _ => by unfold wpO at h; exact h.elim
  | _ :: _, [], _, _, _, _, h, _, _, _, _, _ => by unfold wpO at h; exact h.elim
  | [], [], _, _, _, _ :: _, _, hs, _, _, _, _ => hs.elim
  | _ :: _, _ :: _, _, _, _, [], _, hs, _, _, _, _ => hs.elim

theorem fr_size : ∀ (l : List Oper) (vs : List Value) (a : Act), (fr l vs a).tmps.size = a.tmps.size
  | [], vs, a => by simp [fr]
  | _ :: _, [], a => by simp [fr]
  | o :: l, v :: vs, a => by
    rw [fr, fr_size l vs]
    cases h : o.dst <;> simp [Act.put, h]
theorem fr_defers : ∀ (l : List Oper) (vs : List Value) (a : Act), (fr l vs a).defers = a.defers
  | [], vs, a => by simp [fr]
  | _ :: _, [], a => by simp [fr]
  | o :: l, v :: vs, a => by
    rw [fr, fr_defers l vs]
    cases h : o.dst <;> simp [Act.put, h]
theorem put_out {a : Act} {d : Option Tmp} {v : Value} {t : Nat} (h : d ≠ some t) : (a.put d v).tmps[t]? = a.tmps[t]? := by
  cases d with
  | none => rfl
  | some e =>
    have hne : e ≠ t := fun k => h (by rw [k])
    simp [Act.put, Array.getElem?_setIfInBounds_ne hne]
theorem put_in {a : Act} {v : Value} {t : Nat} (h : t < a.tmps.size) : (a.put (some t) v).tmps[t]? = some v := by
  simp [Act.put, h]
theorem fr_out : ∀ (l : List Oper) (vs : List Value) (a : Act) (t : Nat), (∀ (j : Nat) o, l[j]? = some o → o.dst ≠ some t) → (fr l vs a).tmps[t]? = a.tmps[t]?
  | [], vs, a, t, h => by simp [fr]
  | _ :: _, [], a, t, h => by simp [fr]
  | o :: l, v :: vs, a, t, h => by
    rw [fr, fr_out l vs _ t (fun j o' ho' => h (j + 1) o' (by simpa using ho'))]
    exact put_out (h 0 o rfl)
theorem fr_in : ∀ (l : List Oper) (vs : List Value) (a : Act) (t j : Nat) (o : Oper), l[j]? = some o → j < vs.length → o.dst = some t → (∀ (k : Nat) o', k ≠ j → l[k]? = some o' → o'.dst ≠ some t) → t < a.tmps.size → (fr l vs a).tmps[t]? = vs[j]?
  | [], vs, a, t, j, o, h, _, _, _, _ => by simp at h
  | _ :: _, [], a, t, j, o, _, h, _, _, _ => by simp at h
  | o :: l, v :: vs, a, t, 0, o', h, hv, hd, hu, ht => by
    simp at h
    subst h
    rw [fr, fr_out l vs _ t (fun j o' ho' => hu (j + 1) o' (by omega) (by simpa using ho')), hd, put_in ht]
    rfl
  | o :: l, v :: vs, a, t, j + 1, o', h, hv, hd, hu, ht => by
    rw [fr, fr_in l vs _ t j o' (by simpa using h) (by simpa using hv) hd (fun k o'' hk ho'' => hu (k + 1) o'' (by omega) (by simpa using ho'')) (by
      cases h : o.dst <;> simp [Act.put, h] <;> exact ht)]
    simp

theorem eval_eq {a b : Act} {o : Oper} (hs : ∀ cs b, o.op ≠ .select cs b) (h : ∀ t ∈ o.looksAt ops, a.tmps[t]? = b.tmps[t]?) : execOp a.eval o = execOp b.eval o :=
  execOp_congr o hs fun x hx => by
    cases x with
    | tmp t =>
      have := h t (List.mem_append_left _ (List.mem_filterMap.2 ⟨.tmp t, by simpa using hx, rfl⟩))
      simp [Act.eval, this]
    | _ => rfl
theorem wanted_eq {a b : Act} {o : Oper} (h : ∀ t ∈ o.looksAt ops, a.tmps[t]? = b.tmps[t]?) : Region.wanted o (yielded ops a.tmps) = Region.wanted o (yielded ops b.tmps) := by
  unfold Region.wanted
  cases hg : o.guard with
  | none => rfl
  | some gw =>
    obtain ⟨g, want⟩ := gw
    have hy : yielded ops a.tmps g = yielded ops b.tmps g := by
      unfold yielded
      cases ht : (ops[g]?).bind (·.dst) with
      | none => rfl
      | some t =>
        have := h t (by simp [Oper.looksAt, hg, ht])
        simp [this]
    simp only [hy]

/-- What is to hold of the first n operations. -/
def Region.looksB (ops : Array Oper) (n : Nat) : Bool :=
  (List.range n).all fun i => match ops[i]? with
    | none => false
    | some o => (o.after.toList.all fun e => !Region.binds .any e || decide (e.on < i)) &&
      (List.range n).all fun j => match (ops[j]?).bind (·.dst) with
        | none => true
        | some d => (j == i || o.dst != some d) && (!(o.looksAt ops).contains d || (decide (j < i) && (pres o).contains j))
def fullL (m n : Nat) : Array Bool := Array.ofFn (n := m) fun k => decide (k.val < n)
def Region.factsB (ops : Array Oper) (n : Nat) : Bool :=
  Region.noSelect ops && decide (n ≤ ops.size) && (decide (n = ops.size) || (Region.sinkB .any ops n && Region.chainB .any ops n)) && Region.looksB ops n && Region.seqB .any ops (ops.size - n) n (fullL ops.size n)

theorem looksB_spec {n i : Nat} {o : Oper} (h : Region.looksB ops n = true) (hi : i < n) (ho : ops[i]? = some o) :
    (∀ e ∈ o.after, Region.binds .any e = true → e.on < i) ∧
    ∀ (j : Nat) oj d, j < n → ops[j]? = some oj → oj.dst = some d → (j ≠ i → o.dst ≠ some d) ∧ (d ∈ o.looksAt ops → j < i ∧ j ∈ pres o) := by
  unfold Region.looksB at h
  rw [List.all_eq_true] at h
  have h1 := h i (List.mem_range.2 hi)
  simp only [ho, Bool.and_eq_true, List.all_eq_true] at h1
  refine ⟨fun e he hb => ?_, fun j oj d hj hoj hd => ?_⟩
  · have := h1.1 e (by simpa using he)
    simpa [hb] using this
  · have := h1.2 j (List.mem_range.2 hj)
    simp only [hoj, Option.bind_some, hd, Bool.and_eq_true, Bool.or_eq_true, beq_iff_eq, bne_iff_ne, ne_eq, Bool.not_eq_true', decide_eq_true_eq] at this
    refine ⟨fun hne => this.1.resolve_left hne, fun hm => ?_⟩
    rcases this.2 with k | k
    · rw [List.contains_eq_mem, decide_eq_false_iff_not] at k
      exact absurd hm k
    · exact ⟨k.1, by simpa using k.2⟩

structure Hd (P : Program) (ops : Array Oper) (S : World → Prop) (base n : Nat) (ss : List Spec) (a0 : Act) (listed : Array Bool) (a : Act) (w : World) (vs : List Value) : Prop where
  len : vs.length = n
  shape : shapeL ss vs
  defs : a.defers = a0.defers
  siz : a.tmps.size = a0.tmps.size
  out : ∀ t : Nat, (∀ (j : Nat) o, j < n → ops[j]? = some o → listed.getD j false = true → o.dst ≠ some t) → a.tmps[t]? = a0.tmps[t]?
  inn : ∀ (j : Nat) o (t : Nat), j < n → ops[j]? = some o → listed.getD j false = true → o.dst = some t → t < a0.tmps.size → a.tmps[t]? = vs[j]?
  fact : ∀ (j : Nat) s v, j < n → listed.getD j false = true → ss[j]? = some s → vs[j]? = some v → s.fact base v w
  dis : ∀ (j k : Nat) s s' v v', j < k → listed.getD j false = true → listed.getD k false = true → ss[j]? = some s → ss[k]? = some s' → vs[j]? = some v → vs[k]? = some v' → ∀ g g', s.blk v g → s'.blk v' g' → g ≠ g'
  cls : S w
  bas : base ≤ w.heap.size

theorem take_get {α : Type} {l : List α} {i j : Nat} (h : j < i) : (l.take i)[j]? = l[j]? := by rw [List.getElem?_take, if_pos h]
theorem take_some {α : Type} {l : List α} {i j : Nat} {x : α} (h : (l.take i)[j]? = some x) : j < i ∧ l[j]? = some x := by
  rw [List.getElem?_take] at h
  split at h
  · exact ⟨‹_›, h⟩
  · cases h

/-- An operation that may come up sees what it sees in the order of the text. -/
theorem Hd.sees {n i : Nat} {ss : List Spec} {a0 a : Act} {listed : Array Bool} {w : World} {vs : List Value} {o : Oper} (h : Hd P ops S base n ss a0 listed a w vs) (hB : Region.looksB ops n = true) (hi : i < n) (ho : ops[i]? = some o)
    (hr : ∀ e ∈ o.after, Region.binds .any e = true → listed.getD e.on false = true) : ∀ t ∈ o.looksAt ops, a.tmps[t]? = (fr (ops.toList.take i) (vs.take i) a0).tmps[t]? := by
  intro t ht
  obtain ⟨-, hl⟩ := looksB_spec hB hi ho
  by_cases hex : ∃ (j : Nat) (oj : Oper), j < n ∧ ops[j]? = some oj ∧ oj.dst = some t
  · obtain ⟨j, oj, hj, hoj, hd⟩ := hex
    obtain ⟨hji, hp⟩ := (hl j oj t hj hoj hd).2 ht
    have hlj : listed.getD j false = true := by
      unfold pres at hp
      obtain ⟨e, he, rfl⟩ := List.mem_map.1 hp
      rw [List.mem_filter] at he
      exact hr e (by simpa using he.1) he.2
    have huniq : ∀ (k : Nat) o', k ≠ j → (ops.toList.take i)[k]? = some o' → o'.dst ≠ some t := fun k o' hk hko hd' => by
      obtain ⟨hki, hko'⟩ := take_some hko
      obtain ⟨-, hlk⟩ := looksB_spec hB (show k < n by omega) (by simpa using hko')
      exact (hlk j oj t hj hoj hd).1 (Ne.symm hk) hd'
    rcases Nat.lt_or_ge t a0.tmps.size with hlt | hge
    · rw [h.inn j oj t hj hoj hlj hd hlt, fr_in _ _ a0 t j oj (by rw [take_get hji]; simpa using hoj) (by rw [List.length_take, h.len]; omega) hd huniq hlt, take_get hji]
    · rw [Array.getElem?_eq_none (by rw [h.siz]; exact hge), Array.getElem?_eq_none (by rw [fr_size]; exact hge)]
  · rw [h.out t fun j oj hj hoj _ hd => hex ⟨j, oj, hj, hoj, hd⟩, fr_out _ _ a0 t fun j oj hoj hd => ?_]
    obtain ⟨hji, hoj'⟩ := take_some hoj
    exact hex ⟨j, oj, by omega, by simpa using hoj', hd⟩

theorem Spec.keep {s : Spec} (h : s.mono) {v : Value} {w w' : World} (hf : s.fact base v w) (hs : Since w w') : s.fact base v w' := by
  cases s with
  | det c => trivial
  | mk f t cs =>
    obtain ⟨g, e, hb, hg⟩ := hf
    exact ⟨g, e, hs.blk hb, hg⟩
  | any R => exact h _ _ _ hf hs

theorem set_same {listed : Array Bool} {i : Nat} (h : i < listed.size) : (listed.setIfInBounds i true).getD i false = true := by simp [h]

theorem Hd.step {n i : Nat} {ss : List Spec} {a0 a : Act} {listed : Array Bool} {w w' : World} {vs : List Value} {o : Oper} {s : Spec} {v : Value} (h : Hd P ops S base n ss a0 listed a w vs) (hB : Region.looksB ops n = true) (hn : n ≤ ops.size) (hsz : listed.size = ops.size)
    (hi : i < n) (ho : ops[i]? = some o) (hs : ss[i]? = some s) (hm : ∀ (j : Nat) s, ss[j]? = some s → s.mono) (hsh : shapeL ss (vs.set i v)) (hf : s.fact base v w') (hw : Since w w') (hc : S w') (hd : ∀ g, s.blk v g → w.heap.size ≤ g) :
    Hd P ops S base n ss a0 (listed.setIfInBounds i true) (a.put o.dst v) w' (vs.set i v) := by
  have hil : i < listed.size := by omega
  have hiv : i < vs.length := by rw [h.len]; exact hi
  obtain ⟨-, hl⟩ := looksB_spec hB hi ho
  have below : ∀ (j : Nat) s' v', listed.getD j false = true → j < n → ss[j]? = some s' → vs[j]? = some v' → ∀ g, s'.blk v' g → g < w.heap.size := by
    intro j s' v' hlj hj hsj hvj g hg
    have hf := h.fact j s' v' hj hlj hsj hvj
    cases s' with
    | det c => exact hg.elim
    | any R => exact hg.elim
    | mk f t cs =>
      obtain ⟨g', e, hb, -⟩ := hf
      have : g' = g := hm j _ hsj g' g (e.symm.trans hg)
      subst this
      exact hb.lt
  have lt_n : ∀ (j : Nat) s', ss[j]? = some s' → j < n := fun j s' hj => by
    have h1 := (List.getElem?_eq_some_iff.1 hj).1
    have h2 := shapeL_len h.shape
    have h3 := h.len
    omega
  refine ⟨by simpa using h.len, hsh, ?_, ?_, fun t ht => ?_, fun j oj t hj hoj hlj hdj hlt => ?_, fun j s' v' hj hlj hsj hvj => ?_, fun j k s1 s2 v1 v2 hjk hlj hlk h1 h2 hv1 hv2 g g' hg hg' => ?_, hc, Nat.le_trans h.bas hw.size⟩
  · rw [← h.defs]; cases e : o.dst <;> simp [Act.put]
  · rw [← h.siz]; cases e : o.dst <;> simp [Act.put]
  · rw [put_out (ht i o hi ho (set_same hil))]
    refine h.out t fun j oj hj hoj hlj => ht j oj hj hoj ?_
    exact getD_set_true hlj
  · by_cases e : j = i
    · subst e
      obtain rfl : oj = o := Option.some.inj (hoj.symm.trans ho)
      rw [hdj, put_in (by rw [h.siz]; exact hlt), List.getElem?_set_self hiv]
    · rw [put_out ((hl j oj t hj hoj hdj).1 e), List.getElem?_set_ne (Ne.symm e)]
      rw [getD_set_ne false (Ne.symm e)] at hlj
      exact h.inn j oj t hj hoj hlj hdj hlt
  · by_cases e : j = i
    · subst e
      obtain rfl : s' = s := Option.some.inj (hsj.symm.trans hs)
      rw [List.getElem?_set_self hiv] at hvj
      injection hvj with hvj
      subst hvj
      exact hf
    · rw [getD_set_ne false (Ne.symm e)] at hlj
      rw [List.getElem?_set_ne (Ne.symm e)] at hvj
      exact Spec.keep (hm j s' hsj) (h.fact j s' v' hj hlj hsj hvj) hw
  · have hj := lt_n j s1 h1
    have hk := lt_n k s2 h2
    by_cases e : j = i
    · subst e
      obtain rfl : s1 = s := Option.some.inj (h1.symm.trans hs)
      rw [List.getElem?_set_self hiv] at hv1
      injection hv1 with hv1
      subst hv1
      rw [getD_set_ne false (by omega)] at hlk
      rw [List.getElem?_set_ne (by omega)] at hv2
      have := below k s2 v2 hlk hk h2 hv2 g' hg'
      have := hd g hg
      omega
    · by_cases e' : k = i
      · subst e'
        obtain rfl : s2 = s := Option.some.inj (h2.symm.trans hs)
        rw [List.getElem?_set_self hiv] at hv2
        injection hv2 with hv2
        subst hv2
        rw [getD_set_ne false (by omega)] at hlj
        rw [List.getElem?_set_ne (by omega)] at hv1
        have := below j s1 v1 hlj hj h1 hv1 g hg
        have := hd g' hg'
        omega
      · rw [getD_set_ne false (Ne.symm e)] at hlj
        rw [getD_set_ne false (Ne.symm e')] at hlk
        rw [List.getElem?_set_ne (Ne.symm e)] at hv1
        rw [List.getElem?_set_ne (Ne.symm e')] at hv2
        exact h.dis j k s1 s2 v1 v2 hjk hlj hlk h1 h2 hv1 hv2 g g' hg hg'

theorem shapeL_set : ∀ {ss : List Spec} {vs : List Value} {i : Nat} {s : Spec} {v : Value}, shapeL ss vs → ss[i]? = some s → s.shape v → shapeL ss (vs.set i v)
  | s :: ss, u :: vs, 0, s', v, h, hs, hv => by
    simp at hs; subst hs
    exact ⟨hv, h.2⟩
  | s :: ss, u :: vs, i + 1, s', v, h, hs, hv => ⟨h.1, shapeL_set h.2 (by simpa using hs) hv⟩
  | [], [], i, s', v, h, hs, hv => by simp at hs
  | [], _ :: _, _, _, _, h, _, _ => h.elim
  | _ :: _, [], _, _, _, h, _, _ => h.elim
theorem shapeL_some : ∀ ss : List Spec, ∃ vs, shapeL ss vs
  | [] => ⟨[], trivial⟩
  | s :: ss => by
    obtain ⟨vs, h⟩ := shapeL_some ss
    cases s with
    | det c => exact ⟨c :: vs, rfl, h⟩
    | mk f t cs => exact ⟨f 0 :: vs, ⟨0, rfl⟩, h⟩
    | any R => exact ⟨undef :: vs, trivial, h⟩
theorem factL_get : ∀ {ss : List Spec} {vs : List Value} {j : Nat} {F : World → Prop}, (factL base ss vs)[j]? = some F → ∃ s v, ss[j]? = some s ∧ vs[j]? = some v ∧ F = s.fact base v
  | s :: ss, v :: vs, 0, F, h => by
    simp [factL] at h
    exact ⟨s, v, rfl, rfl, h.symm⟩
  | s :: ss, v :: vs, j + 1, F, h => by
    simp only [factL, List.getElem?_cons_succ] at h
    simpa using factL_get h
  | [], _, _, _, h => by simp [factL] at h
  | _ :: _, [], _, _, h => by simp [factL] at h
theorem factsOf_keep {Fs : List (World → Prop)} (hm : ∀ F ∈ Fs, ∀ w w', F w → Since w w' → F w') {w w' : World} : ∀ {js : List Nat}, factsOf Fs js w → Since w w' → factsOf Fs js w'
  | [], _, _ => trivial
  | j :: js, h, k => ⟨by
      have h1 := h.1
      cases e : Fs[j]? with
      | none => simp [List.getD, e]
      | some F =>
        simp only [List.getD, e, Option.getD_some] at h1 ⊢
        exact hm F (List.mem_of_getElem? e) w w' h1 k, factsOf_keep hm h.2 k⟩
theorem factsOf_mk {Fs : List (World → Prop)} {w : World} : ∀ {js : List Nat}, (∀ j ∈ js, ∀ F, Fs[j]? = some F → F w) → factsOf Fs js w
  | [], _ => trivial
  | j :: js, h => ⟨by
      cases e : Fs[j]? with
      | none => simp [List.getD, e]
      | some F => simpa [List.getD, e] using h j (by simp) F e, factsOf_mk fun k hk => h k (by simp [hk])⟩
theorem allF_mk {w : World} : ∀ {ss : List Spec} {vs : List Value}, (∀ (j : Nat) s v, ss[j]? = some s → vs[j]? = some v → s.fact base v w) → allF (factL base ss vs) w
  | s :: ss, v :: vs, h => ⟨h 0 s v rfl rfl, allF_mk fun j s' v' hs hv => h (j + 1) s' v' (by simpa using hs) (by simpa using hv)⟩
  | [], _, _ => by simp [factL, allF]
  | _ :: _, [], _ => by simp [factL, allF]
theorem blkL_mem {p : Nat → Prop} : ∀ {ss : List Spec} {vs : List Value}, p ∈ blkL ss vs → ∃ (k : Nat) (s : Spec) (v : Value), ss[k]? = some s ∧ vs[k]? = some v ∧ p = s.blk v
  | s :: ss, v :: vs, h => by
    simp only [blkL, List.mem_cons] at h
    rcases h with h | h
    · exact ⟨0, s, v, rfl, rfl, h⟩
    · obtain ⟨k, s', v', h1, h2, h3⟩ := blkL_mem h
      exact ⟨k + 1, s', v', by simpa using h1, by simpa using h2, h3⟩
  | [], _, h => by simp [blkL] at h
  | _ :: _, [], h => by simp [blkL] at h
theorem blkL_pair : ∀ {ss : List Spec} {vs : List Value}, (∀ (j k : Nat) s s' v v', j < k → ss[j]? = some s → ss[k]? = some s' → vs[j]? = some v → vs[k]? = some v' → ∀ g g', s.blk v g → s'.blk v' g' → g ≠ g') →
    (blkL ss vs).Pairwise (fun p q => ∀ g g', p g → q g' → g ≠ g')
  | s :: ss, v :: vs, h => by
    refine List.pairwise_cons.2 ⟨fun q hq g g' hg hg' => ?_, blkL_pair fun j k s1 s2 v1 v2 hjk h1 h2 h3 h4 => h (j + 1) (k + 1) s1 s2 v1 v2 (by omega) (by simpa using h1) (by simpa using h2) (by simpa using h3) (by simpa using h4)⟩
    obtain ⟨k, s', v', h1, h2, rfl⟩ := blkL_mem hq
    exact h 0 (k + 1) s s' v v' (by omega) rfl (by simpa using h1) rfl (by simpa using h2) g g' hg hg'
  | [], _, _ => by simp [blkL]
  | _ :: _, [], _ => by simp [blkL]

theorem put_congr {a b : Act} {d : Option Tmp} {u v : Value} (h : a.put d u = a.put d v) (hs : b.tmps.size = a.tmps.size) : b.put d u = b.put d v := by
  cases d with
  | none => rfl
  | some t =>
    rcases Nat.lt_or_ge t a.tmps.size with hlt | hge
    · have h1 : (a.put (some t) u).tmps[t]? = (a.put (some t) v).tmps[t]? := by rw [h]
      rw [put_in hlt, put_in hlt] at h1
      injection h1 with h1
      rw [h1]
    · simp only [Act.put]
      rw [Array.setIfInBounds_eq_of_size_le (by omega), Array.setIfInBounds_eq_of_size_le (by omega)]

def cnt (n : Nat) (listed : Array Bool) : Nat := (List.range n).countP fun i => !listed.getD i true
theorem cnt_set {listed : Array Bool} {i : Nat} (hl : i < listed.size) (hu : listed.getD i true = false) : ∀ n, (n ≤ i → cnt n (listed.setIfInBounds i true) = cnt n listed) ∧ (i < n → cnt n (listed.setIfInBounds i true) + 1 = cnt n listed)
  | 0 => ⟨fun _ => rfl, fun h => by omega⟩
  | n + 1 => by
    have ih := cnt_set hl hu n
    unfold cnt at ih ⊢
    simp only [List.range_succ, List.countP_append, List.countP_cons, List.countP_nil]
    refine ⟨fun h => ?_, fun h => ?_⟩
    · rw [ih.1 (by omega), getD_set_ne true (by omega)]
    · by_cases e : i = n
      · subst e
        rw [ih.1 (Nat.le_refl _)]
        simp [hl, hu]
      · have := ih.2 (by omega)
        rw [getD_set_ne true e]
        omega

theorem full_of {n : Nat} {listed : Array Bool} (inv : HeadInv .any ops n listed) (hn : n ≤ ops.size) (h : ∀ i, i < n → listed.getD i true = true) : listed = fullL ops.size n := by
  apply Array.ext
  · rw [inv.size]; simp [fullL]
  · intro i h1 h2
    simp only [fullL, Array.getElem_ofFn]
    rcases Nat.lt_or_ge i n with hlt | hge
    · have := h i hlt
      rw [decide_eq_true hlt]
      simpa [h1] using this
    · have := inv.tail i hge (by rw [← inv.size]; exact h1)
      rw [decide_eq_false (by omega)]
      simpa [h1] using this
theorem first_un {n : Nat} {listed : Array Bool} : ∀ m, m ≤ n → (∀ i, i < n → listed.getD i true = true) ∨ ∃ i, i < n ∧ listed.getD i true = false ∧ ∀ j, j < i → listed.getD j true = true := by
  have key : ∀ m, m ≤ n → (∀ i, i < m → listed.getD i true = true) ∨ ∃ i, i < n ∧ listed.getD i true = false ∧ ∀ j, j < i → listed.getD j true = true := by
    intro m
    induction m with
    | zero => exact fun _ => .inl fun i hi => by omega
    | succ m ih =>
      intro hm
      rcases ih (by omega) with h | h
      · cases e : listed.getD m true with
        | true =>
          refine .inl fun i hi => ?_
          rcases Nat.lt_or_ge i m with h1 | h1
          · exact h i h1
          · obtain rfl : i = m := by omega
            exact e
        | false => exact .inr ⟨m, by omega, e, h⟩
      · exact .inr h
  exact fun _ _ => key n (Nat.le_refl _)
theorem cnt_zero {n : Nat} {listed : Array Bool} (h : ∀ i, i < n → listed.getD i true = true) : cnt n listed = 0 := by
  unfold cnt
  rw [List.countP_eq_zero]
  intro i hi
  simp [h i (List.mem_range.1 hi)]
theorem cnt_pos {n i : Nat} {listed : Array Bool} (hi : i < n) (h : listed.getD i true = false) : 0 < cnt n listed := by
  unfold cnt
  rw [List.countP_pos_iff]
  exact ⟨i, List.mem_range.2 hi, by simp [h]⟩

theorem facts_any {Q : Exit → Act → World → Prop} {n : Nat} {ss : List Spec} {a0 : Act} (hsel : Region.noSelect ops = true) (hn : n ≤ ops.size) (hsc : n = ops.size ∨ (Region.sinkB .any ops n = true ∧ Region.chainB .any ops n = true)) (hB : Region.looksB ops n = true)
    (hseq : Region.seqB .any ops (ops.size - n) n (fullL ops.size n) = true) (hO : wpO P ops S base (fun a w => wpList P ops Q (ops.toList.drop n) a w) (ops.toList.take n) ss [] [] a0) (hsl : ss.length = n) (hmono : ∀ w w', S w → Since w w' → S w') :
    ∀ (f : Nat) (listed : Array Bool) (a : Act) (w : World) (vs : List Value), HeadInv .any ops n listed → cnt n listed = f → Hd P ops S base n ss a0 listed a w vs → wpAny P .any ops Q (f + (ops.size - n)) listed a w := by
  have hgood : ∀ (j : Nat) s, ss[j]? = some s → s.mono := fun j s hj => by
    obtain ⟨vs, hvs⟩ := shapeL_some ss
    have hjn : j < n := by have := (List.getElem?_eq_some_iff.1 hj).1; omega
    have hjo : j < ops.toList.length := by simp; omega
    exact (wpO_get hO hvs j (ops.toList[j]) s (by rw [take_get hjn]; exact List.getElem?_eq_getElem hjo) hj).1
  intro f
  induction f with
  | zero =>
    intro listed a w vs inv hc h
    have hall : ∀ i, i < n → listed.getD i true = true := fun i hi => by
      cases e : listed.getD i true with
      | true => rfl
      | false => have := cnt_pos hi e; omega
    have hall' : ∀ i, i < n → listed.getD i false = true := fun i hi => by
      have := hall i hi
      have hlt : i < listed.size := by rw [inv.size]; omega
      simpa [hlt] using this
    have hfin := wpO_fin hO h.shape w h.cls (by
      rw [List.nil_append]
      exact allF_mk fun j s v hs hv => h.fact j s v (by have := (List.getElem?_eq_some_iff.1 hs).1; omega) (hall' j (by have := (List.getElem?_eq_some_iff.1 hs).1; omega)) hs hv) (by
      rw [List.nil_append]
      exact blkL_pair fun j k s s' v v' hjk h1 h2 h3 h4 => h.dis j k s s' v v' hjk (hall' j (by have := (List.getElem?_eq_some_iff.1 h1).1; omega)) (hall' k (by have := (List.getElem?_eq_some_iff.1 h2).1; omega)) h1 h2 h3 h4)
    have ea : a = fr (ops.toList.take n) vs a0 := by
      obtain ⟨tm, df⟩ := a
      have e1 := h.defs
      have e2 := h.siz
      have e3 := h.out
      have e4 := h.inn
      dsimp only at e1 e2 e3 e4
      have : tm = (fr (ops.toList.take n) vs a0).tmps := by
        apply Array.ext_getElem?
        intro t
        by_cases hex : ∃ (j : Nat) (oj : Oper), j < n ∧ ops[j]? = some oj ∧ oj.dst = some t
        · obtain ⟨j, oj, hj, hoj, hd⟩ := hex
          rcases Nat.lt_or_ge t a0.tmps.size with hlt | hge
          · rw [e4 j oj t hj hoj (hall' j hj) hd hlt, fr_in _ _ a0 t j oj (by rw [take_get hj]; simpa using hoj) (by rw [h.len]; exact hj) hd ?_ hlt]
            intro k o' hk hko hd'
            obtain ⟨hkn, hko'⟩ := take_some hko
            obtain ⟨-, hlk⟩ := looksB_spec hB hkn (by simpa using hko')
            exact (hlk j oj t hj hoj hd).1 (Ne.symm hk) hd'
          · rw [Array.getElem?_eq_none (by omega), Array.getElem?_eq_none (by rw [fr_size]; exact hge)]
        · rw [e3 t fun j oj hj hoj _ hd => hex ⟨j, oj, hj, hoj, hd⟩, fr_out _ _ a0 t fun j oj hoj hd => ?_]
          obtain ⟨hji, hoj'⟩ := take_some hoj
          exact hex ⟨j, oj, hji, by simpa using hoj', hd⟩
      have hdf : df = (fr (ops.toList.take n) vs a0).defers := by rw [fr_defers]; exact e1
      subst this hdf
      rfl
    rw [← ea] at hfin
    have hl := full_of inv hn hall
    have hdl : (ops.toList.drop n).length = ops.size - n := by simp
    have := wpAny_of_seq (md := .any) (Q' := Q) (ops.toList.drop n) n listed a w (fun j => by simp [List.getElem?_drop]) (by rw [hdl, hl]; exact hseq) hfin
    rw [hdl] at this
    rw [Nat.zero_add]
    exact this
  | succ f ih =>
    intro listed a w vs inv hc h
    rw [show f + 1 + (ops.size - n) = (f + (ops.size - n)) + 1 by omega]
    have hex : ∃ i, i < n ∧ listed.getD i true = false ∧ ∀ j, j < i → listed.getD j true = true := by
      rcases first_un (n := n) (listed := listed) n (Nat.le_refl _) with h1 | h1
      · have := cnt_zero h1; omega
      · exact h1
    obtain ⟨i0, hi0, hu0, hm0⟩ := hex
    refine ⟨fun hr => ?_, fun i hi => ?_⟩
    · exfalso
      have ho0 : ops[i0]? = some ops[i0] := Array.getElem?_eq_getElem (by omega)
      obtain ⟨hl, -⟩ := looksB_spec hB hi0 ho0
      have : i0 ∈ Region.ready .any ops listed := mem_ready.2 ⟨hu0, _, ho0, fun e he hb => by
        have hlt := hl e he hb
        have := hm0 e.on hlt
        have hsz : e.on < listed.size := by rw [inv.size]; omega
        simpa [hsz] using this⟩
      rw [hr] at this
      cases this
    · obtain ⟨hun, o, ho, hall⟩ := mem_ready.1 hi
      have hin : i < n := by
        rcases Nat.lt_or_ge i n with h1 | h1
        · exact h1
        · have hio := (Array.getElem?_eq_some_iff.1 ho).1
          rcases hsc with hsc | ⟨hs1, hs2⟩
          · omega
          · exact absurd hi (tail_waits hs1 hs2 (by omega) inv _ i0 rfl hi0 hu0 i h1)
      have hsz := inv.size
      have his : i < listed.size := by rw [hsz]; omega
      have hss : ss[i]? = some ss[i] := List.getElem?_eq_getElem (by omega)
      generalize hsi : ss[i] = s at hss
      have hsee := h.sees hB hin ho hall
      have hex := eval_eq (ops := ops) (o := o) (Region.noSelect_spec hsel i o · · ho) hsee
      have hwa := wanted_eq (ops := ops) (o := o) hsee
      obtain ⟨hmo, hask⟩ := wpO_get hO h.shape i o s (by rw [take_get hin]; simpa using ho) hss
      rw [List.take_take, Nat.min_eq_left (by omega), List.nil_append] at hask
      have hF : factsOf (factL base (ss.take i) (vs.take i)) (pres o) w := factsOf_mk fun j hj F hF => by
        obtain ⟨s', v', h1, h2, rfl⟩ := factL_get hF
        obtain ⟨hji, h1⟩ := take_some h1
        obtain ⟨-, h2⟩ := take_some h2
        unfold pres at hj
        obtain ⟨e, he, rfl⟩ := List.mem_map.1 hj
        rw [List.mem_filter] at he
        exact h.fact e.on s' v' (by omega) (hall e (by simpa using he.1) he.2) h1 h2
      have hFm : ∀ w w', factsOf (factL base (ss.take i) (vs.take i)) (pres o) w → Since w w' → factsOf (factL base (ss.take i) (vs.take i)) (pres o) w' := fun w w' h k => factsOf_keep (fun F hF => by
        obtain ⟨j, hj⟩ := List.getElem?_of_mem hF
        obtain ⟨s', v', h1, h2, rfl⟩ := factL_get hj
        obtain ⟨-, h1⟩ := take_some h1
        exact fun w w' hf hk => Spec.keep (hgood j s' h1) hf hk) h k
      have go : ∀ (v : Value) (w' : World), s.shape v → s.fact base v w' → Since w w' → (∀ g, s.blk v g → w.heap.size ≤ g) → wpAny P .any ops Q (f + (ops.size - n)) (listed.setIfInBounds i true) (a.put o.dst v) w' := fun v w' hv hf hw hd =>
        ih _ _ _ _ (inv.set hi hin) (by have := (cnt_set his hun n).2 hin; omega) (h.step hB hn hsz hin ho hss hgood (shapeL_set h.shape hss hv) hf hw (hmono _ _ h.cls hw) hd)
      generalize hA : fr (ops.toList.take i) (vs.take i) a0 = A at *
      have hAs : a.tmps.size = A.tmps.size := by rw [← hA, fr_size]; exact h.siz
      unfold wpOp
      simp only [ho]
      rw [hwa]
      cases s with
      | det c =>
        unfold Spec.asks at hask
        dsimp only at hask
        by_cases hw : Region.wanted o (yielded ops A.tmps) = true
        · rw [if_pos hw] at hask ⊢
          obtain ⟨v, hv, hp⟩ := hask hFm w h.cls hF
          have hq := hv w ⟨h.cls, hF, Since.rfl_ w⟩
          have hpc : a.put o.dst v = a.put o.dst c := put_congr hp hAs
          left
          unfold Oper.wp
          rw [hex]
          unfold Oper.quietAt at hq
          generalize (execOp A.eval o).run P w = r at hq
          unfold Oper.quietUpon at hq
          split at hq
          · obtain ⟨rfl, rfl⟩ := hq
            show wpAny P .any ops Q _ _ (a.put o.dst _) _
            rw [hpc]
            exact go c _ rfl trivial (Since.rfl_ _) (fun g hg => hg.elim)
          · obtain ⟨rfl, rfl⟩ := hq
            show wpAny P .any ops Q _ _ (a.put o.dst _) _
            rw [hpc]
            exact go c _ rfl trivial (Since.rfl_ _) (fun g hg => hg.elim)
          · obtain ⟨rfl, hcall⟩ := hq
            rw [Oper.upon_enter]
            refine hcall.mono ?_
            rintro e w'' ⟨rfl, hC⟩
            show wpAny P .any ops Q _ _ (a.put o.dst _) _
            rw [hpc]
            exact go c _ rfl trivial hC.out.2.2 (fun g hg => hg.elim)
          · exact hq.elim
        · rw [if_neg hw] at hask ⊢
          subst hask
          exact go undef w rfl trivial (Since.rfl_ _) (fun g hg => hg.elim)
      | mk fn t cs =>
        obtain ⟨hw, hrun⟩ := hask
        rw [if_pos hw]
        left
        unfold Oper.wp
        rw [hex, hrun w]
        show wpAny P .any ops Q _ _ (a.put o.dst _) _
        refine go _ _ ⟨_, rfl⟩ ⟨_, rfl, Blk.new w t cs, h.bas⟩ ((Since.rfl_ w).alloc _) (fun g hg => ?_)
        have : w.heap.size = g := hmo _ _ hg
        omega
      | any R =>
        obtain ⟨hw, hrun⟩ := hask
        rw [if_pos hw]
        left
        unfold Oper.wp
        rw [hex]
        have hr := hrun w h.cls hF
        unfold runV at hr
        generalize (execOp A.eval o).run P w = r at hr
        split at hr
        · exact go _ _ trivial hr.1 hr.2 (fun g hg => hg.elim)
        · rw [Oper.upon_enter]
          refine hr.mono ?_
          rintro e w'' ⟨v, rfl, h1, h2⟩
          exact go v _ trivial h1 h2 (fun g hg => hg.elim)
        · exact hr.elim
end

/-- What stays as memory grows. -/
class MonoW (S : World → Prop) : Prop where
  m : ∀ w w', S w → Since w w' → S w'
instance {A B : World → Prop} [hA : MonoW A] [hB : MonoW B] : MonoW (fun w => A w ∧ B w) := ⟨fun w w' h k => ⟨hA.m w w' h.1 k, hB.m w w' h.2 k⟩⟩
instance {p : Addr} {v : Value} : MonoW (fun w => w.cell? p = some v) := ⟨fun _ _ h k => keepC k _ _ h⟩
instance {w0 : World} : MonoW (fun w => Since w0 w) := ⟨fun _ _ h k => h.trans k⟩
instance {g : Nat} {t : TypeId} {cs : Array Value} : MonoW (fun w => Blk w g t cs) := ⟨fun _ _ h k => k.blk h⟩
instance {p : Prop} : MonoW (fun _ => p) := ⟨fun _ _ h _ => h⟩
theorem cls_call {S F : World → Prop} [hM : MonoW S] {wx w w' : World} (hF : ∀ w w', F w → Since w w' → F w') (hC : Cls (fun w' => S w' ∧ F w' ∧ Since wx w') w) (h : Since w w') : Cls (fun w' => S w' ∧ F w' ∧ Since wx w') w' :=
  ⟨hM.m _ _ hC.out.1 h, hF _ _ hC.out.2.1 h, hC.out.2.2.trans h⟩
/-- The region, walked once in the order of the text. -/
theorem region_facts {P : Program} {id : Nat} {Q : Exit → Act → World → Prop} {a : Act} {w : World} {l : List Oper} (n : Nat) (S : World → Prop) (hm : P.follows .mixedOrders = true) (hB : Region.factsB l.toArray n = true) (hS : S w.drew) [hmono : MonoW S] (ss : List Spec)
    (h : wpO P l.toArray S w.heap.size (fun a' w' => wpList P l.toArray Q (l.drop n) a' w') (l.take n) ss [] [] a) : (Code.region id l.toArray true).wp P Q a w := by
  unfold Region.factsB at hB
  simp only [Bool.and_eq_true, Bool.or_eq_true, decide_eq_true_eq] at hB
  obtain ⟨⟨⟨⟨h1, h2⟩, h3⟩, h4⟩, h5⟩ := hB
  obtain ⟨vs, hvs⟩ := shapeL_some ss
  have hlen : (l.take n).length = n := by simp at h2 ⊢; omega
  have hss : ss.length = n := by rw [← wpO_len h hvs, hlen]
  refine wp_region_any hm ?_
  have inv0 : HeadInv .any l.toArray n (Array.replicate l.toArray.size false) :=
    ⟨by simp, fun j oj _ hl => (by rw [getD_replicate_false] at hl; cases hl), fun t _ ht => getD_in (by simpa using ht) (getD_replicate_false _ _)⟩
  have hc : cnt n (Array.replicate l.toArray.size false) = n := by
    unfold cnt
    rw [List.countP_eq_length.2, List.length_range]
    intro i hi
    have hin := List.mem_range.1 hi
    simp only [List.size_toArray] at h2 ⊢
    have : i < l.length := by omega
    simp [this]
  have hd0 : Hd P l.toArray S w.heap.size n ss a (Array.replicate l.toArray.size false) a { w with drawn := w.drawn + 1 } vs :=
    ⟨by rw [← shapeL_len hvs, hss], hvs, rfl, rfl, fun t _ => rfl, fun j o t _ _ hl => (by rw [getD_replicate_false] at hl; cases hl), fun j s v _ hl => (by rw [getD_replicate_false] at hl; cases hl), fun j k s s' v v' _ hl => (by rw [getD_replicate_false] at hl; cases hl), hS, Nat.le_refl _⟩
  have := facts_any h1 h2 h3 h4 h5 (by simpa using h) hss hmono.m n _ _ _ _ inv0 hc hd0
  rwa [show n + (l.toArray.size - n) = l.toArray.size by omega] at this

section
variable {P : Program} {ops : Array Oper} {S : World → Prop} {base : Nat} {K : Act → World → Prop} {l : List Oper} {o : Oper} {ss : List Spec} {Fs : List (World → Prop)} {Bs : List (Nat → Prop)} {a : Act}
theorem wpO_nil (h : ∀ w, S w → allF Fs w → Bs.Pairwise (fun p q => ∀ g g', p g → q g' → g ≠ g') → K a w) : wpO P ops S base K [] [] Fs Bs a := h
/-- One value: c. The walk goes on behind a variable. -/
theorem wpO_det {c : Value} (hw : Region.wanted o (yielded ops a.tmps) = true) (h : (∀ w w', factsOf Fs (pres o) w → Since w w' → factsOf Fs (pres o) w') → ∀ wx, S wx → factsOf Fs (pres o) wx → ∀ K' : Act → Prop, (∀ a', a' = a.put o.dst c → K' a') → o.quiet P a (Cls fun w' => S w' ∧ factsOf Fs (pres o) w' ∧ Since wx w') K')
    (k : wpO P ops S base K l ss (Fs ++ [fun _ => True]) (Bs ++ [fun _ => False]) (a.put o.dst c)) : wpO P ops S base K (o :: l) (.det c :: ss) Fs Bs a :=
  ⟨trivial, by
    unfold Spec.asks
    dsimp only
    rw [if_pos hw]
    exact fun hm wx h1 h2 => h hm wx h1 h2 _ (fun a' h => h), fun v hv => by cases hv; exact k⟩
theorem wpO_skip (hw : Region.wanted o (yielded ops a.tmps) = false) (k : wpO P ops S base K l ss (Fs ++ [fun _ => True]) (Bs ++ [fun _ => False]) (a.put o.dst undef)) : wpO P ops S base K (o :: l) (.det undef :: ss) Fs Bs a :=
  ⟨trivial, by
    unfold Spec.asks
    dsimp only
    rw [if_neg (by rw [hw]; simp)], fun v hv => by cases hv; exact k⟩
theorem wpO_mk {f : Nat → Value} {t : TypeId} {cs : Array Value} (hi : ∀ g g', f g = f g' → g = g') (hw : Region.wanted o (yielded ops a.tmps) = true) (h : ∀ w, (execOp a.eval o).run P w = .ok (.value (f w.heap.size)) (w.alloc (.cells cs t)))
    (k : ∀ g, wpO P ops S base K l ss (Fs ++ [fun w => Blk w g t cs ∧ base ≤ g]) (Bs ++ [fun g' => g = g']) (a.put o.dst (f g))) : wpO P ops S base K (o :: l) (.mk f t cs :: ss) Fs Bs a :=
  ⟨hi, ⟨hw, h⟩, fun v hv => by
    obtain ⟨g, rfl⟩ := hv
    have e1 : Spec.fact base (.mk f t cs) (f g) = fun w => Blk w g t cs ∧ base ≤ g := by
      funext w
      apply propext
      constructor
      · rintro ⟨g', e, h⟩
        rw [hi _ _ e]; exact h
      · exact fun h => ⟨g, rfl, h⟩
    have e2 : Spec.blk (.mk f t cs) (f g) = fun g' => g = g' := by
      funext g'
      apply propext
      exact ⟨fun h => hi _ _ h, fun h => by rw [← h]; rfl⟩
    rw [e1, e2]
    exact k g⟩
end
end Go.Proofs.Ytdnccjdlmepafaa
end
section
namespace Go.Proofs.Ytdnccjdlmepafaa
set_option linter.unusedSimpArgs false
set_option linter.unusedVariables false
open Go.RowKit Go.BigFrame
attribute [local go_sem ↓] eqPt neqPt
end Go.Proofs.Ytdnccjdlmepafaa
end
section
namespace Go.Proofs.Ytdnccjdlmepafaa
set_option linter.unusedSimpArgs false
set_option linter.unusedVariables false
open Go.RowKit Go.BigFrame
attribute [local go_sem ↓] eqPt neqPt
attribute [local go_sem] max2_int min2_int max_two min_two
/-- Where a point is, seen along a line. -/
def crossV (ax ay bx by_ px py : Int) : Int := (bx - ax) * (py - ay) - (by_ - ay) * (px - ax)
def cmpI (x y : Int) : Int := if x < y then -1 else if y < x then 1 else 0
theorem Compare_any (x y : Int) (w : World) : Calls Try.prog 30 #[.int .i64 x, .int .i64 y] w fun e w' => e = .returned (.int .i64 (cmpI x y)) ∧ w = w' := by
  go_enter Try.func30, Try.ntmps30
  go_wp2
  all_goals (go_ret; refine ⟨?_, rfl⟩; unfold cmpI; (repeat' split) <;> first | rfl | (exfalso; omega))

theorem ClampS_any (x y : Int) (w : World) : Calls Try.prog 29 #[.agg #[.int .i64 x, .int .i64 y]] w fun e w' => e = .returned (.agg #[.int .i64 (clampI x), .int .i64 (clampI y)]) ∧ Since w w' := Clamp_any x y w

set_option maxHeartbeats 1000000 in
theorem way_any (ax ay bx by_ : Int) (w : World) : Calls Try.prog 72 #[.agg #[.int .i64 ax, .int .i64 ay], .agg #[.int .i64 bx, .int .i64 by_]] w fun e w' =>
    e = .returned (.agg #[.int .i64 (clampI bx - clampI ax), .int .i64 (clampI by_ - clampI ay)]) ∧ Since w w' := by
  have q1 := clampI_bd ax
  have q2 := clampI_bd ay
  have q3 := clampI_bd bx
  have q4 := clampI_bd by_
  go_enter Try.func72, Try.ntmps72
  go_upto_region 1 with fail
  refine atW (fun w' => Blk w' w.heap.size 34 #[.int .i64 ax, .int .i64 ay] ∧ Blk w' (w.heap.size + 1) 34 #[.int .i64 bx, .int .i64 by_] ∧ Blk w' (w.heap.size + 1 + 1) 34 #[.int .i64 0, .int .i64 0] ∧ Since w w') ⟨((Blk.new w _ _).alloc _).alloc _, (Blk.new' (by simp)).alloc _, Blk.new' (by simp), (((Since.rfl_ w).alloc _).alloc _).alloc _⟩ ?_
  rintro w1 ⟨ha, hb, hr, hs⟩
  have a0 : w1.cell? ⟨w.heap.size, 0, none⟩ = some (.int .i64 ax) := ha.cell 0
  have a1 : w1.cell? ⟨w.heap.size, 1, none⟩ = some (.int .i64 ay) := ha.cell 1
  have b0 : w1.cell? ⟨w.heap.size + 1, 0, none⟩ = some (.int .i64 bx) := hb.cell 0
  have b1 : w1.cell? ⟨w.heap.size + 1, 1, none⟩ = some (.int .i64 by_) := hb.cell 1
  have HB := Lib.hid (And.intro ha (And.intro hb (And.intro hr hs)))
  clear ha hb hr hs
  refine region_tail 4 (fun w' => w'.cell? ⟨w.heap.size, 0, none⟩ = some (.int .i64 ax) ∧ w'.cell? ⟨w.heap.size, 1, none⟩ = some (.int .i64 ay) ∧ w'.cell? ⟨w.heap.size + 1, 0, none⟩ = some (.int .i64 bx) ∧ w'.cell? ⟨w.heap.size + 1, 1, none⟩ = some (.int .i64 by_) ∧ Since w1 w') (by kernel_rfl) (by kernel_rfl) (by (repeat' refine And.intro ?_ ?_) <;> first | (simp (maxDischargeDepth := 9) [a0, a1, b0, b1,  cSetS, cSetO, cellNew, World.cell?_alloc_some, cellDrew]; done) | (repeat (first | with_reducible assumption | with_reducible exact Since.rfl_ _ | refine Since.setCell ?_ (by (try dsimp only); omega) _ | refine Since.alloc ?_ _ | refine Since.drew ?_))) ?_
  simp only [List.take_succ_cons, List.take_zero, List.drop_succ_cons, List.drop_zero]
  repeat (go_big_quiet_step ((first | (intro hC; go_at_call 29; refine (Clamp_any _ _ _).mono ?_; rintro e w' ⟨rfl, hb⟩; refine ⟨rfl, ?_⟩; have k1 := keepC hb; have k2 := keepS hb; have hC := hC.out; (try dsimp only at hC); simp [Cls, hC, k1, k2]) | (intro hC; have hC := hC.out; (try simp only [hC, Result.andThen]); first | exact ⟨True.intro, rfl⟩ | exact ⟨rfl, rfl⟩ | rfl))))
  refine tail_end ?_
  clear a0 a1 b0 b1
  rintro w2 ⟨-, -, -, -, hs⟩
  have ha := hs.blk HB.out.1
  have hb := hs.blk HB.out.2.1
  have hr := hs.blk HB.out.2.2.1
  have HS := Lib.hid (HB.out.2.2.2.trans hs)
  have hsz : w.heap.size + 1 + 1 < w2.heap.size := hr.lt
  have a_0 := ha.cell 0
  have a_1 := ha.cell 1
  have a_f0 := ha.frozen 0
  have a_f1 := ha.frozen 1
  simp only [List.getElem?_toArray, List.getElem?_cons_zero, List.getElem?_cons_succ] at a_0 a_1
  have b_0 := hb.cell 0
  have b_1 := hb.cell 1
  have b_f0 := hb.frozen 0
  have b_f1 := hb.frozen 1
  simp only [List.getElem?_toArray, List.getElem?_cons_zero, List.getElem?_cons_succ] at b_0 b_1
  have r_0 := hr.cell 0
  have r_1 := hr.cell 1
  have r_f0 := hr.frozen 0
  have r_f1 := hr.frozen 1
  simp only [List.getElem?_toArray, List.getElem?_cons_zero, List.getElem?_cons_succ] at r_0 r_1
  clear hs ha hb hr
  go_wp2
  refine bodyPost_ret (v := .agg #[.int .i64 (clampI bx - clampI ax), .int .i64 (clampI by_ - clampI ay)]) (by simp [results, Try.results72, go_sem, cSetS, cSetO, r_0, r_1]) rfl ⟨rfl, ?_⟩
  exact (((((HS.out.setCell (by dsimp only; omega) _).setCell (by dsimp only; omega) _).setCell (by dsimp only; omega) _).setCell (by dsimp only; omega) _).setCell (by dsimp only; omega) _).setCell (by dsimp only; omega) _

set_option maxHeartbeats 1000000 in
theorem Cross_any (ax ay bx by_ cx cy : Int) (w : World) : Calls Try.prog 61 #[.agg #[.int .i64 ax, .int .i64 ay], .agg #[.int .i64 bx, .int .i64 by_], .agg #[.int .i64 cx, .int .i64 cy]] w fun e w' =>
    e = .returned (.int .i64 (crossV (clampI ax) (clampI ay) (clampI bx) (clampI by_) (clampI cx) (clampI cy))) ∧ Since w w' := by
  have q1 := clampI_bd ax
  have q2 := clampI_bd ay
  have q3 := clampI_bd bx
  have q4 := clampI_bd by_
  have q5 := clampI_bd cx
  have q6 := clampI_bd cy
  have m1 : ((clampI bx - clampI ax) * (clampI cy - clampI ay)).natAbs ≤ 4398046511104 := Nat.le_trans (mul_bd (A := 2097152) (B := 2097152) (by omega) (by omega)) (by decide)
  have m2 : ((clampI by_ - clampI ay) * (clampI cx - clampI ax)).natAbs ≤ 4398046511104 := Nat.le_trans (mul_bd (A := 2097152) (B := 2097152) (by omega) (by omega)) (by decide)
  have e1 : wrap64 ((clampI bx - clampI ax) * (clampI cy - clampI ay)) = (clampI bx - clampI ax) * (clampI cy - clampI ay) := wrap_id (by omega)
  have e2 : wrap64 ((clampI by_ - clampI ay) * (clampI cx - clampI ax)) = (clampI by_ - clampI ay) * (clampI cx - clampI ax) := wrap_id (by omega)
  have e3 : wrap64 ((clampI bx - clampI ax) * (clampI cy - clampI ay) - (clampI by_ - clampI ay) * (clampI cx - clampI ax)) = (clampI bx - clampI ax) * (clampI cy - clampI ay) - (clampI by_ - clampI ay) * (clampI cx - clampI ax) := wrap_id (by omega)
  clear m1 m2 q1 q2 q3 q4 q5 q6
  go_enter Try.func61, Try.ntmps61
  go_upto_region 1 with fail
  refine atW (fun w' => Blk w' w.heap.size 34 #[.int .i64 ax, .int .i64 ay] ∧ Blk w' (w.heap.size + 1) 34 #[.int .i64 bx, .int .i64 by_] ∧ Blk w' (w.heap.size + 1 + 1) 34 #[.int .i64 cx, .int .i64 cy] ∧ Since w w') ⟨((Blk.new w _ _).alloc _).alloc _, (Blk.new' (by simp)).alloc _, Blk.new' (by simp), (((Since.rfl_ w).alloc _).alloc _).alloc _⟩ ?_
  rintro w1 ⟨ha, hb, hr, hs⟩
  have a0 : w1.cell? ⟨w.heap.size, 0, none⟩ = some (.int .i64 ax) := ha.cell 0
  have a1 : w1.cell? ⟨w.heap.size, 1, none⟩ = some (.int .i64 ay) := ha.cell 1
  have b0 : w1.cell? ⟨w.heap.size + 1, 0, none⟩ = some (.int .i64 bx) := hb.cell 0
  have b1 : w1.cell? ⟨w.heap.size + 1, 1, none⟩ = some (.int .i64 by_) := hb.cell 1
  have c0 : w1.cell? ⟨w.heap.size + 1 + 1, 0, none⟩ = some (.int .i64 cx) := hr.cell 0
  have c1 : w1.cell? ⟨w.heap.size + 1 + 1, 1, none⟩ = some (.int .i64 cy) := hr.cell 1
  have HB := Lib.hid (And.intro ha (And.intro hb (And.intro hr hs)))
  clear ha hb hr hs
  apply region_facts 8 (fun w' => w'.cell? ⟨w.heap.size, 0, none⟩ = some (.int .i64 ax) ∧ w'.cell? ⟨w.heap.size, 1, none⟩ = some (.int .i64 ay) ∧ w'.cell? ⟨w.heap.size + 1, 0, none⟩ = some (.int .i64 bx) ∧ w'.cell? ⟨w.heap.size + 1, 1, none⟩ = some (.int .i64 by_) ∧ w'.cell? ⟨w.heap.size + 1 + 1, 0, none⟩ = some (.int .i64 cx) ∧ w'.cell? ⟨w.heap.size + 1 + 1, 1, none⟩ = some (.int .i64 cy) ∧ Since w1 w')
  case hm => kernel_rfl
  case hB => kernel_rfl
  case hS => exact ⟨a0, a1, b0, b1, c0, c1, (Since.rfl_ w1).drew⟩
  case h =>
  simp only [List.take_succ_cons, List.take_zero, List.drop_succ_cons, List.drop_zero]
  apply wpO_det
  case hw => rfl
  case h =>
    intro hFm wx hS_ hF_ K hK
    go_big_quiet_op
    first
      | exact hK _ rfl
      | (apply Exists.intro; refine ⟨fun _ => ?_, ?_⟩; (focus (first | (intro hC; have hC := hC.out; (try simp only [hC, Result.andThen]); first | exact ⟨True.intro, rfl⟩ | exact ⟨rfl, rfl⟩ | rfl))); exact hK _ rfl)
  case k =>
  simp only [Act.put, List.setIfInBounds_toArray, List.set_cons_succ, List.set_cons_zero, List.cons_append, List.nil_append]
  apply wpO_det
  case hw => rfl
  case h =>
    intro hFm wx hS_ hF_ K hK
    go_big_quiet_op
    first
      | exact hK _ rfl
      | (apply Exists.intro; refine ⟨fun _ => ?_, ?_⟩; (focus (first | (intro hC; have hC := hC.out; (try simp only [hC, Result.andThen]); first | exact ⟨True.intro, rfl⟩ | exact ⟨rfl, rfl⟩ | rfl))); exact hK _ rfl)
  case k =>
  simp only [Act.put, List.setIfInBounds_toArray, List.set_cons_succ, List.set_cons_zero, List.cons_append, List.nil_append]
  apply wpO_det
  case hw => rfl
  case h =>
    intro hFm wx hS_ hF_ K hK
    go_big_quiet_op
    first
      | exact hK _ rfl
      | (apply Exists.intro; refine ⟨fun _ => ?_, ?_⟩; (focus (first | (intro hC; go_at_call 72; refine (way_any _ _ _ _ _).mono ?_; rintro e w' ⟨rfl, hb⟩; refine ⟨rfl, ?_⟩; exact cls_call hFm hC hb))); exact hK _ rfl)
  case k =>
  simp only [Act.put, List.setIfInBounds_toArray, List.set_cons_succ, List.set_cons_zero, List.cons_append, List.nil_append]
  apply wpO_det
  case hw => rfl
  case h =>
    intro hFm wx hS_ hF_ K hK
    go_big_quiet_op
    first
      | exact hK _ rfl
      | (apply Exists.intro; refine ⟨fun _ => ?_, ?_⟩; (focus (first | (intro hC; have hC := hC.out; (try simp only [hC, Result.andThen]); first | exact ⟨True.intro, rfl⟩ | exact ⟨rfl, rfl⟩ | rfl))); exact hK _ rfl)
  case k =>
  simp only [Act.put, List.setIfInBounds_toArray, List.set_cons_succ, List.set_cons_zero, List.cons_append, List.nil_append]
  apply wpO_det
  case hw => rfl
  case h =>
    intro hFm wx hS_ hF_ K hK
    go_big_quiet_op
    first
      | exact hK _ rfl
      | (apply Exists.intro; refine ⟨fun _ => ?_, ?_⟩; (focus (first | (intro hC; have hC := hC.out; (try simp only [hC, Result.andThen]); first | exact ⟨True.intro, rfl⟩ | exact ⟨rfl, rfl⟩ | rfl))); exact hK _ rfl)
  case k =>
  simp only [Act.put, List.setIfInBounds_toArray, List.set_cons_succ, List.set_cons_zero, List.cons_append, List.nil_append]
  apply wpO_det
  case hw => rfl
  case h =>
    intro hFm wx hS_ hF_ K hK
    go_big_quiet_op
    first
      | exact hK _ rfl
      | (apply Exists.intro; refine ⟨fun _ => ?_, ?_⟩; (focus (first | (intro hC; go_at_call 72; refine (way_any _ _ _ _ _).mono ?_; rintro e w' ⟨rfl, hb⟩; refine ⟨rfl, ?_⟩; exact cls_call hFm hC hb))); exact hK _ rfl)
  case k =>
  simp only [Act.put, List.setIfInBounds_toArray, List.set_cons_succ, List.set_cons_zero, List.cons_append, List.nil_append]
  apply wpO_mk (f := fun g => .pointer (some ⟨g, 0, none⟩)) (t := 34) (cs := #[.int .i64 0, .int .i64 0])
  case hi => (intro g g' h; simpa using h)
  case hw => rfl
  case h => (intro w; simp [go_sem])
  case k =>
  intro g1
  simp only [Act.put, List.setIfInBounds_toArray, List.set_cons_succ, List.set_cons_zero, List.cons_append, List.nil_append]
  apply wpO_mk (f := fun g => .pointer (some ⟨g, 0, none⟩)) (t := 34) (cs := #[.int .i64 0, .int .i64 0])
  case hi => (intro g g' h; simpa using h)
  case hw => rfl
  case h => (intro w; simp [go_sem])
  case k =>
  intro g2
  simp only [Act.put, List.setIfInBounds_toArray, List.set_cons_succ, List.set_cons_zero, List.cons_append, List.nil_append]
  refine wpO_nil ?_
  intro w2 hS hF hB
  (try simp [allF] at hF)
  (try simp [List.pairwise_cons] at hB)
  obtain ⟨⟨h1, l1⟩, h2, l2⟩ := hF
  have p_0 := h1.cell 0
  have p_1 := h1.cell 1
  have p_f0 := h1.frozen 0
  have p_f1 := h1.frozen 1
  simp only [List.getElem?_toArray, List.getElem?_cons_zero, List.getElem?_cons_succ] at p_0 p_1
  have q_0 := h2.cell 0
  have q_1 := h2.cell 1
  have q_f0 := h2.frozen 0
  have q_f1 := h2.frozen 1
  simp only [List.getElem?_toArray, List.getElem?_cons_zero, List.getElem?_cons_succ] at q_0 q_1
  have HS := Lib.hid (HB.out.2.2.2.trans hS.2.2.2.2.2.2)
  have hsz := HB.out.2.2.2.size
  clear hS h1 h2 a0 a1 b0 b1 c0 c1 HB
  go_wp2
  go_ret
  exact ⟨ret_int (by unfold crossV; first | exact e3 | rfl), (((HS.out.setCell (by dsimp only; omega) _).setCell (by dsimp only; omega) _).setCell (by dsimp only; omega) _).setCell (by dsimp only; omega) _⟩

def turnV (ax ay bx by_ px py : Int) : Int := cmpI (crossV (clampI ax) (clampI ay) (clampI bx) (clampI by_) (clampI px) (clampI py)) 0
theorem Turn_any (ax ay bx by_ cx cy : Int) (w : World) : Calls Try.prog 37 #[.agg #[.int .i64 ax, .int .i64 ay], .agg #[.int .i64 bx, .int .i64 by_], .agg #[.int .i64 cx, .int .i64 cy]] w fun e w' =>
    e = .returned (.int .i64 (turnV ax ay bx by_ cx cy)) ∧ Since w w' := by
  go_enter Try.func37, Try.ntmps37
  go_wp2_with fail
  refine (Cross_any _ _ _ _ _ _ _).mono ?_
  rintro e w1 ⟨rfl, hs⟩
  have HS := Lib.hid ((((Since.rfl_ w).alloc _).alloc _).alloc _ |>.trans hs)
  clear hs
  go_wp2_with (go_at_call 30; refine (Compare_any _ _ _).mono ?_; rintro e w' ⟨rfl, rfl⟩)
  go_ret
  exact ⟨rfl, HS.out⟩

end Go.Proofs.Ytdnccjdlmepafaa
end
section
namespace Go.Proofs.Ytdnccjdlmepafaa
set_option linter.unusedSimpArgs false
set_option linter.unusedVariables false

/-- The cross product of the ways from a to b and from a to c. -/
def crs (a b c : Pt2) : Int := crossV a.1 a.2 b.1 b.2 c.1 c.2
/-- Before, by X, then by Y. -/
def lxB (a b : Pt2) : Bool := decide (a.1 < b.1) || (decide (a.1 = b.1) && decide (a.2 < b.2))
def lx (a b : Pt2) : Prop := a.1 < b.1 ∨ (a.1 = b.1 ∧ a.2 < b.2)
theorem lx_irr (a : Pt2) : ¬ lx a a := by unfold lx; omega
theorem lx_tri (a b : Pt2) : lx a b ∨ a = b ∨ lx b a := by
  obtain ⟨a1, a2⟩ := a
  obtain ⟨b1, b2⟩ := b
  simp only [lx, Prod.mk.injEq]; omega
def Inc : List Pt2 → Prop
  | b :: a :: s => lx a b ∧ Inc (a :: s)
  | _ => True
def Conv : List Pt2 → Prop
  | c :: b :: a :: s => 0 < crs a b c ∧ Conv (b :: a :: s)
  | _ => True
/-- All points of X lie to the left of each edge, or on it. -/
def Lft (X : List Pt2) : List Pt2 → Prop
  | b :: a :: s => (∀ x ∈ X, 0 ≤ crs a b x) ∧ Lft X (a :: s)
  | _ => True
theorem crs_self (a b : Pt2) : crs a b b = 0 ∧ crs a b a = 0 ∧ crs a a b = 0 := by unfold crs crossV; refine ⟨?_, ?_, ?_⟩ <;> grind
structure GoodC (X s : List Pt2) : Prop where
  ne : s ≠ []
  inc : Inc s
  conv : Conv s
  lft : Lft X s
  mem : ∀ q ∈ s, q ∈ X
  top : ∀ b r, s = b :: r → ∀ x ∈ X, x = b ∨ lx x b
  bot : ∀ b, s.getLast? = some b → ∀ x ∈ X, x = b ∨ lx b x
/-- Points in their order, each one once. -/
def Srt (X : List Pt2) : Prop := X.Pairwise lx
/-- Turned by half a circle. -/
def ng (p : Pt2) : Pt2 := (-p.1, -p.2)
theorem pAt_mem {s : List Pt2} {i : Nat} (h : i < s.length) : pAt s i ∈ s := by unfold pAt; simp [List.getD, h]
theorem mem_pAt {s : List Pt2} {p : Pt2} (h : p ∈ s) : ∃ i, i < s.length ∧ pAt s i = p := by
  obtain ⟨i, hi, rfl⟩ := List.mem_iff_getElem.1 h
  exact ⟨i, hi, by simp [pAt, List.getD, hi]⟩
/-- What is known of the two chains: s from the greatest point down to the least one, u back. -/
structure Two (X s u : List Pt2) : Prop where
  s2 : 2 ≤ s.length
  u2 : 2 ≤ u.length
  low : GoodC X s
  upp : GoodC (X.reverse.map ng) (u.map ng)
  e1 : pAt s 0 = pAt u (u.length - 1)
  e2 : pAt u 0 = pAt s (s.length - 1)
section
variable {X s u : List Pt2} (h : Two X s u)
omit h in
omit h in
omit h in
end
end Go.Proofs.Ytdnccjdlmepafaa
end
