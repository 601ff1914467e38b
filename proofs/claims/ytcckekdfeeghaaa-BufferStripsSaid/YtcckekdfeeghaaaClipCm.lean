/-
  The memory of terrref3.Clipped: a row of rows of points; plain laws of the reference's line. Conditions: none.
-/
import Derived.Test.YtcckekdfeeghaaaClipCp
import Derived.Test.YtcckekdfeeghaaaClipF
namespace Go.Proofs.Ytcckekdfeeghaaa
set_option linter.unusedSimpArgs false
set_option linter.unusedVariables false
open Go.RowKit Go.BigFrame

/-- A point behind the last of the lists. -/
def addL (outs : List (List Pt2)) (q : Pt2) : List (List Pt2) := outs.dropLast ++ [rAt outs (outs.length - 1) ++ [q]]
/-- One segment of the reference's line. -/
def refStep (outs : List (List Pt2)) (op : Bool) : SegT → List (List Pt2) × Bool
  | none => (outs, false)
  | some p => (if op = true ∧ p.1.1 = 0 then addL outs (cutP p.2) else addL (outs ++ [[cutP p.1]]) (cutP p.2), p.2.1 == p.2.2.1)
def refRun (seg : Nat → SegT) : Nat → Nat → List (List Pt2) → Bool → List (List Pt2) × Bool
  | 0, _, o, b => (o, b)
  | k + 1, i, o, b => refRun seg k (i + 1) (refStep o b (seg i)).1 (refStep o b (seg i)).2
def longB (l : List Pt2) : Bool := decide (1 < l.length)
/-- What is left of the lists: without repeated points, and of more than one point. -/
def restL (outs : List (List Pt2)) : List (List Pt2) := (outs.map cmpL).filter longB
theorem restL_snoc (outs : List (List Pt2)) (l : List Pt2) : restL (outs ++ [l]) = endO (restL outs) (cmpL l) := by
  unfold restL endO longB
  rw [List.map_append, List.filter_append]
  simp only [List.map_cons, List.map_nil, List.filter_cons, List.filter_nil, decide_eq_true_eq]
  split
  · rfl
  · exact List.append_nil _
theorem addL_snoc (outs : List (List Pt2)) (l : List Pt2) (q : Pt2) : addL (outs ++ [l]) q = outs ++ [l ++ [q]] := by
  unfold addL rAt
  simp [List.getD]
/-- How the text's state belongs to the reference's. -/
def sameSt (outs : List (List Pt2)) (now : List Pt2) (routs : List (List Pt2)) (op : Bool) : Prop :=
  (op = true → ∃ o l, routs = o ++ [l] ∧ restL o = outs ∧ cmpL l = now ∧ 1 ≤ now.length) ∧ (op = false → restL routs = outs ∧ now = [])
theorem sameSt.flush {outs : List (List Pt2)} {now : List Pt2} {routs : List (List Pt2)} {op : Bool} (h : sameSt outs now routs op) : endO outs now = restL routs := by
  cases op with
  | true =>
    obtain ⟨o, l, rfl, rfl, rfl, -⟩ := h.1 rfl
    exact (restL_snoc o l).symm
  | false =>
    obtain ⟨rfl, rfl⟩ := h.2 rfl
    rfl
theorem addQ_eq {l : List Pt2} (h : 1 ≤ l.length) (q : Pt2) : addQ l q = snocC l q := by
  unfold addQ snocC; rw [if_neg (show ¬ l.length = 0 by omega)]
theorem sameSt.step {outs : List (List Pt2)} {now : List Pt2} {routs : List (List Pt2)} {op : Bool} (h : sameSt outs now routs op) (s : SegT) :
    sameSt (lineStep outs now s).1 (lineStep outs now s).2 (refStep routs op s).1 (refStep routs op s).2 := by
  cases s with
  | none =>
    exact ⟨fun h => (by cases h), fun _ => ⟨h.flush.symm, rfl⟩⟩
  | some p =>
    -- the list at hand behind the segment
    have key : ∃ o l, (refStep routs op (some p)).1 = o ++ [l] ∧ restL o = (lineS outs now p.1).1 ∧ cmpL l = addQ (addP (lineS outs now p.1).2 (cutP p.1)) (cutP p.2) ∧ 1 ≤ (cmpL l).length := by
      by_cases hc : op = true ∧ p.1.1 = 0
      · obtain ⟨o, l, rfl, rfl, rfl, hn⟩ := h.1 hc.1
        refine ⟨o, l ++ [cutP p.2], ?_, ?_, ?_, ?_⟩
        · unfold refStep; dsimp only; rw [if_pos hc, addL_snoc]
        · unfold lineS; rw [if_pos hc.2]
        · unfold lineS; rw [if_pos hc.2, cmpL_snoc]; dsimp only; unfold addP; rw [if_neg (show ¬ (cmpL l).length = 0 by omega), addQ_eq hn]
        · rw [cmpL_snoc]; exact (snocC_last _ _).2.1
      · have e1 : (lineS outs now p.1).1 = restL routs ∧ (lineS outs now p.1).2 = [] := by
          unfold lineS
          by_cases h0 : p.1.1 = 0
          · have : op = false := by cases op <;> simp_all
            obtain ⟨rfl, rfl⟩ := h.2 this
            rw [if_pos h0]; exact ⟨rfl, rfl⟩
          · rw [if_neg h0]; exact ⟨h.flush, rfl⟩
        refine ⟨routs, [cutP p.1, cutP p.2], ?_, e1.1.symm, ?_, ?_⟩
        · unfold refStep; dsimp only; rw [if_neg hc, addL_snoc]; rfl
        · rw [e1.2, show addP [] (cutP p.1) = [cutP p.1] from rfl, addQ_eq (by simp)]; rfl
        · rw [show [cutP p.1, cutP p.2] = [cutP p.1] ++ [cutP p.2] from rfl, cmpL_snoc]; exact (snocC_last _ _).2.1
    obtain ⟨o, l, k1, k2, k3, k4⟩ := key
    have k5 : (refStep routs op (some p)).2 = (p.2.1 == p.2.2.1) := rfl
    unfold lineStep
    dsimp only
    by_cases he : p.2.1 = p.2.2.1
    · rw [if_pos he]
      exact ⟨fun _ => ⟨o, l, k1, k2, k3, by rw [← k3]; exact k4⟩, fun h => (by rw [k5, beq_iff_eq.2 he] at h; cases h)⟩
    · rw [if_neg he]
      refine ⟨fun h => (by rw [k5, beq_iff_eq] at h; exact absurd h he), fun _ => ⟨?_, rfl⟩⟩
      rw [k1, restL_snoc, k2, k3]
theorem sameSt.run (seg : Nat → SegT) : ∀ (k i : Nat) {outs : List (List Pt2)} {now : List Pt2} {routs : List (List Pt2)} {op : Bool}, sameSt outs now routs op →
    sameSt (lineRun seg k i outs now).1 (lineRun seg k i outs now).2 (refRun seg k i routs op).1 (refRun seg k i routs op).2
  | 0, _, _, _, _, _, h => h
  | k + 1, i, _, _, _, _, h => sameSt.run seg k (i + 1) (h.step (seg i))
/-- The text's line and the reference's, of one run of segments. -/
theorem line_same (seg : Nat → SegT) (k i : Nat) : endO (lineRun seg k i [] []).1 (lineRun seg k i [] []).2 = restL (refRun seg k i [] false).1 :=
  (sameSt.run seg k i (outs := []) (now := []) (routs := []) (op := false) ⟨fun h => (by cases h), fun _ => ⟨rfl, rfl⟩⟩).flush
/-- While it is open there is a list. -/
theorem ref_open {outs : List (List Pt2)} {op : Bool} (s : SegT) : (refStep outs op s).2 = true → (refStep outs op s).1 ≠ [] := by
  cases s with
  | none => intro h; cases h
  | some p => intro _; unfold refStep addL; dsimp only; split <;> simp
theorem addL_bd {outs : List (List Pt2)} {n M : Nat} {q : Pt2} (hn : outs.length = n + 1) (h : ∀ j, j < outs.length → (rAt outs j).length ≤ M) : (addL outs q).length = n + 1 ∧ ∀ j, j < (addL outs q).length → (rAt (addL outs q) j).length ≤ M + 1 := by
  obtain ⟨o, l, rfl⟩ : ∃ o l, outs = o ++ [l] := ⟨outs.dropLast, outs.getLast (by intro e; rw [e] at hn; simp at hn), (List.dropLast_concat_getLast _).symm⟩
  rw [addL_snoc]
  refine ⟨by simpa using hn, fun j hj => ?_⟩
  rcases Nat.lt_or_ge j o.length with g | g
  · have := h j (by simp; omega)
    rw [rAt_snoc_lt g] at this ⊢
    omega
  · obtain rfl : j = o.length := by simp at hj; omega
    have := h o.length (by simp)
    rw [rAt_snoc] at this ⊢
    simp; omega
/-- A row of one's own reads as points. -/
theorem RowP.own {w : World} {b g c : Nat} {l : List Pt2} (h : w.ownsRow b 23 2 (.slice (some ⟨g, 0, none⟩) l.length c) l.length (l.flatMap ptV)) : RowP w g l.length (c * 2) (pAt l) ∧ l.length ≤ c ∧ b ≤ g := by
  obtain ⟨-, ⟨h0, -⟩ | ⟨g', cap, cur, hv, hb, hg, hn, -, hs, ht⟩⟩ := h
  · cases h0
  · injection hv with e1 e2 e3
    injection e1 with e1
    injection e1 with e1 _ _
    subst e1 e3
    refine ⟨⟨cur, hg, hs, by omega, fun i hi => ?_⟩, hn, hb⟩
    have key : ∀ j, j < 2 → cur[2 * i + j]? = (ptV l[i])[j]? := fun j hj => by
      rw [← flat_at (f := ptV) (k := 2) (fun x => rfl) l i j hi hj, ← ht, List.getElem?_take_of_lt (by omega), Array.getElem?_toList, Nat.mul_comm i 2]
    have e : pAt l i = l[i] := by simp [pAt, List.getD, hi]
    rw [e]
    exact ⟨key 0 (by omega), key 1 (by omega)⟩
theorem RowP.app {w w' : World} {g n N : Nat} {f : Nat → Pt2} (h : RowP w g n N f) {base : Nat} {e : TypeId} {size : Nat} {v : Value} {m : Nat} {xs : List Value} (ho : w.ownsRow base e size v m xs) (hne : 23 ≠ e) (hg : w.grownBy w' v.ownBlock) : RowP w' g n N f := by
  obtain ⟨cs, hb, hc⟩ := h
  exact ⟨cs, hb.app ho hne hg, hc⟩
theorem RowP.grown {w w' : World} {g n N : Nat} {f : Nat → Pt2} (h : RowP w g n N f) {row : Option Nat} (hg : w.grownBy w' row) (hne : some g ≠ row) : RowP w' g n N f := by
  obtain ⟨cs, hb, hc⟩ := h
  exact ⟨cs, hb.grown hg hne, hc⟩
theorem RowP.far {w : World} {g n N : Nat} {f : Nat → Pt2} (h : RowP w g n N f) {p : Addr} (hp : g ≠ p.block) (u : Value) : RowP (w.setCell p u) g n N f := by
  obtain ⟨cs, hb, hc⟩ := h
  exact ⟨cs, hb.far hp u, hc⟩
theorem RowP.only {w w' : World} {g n N k : Nat} {f : Nat → Pt2} (h : RowP w g n N f) (ho : Only k w w') (hne : g ≠ k) : RowP w' g n N f := by
  obtain ⟨cs, hb, hc⟩ := h
  exact ⟨cs, ho.blk hb hne, hc⟩
/-- A cell of a row of one's own, given anew. -/
theorem own_set {w : World} {b g c n i : Nat} {e : TypeId} {xs : List Value} (h : w.ownsRow b e 1 (.slice (some ⟨g, 0, none⟩) n c) n xs) (hi : i < n) (u : Value) : (w.setCell ⟨g, i, none⟩ u).ownsRow b e 1 (.slice (some ⟨g, 0, none⟩) n c) n (xs.set i u) := by
  obtain ⟨hl, ⟨h0, -⟩ | ⟨g', cap, cur, hv, hb, hg, hn, hm, hs, ht⟩⟩ := h
  · cases h0
  · refine ⟨by rw [List.length_set]; exact hl, .inr ⟨g', cap, cur.setIfInBounds i u, hv, hb, ?_, hn, hm, by simpa using hs, ?_⟩⟩
    · injection hv with e1 e2 e3
      injection e1 with e1
      injection e1 with e1 _ _
      subst e1
      exact Blk.set_ hg i u
    · rw [Array.toList_setIfInBounds, List.take_set, ht]
theorem own_cell {w : World} {b g c n i : Nat} {e : TypeId} {xs : List Value} (h : w.ownsRow b e 1 (.slice (some ⟨g, 0, none⟩) n c) n xs) {u : Value} (hu : xs[i]? = some u) : w.cell? ⟨g, i, none⟩ = some u ∧ w.frozen? ⟨g, i, none⟩ = false ∧ g < w.heap.size ∧ b ≤ g := by
  obtain ⟨hl, ⟨h0, -⟩ | ⟨g', cap, cur, hv, hb, hg, hn, hm, hs, ht⟩⟩ := h
  · cases h0
  · injection hv with e1 e2 e3
    injection e1 with e1
    injection e1 with e1 _ _
    subst e1
    have hlt : i < n * 1 := by
      have := (List.getElem?_eq_some_iff.1 hu).1
      omega
    refine ⟨?_, Blk.frozen hg i, Blk.lt hg, hb⟩
    rw [Blk.cell hg i, ← Array.getElem?_toList, ← hu, ← ht, List.getElem?_take_of_lt hlt]

/-- The rows of points at the blocks G 0 < G 1 < .. -/
def RowsP (w : World) (BO : Nat) (outs : List (List Pt2)) (us : List Value) (G C N : Nat → Nat) : Prop :=
  (∀ i, i < outs.length → us[i]? = some (.slice (some ⟨G i, 0, none⟩) (rAt outs i).length (C i)) ∧ RowP w (G i) (rAt outs i).length (N i) (pAt (rAt outs i)) ∧ (rAt outs i).length ≤ C i ∧ BO ≤ G i) ∧
  (∀ i j, i < j → j < outs.length → G i < G j)
/-- What is known while the rows grow; the last one is one's own. -/
def RStV (w0 w : World) (BO : Nat) (outs : List (List Pt2)) (vout : Value) (us : List Value) (G C N : Nat → Nat) (B : Nat) : Prop :=
  Since w0 w ∧ w0.heap.size ≤ BO ∧ BO ≤ B ∧ B ≤ w.heap.size ∧ w.ownsRow BO 32 1 vout outs.length us ∧ RowsP w BO outs us G C N ∧
  (∀ n, outs.length = n + 1 → (∀ i, i < n → G i < B) ∧ w.ownsRow B 23 2 (.slice (some ⟨G n, 0, none⟩) (rAt outs n).length (C n)) (rAt outs n).length ((rAt outs n).flatMap ptV))
def RSt (w0 w : World) (BO : Nat) (outs : List (List Pt2)) (vout : Value) : Prop := ∃ us G C N B, RStV w0 w BO outs vout us G C N B
theorem RStV.since {w0 w w' : World} {BO : Nat} {outs : List (List Pt2)} {vout : Value} {us : List Value} {G C N : Nat → Nat} {B : Nat} (h : RStV w0 w BO outs vout us G C N B) (k : Since w w') : RStV w0 w' BO outs vout us G C N B := by
  obtain ⟨h1, h2, h3, h4, h5, ⟨h6, h7⟩, h8⟩ := h
  refine ⟨h1.trans k, h2, h3, Nat.le_trans h4 k.size, own_since k h5, ⟨fun i hi => ?_, h7⟩, fun n hn => ?_⟩
  · obtain ⟨a, b, c⟩ := h6 i hi
    exact ⟨a, b.since k, c⟩
  · obtain ⟨a, b⟩ := h8 n hn
    exact ⟨a, own_since k b⟩
theorem RSt.since {w0 w w' : World} {BO : Nat} {outs : List (List Pt2)} {vout : Value} (h : RSt w0 w BO outs vout) (k : Since w w') : RSt w0 w' BO outs vout := by
  obtain ⟨us, G, C, N, B, h⟩ := h
  exact ⟨us, G, C, N, B, h.since k⟩
section
variable {w0 w w' wA w3 : World} {BO : Nat} {outs : List (List Pt2)} {vout v' : Value} {us : List Value} {G C N : Nat → Nat} {B : Nat} {p q : Pt2}
/-- Behind a new row of one point. -/
theorem RStV.new (h : RStV w0 w BO outs vout us G C N B) (hA : wA = (w.alloc (.cells #[.int .i64 p.1, .int .i64 p.2] 23)).alloc (.cells #[.slice (some ⟨w.heap.size, 0, none⟩) 1 1] 32))
    (hown : w'.ownsRow BO 32 1 v' (outs.length + 1) (us ++ [.slice (some ⟨w.heap.size, 0, none⟩) 1 1])) (hgrow : wA.grownBy w' vout.ownBlock) : ∃ us' G' C' N' B', RStV w0 w' BO (outs ++ [[p]]) v' us' G' C' N' B' ∧ (∀ i, i < outs.length → G' i = G i) ∧ G' outs.length = w.heap.size := by
  obtain ⟨h1, h2, h3, h4, h5, ⟨h6, h7⟩, h8⟩ := h
  have hSA : Since w wA := by rw [hA]; exact ((Since.rfl_ w).alloc _).alloc _
  have hoA := own_since hSA h5
  have hb : Blk w' w.heap.size 23 #[.int .i64 p.1, .int .i64 p.2] := by
    have : Blk wA w.heap.size 23 #[.int .i64 p.1, .int .i64 p.2] := by rw [hA]; exact (Blk.new w _ _).alloc _
    exact this.app hoA (by decide) hgrow
  have hul : us.length = outs.length := by have := h5.1; omega
  refine ⟨_, fun i => if i < outs.length then G i else w.heap.size, fun i => if i < outs.length then C i else 1, fun i => if i < outs.length then N i else 2, w.heap.size, ⟨?_, h2, by omega, ?_, by simpa using hown, ⟨fun i hi => ?_, fun i j hij hj => ?_⟩, fun n hn => ?_⟩, fun i hi => if_pos hi, if_neg (Nat.lt_irrefl _)⟩
  · exact Below.grown (h1.trans hSA) hgrow (h1.trans hSA).size fun k hk => by
      have := (hoA.lt k hk).1
      omega
  · exact Nat.le_trans hSA.size hgrow.size
  · rcases Nat.lt_or_ge i outs.length with g | g
    · obtain ⟨a, b, c, d⟩ := h6 i g
      simp only [if_pos g, rAt_snoc_lt g]
      exact ⟨by rw [List.getElem?_append_left (by omega)]; exact a, (b.since hSA).app hoA (by decide) hgrow, c, d⟩
    · obtain rfl : i = outs.length := by rw [List.length_append, List.length_singleton] at hi; omega
      simp only [Nat.lt_irrefl, if_false, rAt_snoc]
      refine ⟨by rw [List.getElem?_append_right (by omega), hul, Nat.sub_self]; rfl, ⟨_, hb, rfl, by simp, fun i hi => ?_⟩, Nat.le_refl _, by omega⟩
      obtain rfl : i = 0 := by simp at hi; omega
      exact ⟨rfl, rfl⟩
  · dsimp only
    rw [List.length_append, List.length_singleton] at hj
    rw [if_pos (show i < outs.length by omega)]
    split
    · exact h7 i j hij (by omega)
    · exact (h6 i (by omega)).2.1.lt
  · obtain rfl : n = outs.length := by rw [List.length_append, List.length_singleton] at hn; omega
    refine ⟨fun i hi => ?_, ?_⟩
    · simp only [if_pos hi]; exact (h6 i hi).2.1.lt
    · simp only [Nat.lt_irrefl, if_false, rAt_snoc]
      exact hb.row (Nat.le_refl _) (by simp) (by simp [maxLen]) (by simp) (by simp [ptV])
/-- The rows, none of them in block q. -/
def RSq (w0 w : World) (BO : Nat) (outs : List (List Pt2)) (vout : Value) (q : Nat) : Prop := ∃ us G C N B, RStV w0 w BO outs vout us G C N B ∧ ∀ i, i < outs.length → G i ≠ q
/-- Behind a point more in the last row. -/
theorem RStV.push (h : RStV w0 w BO outs vout us G C N B) {n gO cO : Nat} (hn : outs.length = n + 1) (hv : vout = .slice (some ⟨gO, 0, none⟩) (n + 1) cO) (hSA : Since w wA)
    (hown : w3.ownsRow B 23 2 v' ((rAt outs n).length + 1) ((rAt outs n).flatMap ptV ++ ptV q)) (hgrow : wA.grownBy w3 (some (G n))) : RSt w0 (w3.setCell ⟨gO, n, none⟩ v') BO (addL outs q) vout := by
  obtain ⟨h1, h2, h3, h4, h5, ⟨h6, h7⟩, h8⟩ := h
  obtain ⟨h8, h9⟩ := h8 n hn
  have hoA := own_since hSA h5
  have hnA := own_since hSA h9
  have hul : us.length = outs.length := by have := h5.1; omega
  obtain ⟨o, l, rfl⟩ : ∃ o l, outs = o ++ [l] := ⟨outs.dropLast, outs.getLast (by intro e; rw [e] at hn; simp at hn), (List.dropLast_concat_getLast _).symm⟩
  obtain rfl : n = o.length := by simp at hn; omega
  rw [rAt_snoc] at h9 hnA hown
  rw [addL_snoc]
  have hown' : w3.ownsRow B 23 2 v' (l ++ [q]).length ((l ++ [q]).flatMap ptV) := own_snoc (f := ptV) hown
  obtain ⟨gn, cn, rfl⟩ : ∃ gn cn, v' = .slice (some ⟨gn, 0, none⟩) (l ++ [q]).length cn := by
    obtain ⟨-, ⟨-, h0⟩ | ⟨g, cap, cur, rfl, -⟩⟩ := hown'
    · simp at h0
    · exact ⟨g, cap, rfl⟩
  obtain ⟨r1, r2, r3⟩ := RowP.own hown'
  -- the row of rows is not the last row
  have hbk := (h6 o.length (by omega)).2.1
  have hvo : w3.ownsRow BO 32 1 vout (o ++ [l]).length us := hoA.kept hgrow (.inr fun e => by
    subst hv
    simp only [Value.ownBlock, Option.some.injEq] at e
    obtain ⟨cs, hb, -⟩ := hbk
    rcases hoA.2 with ⟨h0, _⟩ | ⟨g, cap, cur, hv, _, hg, _⟩
    · cases h0
    · injection hv with e1 _ _
      injection e1 with e1
      injection e1 with e1 _ _
      subst e1 e
      exact blk_ne (hSA.blk hb) hg (by decide) rfl)
  subst hv
  have hle : (o ++ [l]).length = o.length + 1 := by simp
  rw [hle] at hvo
  have hgO : gO < w3.heap.size ∧ BO ≤ gO := by
    obtain ⟨a, b, c, d⟩ := own_cell hvo (i := o.length) (u := _) (h6 o.length (by omega)).1
    exact ⟨c, d⟩
  have far : ∀ {g n N f}, RowP w3 g n N f → g ≠ gO := fun h e => by
    obtain ⟨cs, hb, -⟩ := h
    rcases hvo.2 with ⟨h0, _⟩ | ⟨g, cap, cur, hv, _, hg, _⟩
    · cases h0
    · injection hv with e1 _ _
      injection e1 with e1
      injection e1 with e1 _ _
      subst e1 e
      exact blk_ne hb hg (by decide) rfl
  refine ⟨us.set o.length (.slice (some ⟨gn, 0, none⟩) (l ++ [q]).length cn), fun i => if i < o.length then G i else gn, fun i => if i < o.length then C i else cn, fun i => if i < o.length then N i else cn * 2, B, ?_, h2, h3, ?_, ?_, ⟨fun i hi => ?_, fun i j hij hj => ?_⟩, fun n hn => ?_⟩
  · refine Since.setCell ?_ (by dsimp only; omega) _
    exact Below.grown (h1.trans hSA) hgrow (h1.trans hSA).size fun k hk => by
      injection hk with hk
      have := (h6 o.length (by omega)).2.2.2
      omega
  · rw [sizeSet]; exact Nat.le_trans h4 (Nat.le_trans hSA.size hgrow.size)
  · have := own_set hvo (i := o.length) (by omega) (.slice (some ⟨gn, 0, none⟩) (l ++ [q]).length cn)
    simpa using this
  · rcases Nat.lt_or_ge i o.length with g | g
    · obtain ⟨a, b, c, d⟩ := h6 i (by omega)
      rw [rAt_snoc_lt g] at a b c
      simp only [if_pos g, rAt_snoc_lt g]
      have b3 : RowP w3 (G i) (rAt o i).length (N i) (pAt (rAt o i)) := (b.since hSA).grown hgrow (by
        have := h7 i o.length g (by omega)
        intro e; injection e with e; omega)
      exact ⟨by rw [List.getElem?_set_ne (by omega)]; exact a, b3.far (far b3) _, c, d⟩
    · obtain rfl : i = o.length := by rw [List.length_append, List.length_singleton] at hi; omega
      simp only [Nat.lt_irrefl, if_false, rAt_snoc]
      exact ⟨List.getElem?_set_self (by omega), r1.far (far r1) _, r2, by omega⟩
  · dsimp only
    rw [List.length_append, List.length_singleton] at hj
    rw [if_pos (show i < o.length by omega)]
    split
    · exact h7 i j hij (by omega)
    · have := h8 i (by omega); omega
  · obtain rfl : n = o.length := by rw [List.length_append, List.length_singleton] at hn; omega
    refine ⟨fun i hi => ?_, ?_⟩
    · simp only [if_pos hi]; exact h8 i hi
    · simp only [Nat.lt_irrefl, if_false, rAt_snoc]
      exact own_far hown' (fun e => far r1 (by simp only [Value.ownBlock, Option.some.injEq] at e; exact e.symm)) _
/-- The place of the last row in the row of rows. -/
theorem RStV.slot (h : RStV w0 w BO outs vout us G C N B) {n gO cO : Nat} (hn : outs.length = n + 1) (hv : vout = .slice (some ⟨gO, 0, none⟩) (n + 1) cO) :
    w.cell? ⟨gO, n, none⟩ = some (.slice (some ⟨G n, 0, none⟩) (rAt outs n).length (C n)) ∧ w.frozen? ⟨gO, n, none⟩ = false ∧ gO < w.heap.size ∧ BO ≤ gO ∧ gO ≠ G n ∧ BO ≤ G n ∧ G n < w.heap.size ∧ ∃ cs, Blk w gO 32 cs := by
  obtain ⟨h1, h2, h3, h4, h5, ⟨h6, h7⟩, h8⟩ := h
  obtain ⟨a, b, c, d⟩ := h6 n (by omega)
  subst hv
  rw [hn] at h5
  obtain ⟨k1, k2, k3, k4⟩ := own_cell h5 (i := n) a
  have hb : ∃ cs, Blk w gO 32 cs := by
    rcases h5.2 with ⟨h0, _⟩ | ⟨g, cap, cur, hv, _, hg, _⟩
    · cases h0
    · injection hv with e1 _ _
      injection e1 with e1
      injection e1 with e1 _ _
      subst e1
      exact ⟨cur, hg⟩
  refine ⟨k1, k2, k3, k4, ?_, d, b.lt, hb⟩
  obtain ⟨cs2, hb2⟩ := hb
  obtain ⟨cs, hb, -⟩ := b
  exact blk_ne hb2 hb (by decide)
end

/-- The second loop of Clipped: the rows from k on are as they were; what is kept lies in blocks ahead of them. -/
def RS2V (w0 w : World) (outs : List (List Pt2)) (gO : Nat) (cs : Array Value) (G N : Nat → Nat) (k BR : Nat) (rest : List (List Pt2)) (vrest : Value) (rs : List Value) : Prop :=
  Since w0 w ∧ w0.heap.size ≤ BR ∧ BR ≤ w.heap.size ∧ (0 < outs.length → Blk w gO 32 cs ∧ gO < BR) ∧ (∀ i, k ≤ i → i < outs.length → RowP w (G i) (rAt outs i).length (N i) (pAt (rAt outs i))) ∧
  w.ownsRow BR 32 1 vrest rest.length rs ∧
  ∀ j, j < rest.length → ∃ g c M, rs[j]? = some (.slice (some ⟨g, 0, none⟩) (rAt rest j).length c) ∧ RowP w g (rAt rest j).length M (pAt (rAt rest j)) ∧ ∀ i, k ≤ i → i < outs.length → g ≠ G i
def RS2 (w0 w : World) (outs : List (List Pt2)) (gO : Nat) (cs : Array Value) (G N : Nat → Nat) (k BR : Nat) (rest : List (List Pt2)) (vrest : Value) : Prop := ∃ rs, RS2V w0 w outs gO cs G N k BR rest vrest rs
section
variable {w0 w w' wA : World} {outs rest : List (List Pt2)} {gO k BR : Nat} {cs : Array Value} {G N : Nat → Nat} {vrest v' : Value} {rs : List Value} {l : List Pt2}
theorem RS2V.cmp (h : RS2V w0 w outs gO cs G N k BR rest vrest rs) (hk : k < outs.length) (ho : Only (G k) w w') (hG : w0.heap.size ≤ G k) (inc : ∀ i j, i < j → j < outs.length → G i < G j) : RS2V w0 w' outs gO cs G N (k + 1) BR rest vrest rs := by
  obtain ⟨h1, h2, h3, h4, h5, h6, h7⟩ := h
  obtain ⟨h4, h8⟩ := h4 (by omega)
  have hk5 := h5 k (Nat.le_refl _) hk
  obtain ⟨ck, hbk, hck⟩ := hk5
  refine ⟨ho.since h1 hG, h2, Nat.le_trans h3 ho.size, fun _ => ⟨ho.blk h4 (blk_ne h4 hbk (by decide)), h8⟩, fun i hi hi2 => (h5 i (by omega) hi2).only ho ?_, ?_, fun j hj => ?_⟩
  · have := inc k i (by omega) hi2; omega
  · refine h6.kept ho (.inr fun e => ?_)
    rcases h6.2 with ⟨rfl, -⟩ | ⟨g, cap, cur, rfl, -, hg, -⟩
    · cases e
    · simp only [Value.ownBlock, Option.some.injEq] at e
      subst e
      exact blk_ne hbk hg (by decide) rfl
  · obtain ⟨g, c, M, a1, a2, a3⟩ := h7 j hj
    exact ⟨g, c, M, a1, a2.only ho (a3 k (Nat.le_refl _) hk), fun i hi hi2 => a3 i (by omega) hi2⟩
theorem RS2V.add (h : RS2V w0 w outs gO cs G N (k + 1) BR rest vrest rs) (hk : k < outs.length) {c M : Nat} (hrow : RowP w (G k) l.length M (pAt l)) (hSA : Since w wA)
    (hown : w'.ownsRow BR 32 1 v' (rest.length + 1) (rs ++ [.slice (some ⟨G k, 0, none⟩) l.length c])) (hgrow : wA.grownBy w' vrest.ownBlock) (inc : ∀ i j, i < j → j < outs.length → G i < G j) :
    RS2 w0 w' outs gO cs G N (k + 1) BR (rest ++ [l]) v' := by
  obtain ⟨h1, h2, h3, h4, h5, h6, h7⟩ := h
  have hoA := own_since hSA h6
  have hul : rs.length = rest.length := by have := h6.1; omega
  refine ⟨_, ?_, h2, Nat.le_trans h3 (Nat.le_trans hSA.size hgrow.size), fun hp => ?_, fun i hi hi2 => ?_, by simpa using hown, fun j hj => ?_⟩
  · exact Below.grown (h1.trans hSA) hgrow (h1.trans hSA).size fun m hm => by
      have := (hoA.lt m hm).1
      omega
  · obtain ⟨a, b⟩ := h4 hp
    exact ⟨(hSA.blk a).grown hgrow (own_ne hoA b), b⟩
  · exact ((h5 i hi hi2).since hSA).app hoA (by decide) hgrow
  · rcases Nat.lt_or_ge j rest.length with g | g
    · obtain ⟨g1, c1, M1, a1, a2, a3⟩ := h7 j g
      rw [rAt_snoc_lt g]
      exact ⟨g1, c1, M1, by rw [List.getElem?_append_left (by omega)]; exact a1, (a2.since hSA).app hoA (by decide) hgrow, a3⟩
    · obtain rfl : j = rest.length := by simp at hj; omega
      rw [rAt_snoc]
      refine ⟨G k, c, M, by rw [List.getElem?_append_right (by omega), hul, Nat.sub_self]; rfl, (hrow.since hSA).app hoA (by decide) hgrow, fun i hi hi2 => ?_⟩
      have := inc k i (by omega) hi2; omega
theorem RS2.lis (h : RS2 w0 w outs gO cs G N k BR rest vrest) : LisS w vrest rest ∧ Since w0 w := by
  obtain ⟨rs, h1, h2, h3, h4, h5, h6, h7⟩ := h
  refine ⟨?_, h1⟩
  have hul : rs.length = rest.length := by have := h6.1; omega
  obtain ⟨-, ⟨rfl, hn⟩ | ⟨g, cap, cur, rfl, hb, hg, hc, hm, hcs, ht⟩⟩ := h6
  · exact ⟨none, 0, by rw [hn], fun i hi => by omega⟩
  · refine ⟨some ⟨g, 0, none⟩, cap, rfl, fun i hi => ⟨g, 0, rfl, ?_⟩⟩
    obtain ⟨g1, c1, M1, a1, a2, a3⟩ := h7 i hi
    refine ⟨_, ?_, some ⟨g1, 0, none⟩, c1, rfl, fun j hj => ⟨g1, 0, rfl, ?_⟩⟩
    · rw [Nat.zero_add, Blk.cell hg]
      rw [← ht, List.getElem?_take, if_pos (by omega)] at a1
      simpa using a1
    · have := a2.cells hj
      simpa using this
end
end Go.Proofs.Ytcckekdfeeghaaa
