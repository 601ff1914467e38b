/-
  The walk of terrref3.Part: the part of a segment in a box between two of its crossings. Conditions: a right segment and box.
-/
import Derived.Test.YtcckekdfeeghaaaClipZ
import Derived.Test.YtcckekdfeeghaaaClipE
namespace Go.Proofs.Ytcckekdfeeghaaa
set_option linter.unusedSimpArgs false
set_option linter.unusedVariables false
open Go.RowKit Go.BigFrame
attribute [local go_sem ↓] eqPt neqPt

/-- The crossing of a segment of the way d with a side at p from its start. -/
def sideR (d p : Int) : Rat2 := (p * sgn d, if d < -d then -d else d)
def sideL (d p q : Int) (k : Nat) : List Rat2 := if d = 0 then [] else [sideR d p, sideR d q].take k
def tsL (ax ay cx cy lx ly hx hy : Int) (i j : Nat) : List Rat2 := [(0, 1), (1, 1)] ++ sideL (cx - ax) (lx - ax) (hx - ax) i ++ sideL (cy - ay) (ly - ay) (hy - ay) j
theorem sideL_len (d p q : Int) (k : Nat) : (sideL d p q k).length ≤ 2 := by
  unfold sideL; split
  · simp
  · rw [List.length_take]; exact Nat.min_le_right _ _
theorem tsL_len (ax ay cx cy lx ly hx hy : Int) (i j : Nat) : (tsL ax ay cx cy lx ly hx hy i j).length ≤ 6 := by
  unfold tsL
  have h1 := sideL_len (cx - ax) (lx - ax) (hx - ax) i
  have h2 := sideL_len (cy - ay) (ly - ay) (hy - ay) j
  simp only [List.length_append, List.length_cons, List.length_nil]; omega
theorem sideL_succ {d p q : Int} {k : Nat} (h : d ≠ 0) (hk : k < 2) : sideL d p q (k + 1) = sideL d p q k ++ [sideR d (if k = 0 then p else q)] := by
  unfold sideL
  rw [if_neg h, if_neg h]
  have : k = 0 ∨ k = 1 := by omega
  rcases this with rfl | rfl <;> rfl
theorem sideL_zero {d p q : Int} {k : Nat} (h : d = 0) : sideL d p q k = [] := by unfold sideL; rw [if_pos h]
theorem infoRat : (Try.prog.info? 106).map (fun i => (i.zero, i.size, i.bytes)) = some (some (.agg #[.int .i64 0, .int .i64 0]), 2, 16) := by kernel_rfl

theorem sign_s (n : Int) (w : World) : Calls Try.prog 60 #[.int .i64 n] w fun e w' => e = .returned (.int .i64 (sgn n)) ∧ Since w w' := by
  refine (sign_any n w).mono ?_
  rintro e w' ⟨rfl, rfl⟩
  exact ⟨rfl, Since.rfl_ _⟩
/-- What lies in memory in a run of Part. -/
def PaE (w w' : World) (ax ay cx cy lx ly hx hy : Int) : Prop :=
  Blk w' w.heap.size 23 #[.int .i64 ax, .int .i64 ay] ∧ Blk w' (w.heap.size + 1) 23 #[.int .i64 cx, .int .i64 cy] ∧ Blk w' (w.heap.size + 1 + 1) 28 #[.int .i64 lx, .int .i64 ly, .int .i64 hx, .int .i64 hy] ∧
  Blk w' (w.heap.size + 1 + 1 + 1) 106 #[.int .i64 0, .int .i64 0] ∧ Blk w' (w.heap.size + 1 + 1 + 1 + 1) 106 #[.int .i64 0, .int .i64 0] ∧ Since w w'
theorem PaE.since {w w1 w2 : World} {ax ay cx cy lx ly hx hy : Int} (h : PaE w w1 ax ay cx cy lx ly hx hy) (k : Since w1 w2) : PaE w w2 ax ay cx cy lx ly hx hy :=
  ⟨k.blk h.1, k.blk h.2.1, k.blk h.2.2.1, k.blk h.2.2.2.1, k.blk h.2.2.2.2.1, h.2.2.2.2.2.trans k⟩

theorem PaE.app {w w1 w2 : World} {ax ay cx cy lx ly hx hy : Int} (h : PaE w w1 ax ay cx cy lx ly hx hy) {B n : Nat} {v : Value} {xs : List Value} (ho : w1.ownsRow B 106 2 v n xs) (hB : w.heap.size + 1 + 1 + 1 + 1 < B) (hg : w1.grownBy w2 v.ownBlock) : PaE w w2 ax ay cx cy lx ly hx hy :=
  ⟨h.1.grown hg (own_ne ho (by omega)), h.2.1.grown hg (own_ne ho (by omega)), h.2.2.1.grown hg (own_ne ho (by omega)), h.2.2.2.1.grown hg (own_ne ho (by omega)), h.2.2.2.2.1.grown hg (own_ne ho hB),
    Below.grown h.2.2.2.2.2 hg h.2.2.2.2.2.size fun k hk => by have := (ho.lt k hk).1; omega⟩
theorem tsL_succ1 {ax ay cx cy lx ly hx hy : Int} {k : Nat} (h : cx - ax ≠ 0) (hk : k < 2) : tsL ax ay cx cy lx ly hx hy (k + 1) 0 = tsL ax ay cx cy lx ly hx hy k 0 ++ [sideR (cx - ax) (if k = 0 then lx - ax else hx - ax)] := by
  unfold tsL
  rw [sideL_succ h hk]
  have : sideL (cy - ay) (ly - ay) (hy - ay) 0 = [] := by unfold sideL; split <;> rfl
  rw [this]; simp
theorem tsL_succ2 {ax ay cx cy lx ly hx hy : Int} {k : Nat} (h : cy - ay ≠ 0) (hk : k < 2) : tsL ax ay cx cy lx ly hx hy 2 (k + 1) = tsL ax ay cx cy lx ly hx hy 2 k ++ [sideR (cy - ay) (if k = 0 then ly - ay else hy - ay)] := by
  unfold tsL
  rw [sideL_succ h hk]; simp
theorem tsL_same1 {ax ay cx cy lx ly hx hy : Int} {k : Nat} (h : cx - ax = 0) : tsL ax ay cx cy lx ly hx hy (k + 1) 0 = tsL ax ay cx cy lx ly hx hy k 0 := by
  unfold tsL; rw [sideL_zero h, sideL_zero h]
theorem tsL_same2 {ax ay cx cy lx ly hx hy : Int} {k : Nat} (h : cy - ay = 0) : tsL ax ay cx cy lx ly hx hy 2 (k + 1) = tsL ax ay cx cy lx ly hx hy 2 k := by
  unfold tsL; rw [sideL_zero (k := k + 1) h, sideL_zero (k := k) h]
/-- The last part found so far: its start, its end, whether there is one. -/
abbrev PSt := Rat2 × Rat2 × Bool
section
variable (ax ay dx dy lx ly hx hy : Int) (f : Nat → Rat2)
def midB (s t : Rat2) : Bool := withinB ax dx (s.1 * t.2 + t.1 * s.2) (2 * s.2 * t.2) lx hx && withinB ay dy (s.1 * t.2 + t.1 * s.2) (2 * s.2 * t.2) ly hy
def rangeB (s t : Rat2) : Bool := ltR s t && decide (0 ≤ s.1) && decide (t.1 ≤ t.2)
def partStep (i : Nat) (st : PSt) : PSt := if rangeB (f i) (f (i + 1)) = true ∧ midB ax ay dx dy lx ly hx hy (f i) (f (i + 1)) = true then (if st.2.2 = true then st.1 else f i, f (i + 1), true) else st
def partRun : Nat → Nat → PSt → PSt
  | 0, _, st => st
  | k + 1, i, st => partRun k (i + 1) (partStep ax ay dx dy lx ly hx hy f i st)
end
def PartV (ax ay cx cy lx ly hx hy : Int) (r : PSt) : Prop :=
  (ax = cx ∧ ay = cy → r = ((0, 0), (0, 0), false)) ∧
  (¬ (ax = cx ∧ ay = cy) → ∃ f : Nat → Rat2, sortedTo f (tsL ax ay cx cy lx ly hx hy 2 2).length ∧ sameE (fun i => (tsL ax ay cx cy lx ly hx hy 2 2).getD i (0, 1)) f (tsL ax ay cx cy lx ly hx hy 2 2).length ∧
    r = partRun ax ay (cx - ax) (cy - ay) lx ly hx hy f ((tsL ax ay cx cy lx ly hx hy 2 2).length - 1) 0 ((0, 0), (0, 0), false))
theorem cell2_blk {w : World} {g : Nat} {t : TypeId} {a b : Value} (h : Blk w g t #[a, b]) : ∀ (j : Nat) (u : Value), [a, b][j]? = some u → w.cell? ((⟨g, 0, none⟩ : Addr).add j) = some u := fun j u hu => by
  have hadd : (⟨g, 0, none⟩ : Addr).add j = ⟨g, j, none⟩ := by unfold Addr.add; split <;> simp_all
  rw [hadd, h.cell j]
  rcases j with _ | _ | j
  · exact hu
  · exact hu
  · simp at hu

theorem PaE.only {w w1 w2 : World} {ax ay cx cy lx ly hx hy : Int} (h : PaE w w1 ax ay cx cy lx ly hx hy) {g : Nat} (ho : Only g w1 w2) (hg : w.heap.size + 1 + 1 + 1 + 1 < g) : PaE w w2 ax ay cx cy lx ly hx hy :=
  ⟨ho.blk h.1 (by omega), ho.blk h.2.1 (by omega), ho.blk h.2.2.1 (by omega), ho.blk h.2.2.2.1 (by omega), ho.blk h.2.2.2.2.1 (by omega), ho.since h.2.2.2.2.2 (by omega)⟩
theorem rowR_of {w : World} {B n L c : Nat} {ar : Option Addr} {l : List Rat2} (h : w.ownsRow B 106 2 (.slice ar L c) n (l.flatMap ptV)) (hn : n = l.length) (hp : 0 < n) :
    ∃ g, ar = some ⟨g, 0, none⟩ ∧ B ≤ g ∧ RowR w g n (fun i => l.getD i (0, 1)) := by
  obtain ⟨-, ⟨-, h0⟩ | ⟨g, cap, cur, hv, hb, hg, -, -, -, hx⟩⟩ := h
  · omega
  · injection hv with e1 e2 e3
    refine ⟨g, e1, hb, cur, hg, fun i hi => ?_⟩
    have hi2 : i < l.length := by omega
    have key : ∀ j, j < 2 → cur[2 * i + j]? = (ptV l[i])[j]? := fun j hj => by
      rw [← flat_at (f := ptV) (k := 2) (fun x => rfl) l i j hi2 hj, ← hx, List.getElem?_take_of_lt (by omega), Array.getElem?_toList, Nat.mul_comm i 2]
    have e : (fun i => l.getD i (0, 1)) i = l[i] := by simp [List.getD, hi2]
    rw [e]
    exact ⟨key 0 (by omega), key 1 (by omega)⟩
def good2 (s : Rat2) : Prop := s.1.natAbs ≤ 2097152 ∧ 0 < s.2 ∧ s.2 ≤ 2097152
theorem good2.good {s : Rat2} (h : good2 s) : goodR s := ⟨⟨by have := h.1; omega, by have := h.2; omega⟩, h.2.1⟩
theorem sideL_good {d p q : Int} {k : Nat} (hd : d.natAbs ≤ 2097152) (hp : p.natAbs ≤ 2097152) (hq : q.natAbs ≤ 2097152) : ∀ s ∈ sideL d p q k, good2 s := fun s hs => by
  unfold sideL at hs
  split at hs
  · cases hs
  · have hm : s ∈ [sideR d p, sideR d q] := List.mem_of_mem_take hs
    have key : ∀ p : Int, p.natAbs ≤ 2097152 → good2 (sideR d p) := fun p hp => by
      refine ⟨?_, ?_, ?_⟩
      · exact Nat.le_trans (mul_bd hp (sgn_bd d)) (by decide)
      · unfold sideR; dsimp only; split <;> omega
      · unfold sideR; dsimp only; split <;> omega
    simp only [List.mem_cons, List.not_mem_nil, or_false] at hm
    rcases hm with rfl | rfl
    · exact key _ hp
    · exact key _ hq
theorem tsL_good {ax ay cx cy lx ly hx hy : Int} {i j : Nat} (h1 : (cx - ax).natAbs ≤ 2097152) (h2 : (lx - ax).natAbs ≤ 2097152) (h3 : (hx - ax).natAbs ≤ 2097152) (h4 : (cy - ay).natAbs ≤ 2097152) (h5 : (ly - ay).natAbs ≤ 2097152) (h6 : (hy - ay).natAbs ≤ 2097152) :
    ∀ k, k < (tsL ax ay cx cy lx ly hx hy i j).length → good2 ((tsL ax ay cx cy lx ly hx hy i j).getD k (0, 1)) := fun k hk => by
  have hm : (tsL ax ay cx cy lx ly hx hy i j).getD k (0, 1) ∈ tsL ax ay cx cy lx ly hx hy i j := by simp [List.getD, hk]
  generalize (tsL ax ay cx cy lx ly hx hy i j).getD k (0, 1) = s at hm
  unfold tsL at hm
  rw [List.mem_append, List.mem_append] at hm
  rcases hm with (hm | hm) | hm
  · simp only [List.mem_cons, List.not_mem_nil, or_false] at hm
    rcases hm with rfl | rfl <;> exact ⟨by decide, by decide, by decide⟩
  · exact sideL_good h1 h2 h3 s hm
  · exact sideL_good h4 h5 h6 s hm
theorem tsL_two (ax ay cx cy lx ly hx hy : Int) (i j : Nat) : 2 ≤ (tsL ax ay cx cy lx ly hx hy i j).length := by unfold tsL; simp only [List.length_append, List.length_cons, List.length_nil]; omega

theorem mid_bd {s t : Rat2} (gs : good2 s) (gt : good2 t) (hr : rangeB s t = true) : (s.1 * t.2).natAbs ≤ 4398046511104 ∧ (t.1 * s.2).natAbs ≤ 4398046511104 ∧ (2 * s.2 * t.2).natAbs ≤ 8796093022208 ∧
    0 ≤ s.1 * t.2 + t.1 * s.2 ∧ s.1 * t.2 + t.1 * s.2 < 2 * s.2 * t.2 ∧ 0 < 2 * s.2 * t.2 := by
  obtain ⟨g1, g2, g3⟩ := gs
  obtain ⟨k1, k2, k3⟩ := gt
  unfold rangeB at hr
  rw [Bool.and_eq_true, Bool.and_eq_true, ltR_iff, decide_eq_true_eq, decide_eq_true_eq] at hr
  obtain ⟨⟨h1, h2⟩, h3⟩ := hr
  have m1 : (s.1 * t.2).natAbs ≤ 4398046511104 := Nat.le_trans (mul_bd (A := 2097152) (B := 2097152) (by omega) (by omega)) (by decide)
  have m2 : (t.1 * s.2).natAbs ≤ 4398046511104 := Nat.le_trans (mul_bd (A := 2097152) (B := 2097152) (by omega) (by omega)) (by decide)
  have m3 : (2 * s.2 * t.2).natAbs ≤ 8796093022208 := Nat.le_trans (mul_bd (A := 4194304) (B := 2097152) (by omega) (by omega)) (by decide)
  have e : 2 * s.2 * t.2 = 2 * (s.2 * t.2) := by grind
  have p1 : 0 < s.2 * t.2 := Int.mul_pos g2 k2
  have p2 : 0 ≤ s.1 * t.2 := Int.mul_nonneg h2 (by omega)
  have p3 : t.1 * s.2 ≤ s.2 * t.2 := by rw [Int.mul_comm s.2 t.2]; exact Int.mul_le_mul_of_nonneg_right h3 (by omega)
  rw [e] at m3 ⊢
  refine ⟨m1, m2, m3, by omega, by omega, by omega⟩

theorem PaE.far {w w1 : World} {ax ay cx cy lx ly hx hy : Int} (h : PaE w w1 ax ay cx cy lx ly hx hy) {p : Addr} (hp : w.heap.size + 1 + 1 + 1 + 1 < p.block) (u : Value) : PaE w (w1.setCell p u) ax ay cx cy lx ly hx hy :=
  ⟨h.1.far (by omega) u, h.2.1.far (by omega) u, h.2.2.1.far (by omega) u, h.2.2.2.1.far (by omega) u, h.2.2.2.2.1.far (by omega) u, h.2.2.2.2.2.setCell (by omega) u⟩
theorem RowR.far {w : World} {g L : Nat} {f : Nat → Rat2} (h : RowR w g L f) {p : Addr} (hp : g ≠ p.block) (u : Value) : RowR (w.setCell p u) g L f := by
  obtain ⟨cs, hb, hc⟩ := h
  exact ⟨cs, hb.far hp u, hc⟩

set_option maxRecDepth 100000 in
set_option maxHeartbeats 4000000 in
theorem Part_any (ax ay cx cy lx ly hx hy : Int) (w : World) (h1 : okP ax ay = true) (h2 : okP cx cy = true) (h3 : okB lx ly hx hy = true) :
    Calls Try.prog 81 #[.agg #[.int .i64 ax, .int .i64 ay], .agg #[.int .i64 cx, .int .i64 cy], .agg #[.int .i64 lx, .int .i64 ly, .int .i64 hx, .int .i64 hy]] w fun e w' => (∃ r : PSt, e = .returned (.tuple #[.agg #[.int .i64 r.1.1, .int .i64 r.1.2], .agg #[.int .i64 r.2.1.1, .int .i64 r.2.1.2], .bool r.2.2]) ∧ PartV ax ay cx cy lx ly hx hy r) ∧ Since w w' := by
  rw [okP_iff] at h1 h2
  rw [okB_iff] at h3
  obtain ⟨⟨a1, a2⟩, a3, a4⟩ := h1
  obtain ⟨⟨c1, c2⟩, c3, c4⟩ := h2
  obtain ⟨⟨⟨b1, b2⟩, b3, b4⟩, ⟨⟨b5, b6⟩, b7, b8⟩, b9, b10⟩ := h3
  go_enter Try.func81, Try.ntmps81
  go_upto_region 1 with fail
  refine atW (fun w' => PaE w w' ax ay cx cy lx ly hx hy) ⟨((((Blk.new w _ _).alloc _).alloc _).alloc _).alloc _, (((Blk.new' (by simp)).alloc _).alloc _).alloc _, ((Blk.new' (by simp)).alloc _).alloc _, (Blk.new' (by simp)).alloc _, Blk.new' (by simp), (((((Since.rfl_ w).alloc _).alloc _).alloc _).alloc _).alloc _⟩ ?_
  intro w1 hE
  have a_0 := hE.1.cell 0
  have a_1 := hE.1.cell 1
  have a_f0 := hE.1.frozen 0
  have a_f1 := hE.1.frozen 1
  simp only [List.getElem?_toArray, List.getElem?_cons_zero, List.getElem?_cons_succ] at a_0 a_1
  have c_0 := hE.2.1.cell 0
  have c_1 := hE.2.1.cell 1
  have c_f0 := hE.2.1.frozen 0
  have c_f1 := hE.2.1.frozen 1
  simp only [List.getElem?_toArray, List.getElem?_cons_zero, List.getElem?_cons_succ] at c_0 c_1
  have HE := Lib.hid hE
  clear hE
  refine region_cls (fun w' => w'.cell? ⟨w.heap.size, 0, none⟩ = some (.int .i64 ax) ∧ w'.cell? ⟨w.heap.size, 1, none⟩ = some (.int .i64 ay) ∧ w'.cell? ⟨w.heap.size + 1, 0, none⟩ = some (.int .i64 cx) ∧ w'.cell? ⟨w.heap.size + 1, 1, none⟩ = some (.int .i64 cy) ∧ Since w1 w') (by kernel_rfl) (by kernel_rfl) (by (repeat' refine And.intro ?_ ?_) <;> first | (simp (maxDischargeDepth := 9) [a_0, a_1, c_0, c_1,  cSetS, cSetO, cellNew, World.cell?_alloc_some, cellDrew]; done) | (repeat (first | with_reducible assumption | with_reducible exact Since.rfl_ _ | refine Since.setCell ?_ (by (try dsimp only); omega) _ | refine Since.alloc ?_ _ | refine Since.drew ?_))) ?_
  repeat (go_big_quiet_step ((first | (intro hC; have hC := hC.out; (try simp only [hC, Result.andThen]); first | exact ⟨True.intro, rfl⟩ | exact ⟨rfl, rfl⟩ | rfl))))
  refine cls_end ?_
  rintro w2 ⟨a_0, a_1, c_0, c_1, hs⟩
  have HE2 := Lib.hid (HE.out.since hs)
  clear hs HE
  obtain ⟨bq, HBQ⟩ : ∃ bq : Bool, Hid ((ax == cx && ay == cy) = bq) := ⟨_, rfl⟩
  go_upto_region 2 with fail
  go_cut [36] (fun v36 w' => v36 = .bool bq ∧ w' = w2)
  case first =>
    cases e1 : (ax == cx) <;> cases e2 : (ay == cy)
    all_goals
      have HB2 : Hid (bq = (ax == cx && ay == cy)) := HBQ.out.symm
      rw [e1, e2] at HB2
      go_wp2_with fail
      go_meet
      exact ⟨by rw [HB2.out]; rfl, rfl⟩
  case rest =>
    obtain ⟨rfl, hw⟩ := hcut
    obtain ⟨w3, rfl⟩ : ∃ w3, w3 = wc := ⟨_, rfl⟩
    obtain rfl : w3 = w2 := hw
    cases bq
    · have hne : ¬ (ax = cx ∧ ay = cy) := by
        rintro ⟨rfl, rfl⟩
        have := HBQ.out; simp at this
      clear a_0 a_1 c_0 c_1 a_f0 a_f1 c_f0 c_f1
      go_upto_region 5 with fail
      have hS0 := HE2.out.2.2.2.2.2.size
      have hg0 := HE2.out.2.2.2.2.1.lt
      refine atW (fun w' => PaE w w' ax ay cx cy lx ly hx hy ∧ w'.ownsRow w3.heap.size 106 2 (.slice (some ⟨w3.heap.size, 0, none⟩) 2 2) (tsL ax ay cx cy lx ly hx hy 0 0).length ((tsL ax ay cx cy lx ly hx hy 0 0).flatMap ptV) ∧ w3.heap.size ≤ w'.heap.size)
        ⟨HE2.out.since ((Since.rfl_ _).alloc _), ?_, by simp⟩ ?_
      · have : tsL ax ay cx cy lx ly hx hy 0 0 = [(0, 1), (1, 1)] := by unfold tsL sideL; split <;> split <;> rfl
        rw [this]
        exact (Blk.new _ _ _).row (Nat.le_refl _) (Nat.le_refl _) (by unfold maxLen; omega) rfl rfl
      rintro w4 ⟨hE, hO, hBs⟩
      have b_0 := hE.2.2.1.cell 0
      have b_1 := hE.2.2.1.cell 1
      have b_2 := hE.2.2.1.cell 2
      have b_3 := hE.2.2.1.cell 3
      simp only [List.getElem?_toArray, List.getElem?_cons_zero, List.getElem?_cons_succ] at b_0 b_1 b_2 b_3
      have HE4 := Lib.hid hE
      have HO4 := Lib.hid hO
      generalize w3.heap.size = B at *
      clear hE hO HE2
      go_upto_region 6 with fail
      have HI0 := Lib.hid (Blk.new w4 3 #[.int .i64 lx, .int .i64 hx])
      have HO5 := Lib.hid (own_since ((Since.rfl_ w4).alloc (.cells #[.int .i64 lx, .int .i64 hx] 3)) HO4.out)
      have HE5 := Lib.hid (HE4.out.since ((Since.rfl_ w4).alloc (.cells #[.int .i64 lx, .int .i64 hx] 3)))
      clear HO4 HE4 b_0 b_1 b_2 b_3
      obtain ⟨gi, HGI⟩ : ∃ gi, gi = w4.heap.size := ⟨_, rfl⟩
      rw [← HGI] at hBs HI0 ⊢
      clear HGI
      generalize World.alloc w4 _ = w5 at *
      go_loopw [11, 50] (fun v11 v50 wr => ∃ k : Nat, k ≤ 2 ∧ v50 = .int .i64 k ∧ Hid (wr.ownsRow B 106 2 v11 (tsL ax ay cx cy lx ly hx hy k 0).length ((tsL ax ay cx cy lx ly hx hy k 0).flatMap ptV)) ∧ Hid (PaE w wr ax ay cx cy lx ly hx hy) ∧ Hid (Blk wr gi 3 #[.int .i64 lx, .int .i64 hx])) (fun _ v _ => 2 - (intOf v).toNat)
      case atStart => exact ⟨0, by omega, by go_num, HO5, HE5, HI0⟩
      case round =>
        clear HO5 HE5 HI0
        obtain ⟨k, hk, rfl, HO, HE, HI⟩ := hrel
        obtain ⟨ar, cr, rfl⟩ := own_slice HO.out
        rcases Nat.lt_or_ge k 2 with hlt | hge
        · have hz : decide ((k : Int) < 2) = true := by rw [decide_eq_true_eq]; omega
          obtain ⟨x, HX⟩ : ∃ x : Int, Hid (x = if k = 0 then lx else hx) := ⟨_, rfl⟩
          have i_k : wr.cell? ⟨gi, k, none⟩ = some (.int .i64 x) := by
            rw [HX.out]
            have : k = 0 ∨ k = 1 := by omega
            rcases this with rfl | rfl
            · exact HI.out.cell 0
            · exact HI.out.cell 1
          have bx : -1048576 ≤ x ∧ x ≤ 1048576 := by rw [HX.out]; split <;> omega
          by_cases hd : cx - ax = 0
          · have HO2 : Hid (wr.ownsRow B 106 2 (.slice ar (tsL ax ay cx cy lx ly hx hy k 0).length cr) (tsL ax ay cx cy lx ly hx hy (k + 1) 0).length ((tsL ax ay cx cy lx ly hx hy (k + 1) 0).flatMap ptV)) := by show World.ownsRow _ _ _ _ _ _ _; rw [tsL_same1 hd]; exact HO.out
            go_wp2_with fail
            go_roundw
            case rel => exact ⟨k + 1, by omega, by go_num, HO2, HE, HI⟩
            case measure => simp [intOf]; omega
          · go_upto_region 9 with fail
            have HT := Lib.hid (tsL_succ1 (ax := ax) (ay := ay) (cx := cx) (cy := cy) (lx := lx) (ly := ly) (hx := hx) (hy := hy) hd hlt)
            rw [show (if k = 0 then lx - ax else hx - ax) = x - ax from by rw [HX.out]; split <;> rfl] at HT
            have bd : -2097152 ≤ cx - ax ∧ cx - ax ≤ 2097152 := by omega
            have p_0 : wr.cell? ⟨w.heap.size, 0, none⟩ = some (.int .i64 ax) := HE.out.1.cell 0
            generalize hD : cx - ax = d at *
            have HD := Lib.hid hD
            clear hD
            have m1 : wrap64 ((x - ax) * sgn d) = (x - ax) * sgn d := wrap_id (Nat.le_trans (mul_bd (A := 2097152) (by omega) (sgn_bd d)) (by decide))
            have HSD : Hid (sideR d (x - ax) = ((x - ax) * sgn d, if d < -d then -d else d)) := rfl
            clear i_k
            apply region_facts 14 (fun w' => w'.cell? ⟨w.heap.size, 0, none⟩ = some (.int .i64 ax) ∧ Since wr w')
            case hm => kernel_rfl
            case hB => kernel_rfl
            case hS => exact ⟨p_0, (Since.rfl_ wr).drew⟩
            case h =>
            simp only [List.take_succ_cons, List.take_zero, List.drop_succ_cons, List.drop_zero]
            apply wpO_det
            case hw => rfl
            case h =>
              intro hFm wx hS_ hF_ K hK
              go_big_quiet_op
              first
                | exact hK _ rfl
                | (apply Exists.intro; refine ⟨fun _ => ?_, ?_⟩; (focus (first | (intro hC; have hC := hC.out; (try simp only [hC, Result.andThen]); first | exact ⟨True.intro, rfl⟩ | exact ⟨rfl, rfl⟩ | rfl))); exact hK _ rfl)
            case k =>
            simp only [Act.put, List.setIfInBounds_toArray, List.set_cons_succ, List.set_cons_zero, List.cons_append, List.nil_append]
            apply wpO_det
            case hw => rfl
            case h =>
              intro hFm wx hS_ hF_ K hK
              go_big_quiet_op
              first
                | exact hK _ rfl
                | (apply Exists.intro; refine ⟨fun _ => ?_, ?_⟩; (focus (first | (intro hC; have hC := hC.out; (try simp only [hC, Result.andThen]); first | exact ⟨True.intro, rfl⟩ | exact ⟨rfl, rfl⟩ | rfl))); exact hK _ rfl)
            case k =>
            simp only [Act.put, List.setIfInBounds_toArray, List.set_cons_succ, List.set_cons_zero, List.cons_append, List.nil_append]
            apply wpO_det
            case hw => rfl
            case h =>
              intro hFm wx hS_ hF_ K hK
              go_big_quiet_op
              first
                | exact hK _ rfl
                | (apply Exists.intro; refine ⟨fun _ => ?_, ?_⟩; (focus (first | (intro hC; have hC := hC.out; (try simp only [hC, Result.andThen]); first | exact ⟨True.intro, rfl⟩ | exact ⟨rfl, rfl⟩ | rfl))); exact hK _ rfl)
            case k =>
            simp only [Act.put, List.setIfInBounds_toArray, List.set_cons_succ, List.set_cons_zero, List.cons_append, List.nil_append]
            apply wpO_det
            case hw => rfl
            case h =>
              intro hFm wx hS_ hF_ K hK
              go_big_quiet_op
              first
                | exact hK _ rfl
                | (apply Exists.intro; refine ⟨fun _ => ?_, ?_⟩; (focus (first | (intro hC; have hC := hC.out; (try simp only [hC, Result.andThen]); first | exact ⟨True.intro, rfl⟩ | exact ⟨rfl, rfl⟩ | rfl))); exact hK _ rfl)
            case k =>
            simp only [Act.put, List.setIfInBounds_toArray, List.set_cons_succ, List.set_cons_zero, List.cons_append, List.nil_append]
            apply wpO_det
            case hw => rfl
            case h =>
              intro hFm wx hS_ hF_ K hK
              go_big_quiet_op
              first
                | exact hK _ rfl
                | (apply Exists.intro; refine ⟨fun _ => ?_, ?_⟩; (focus (first | (intro hC; have hC := hC.out; (try simp only [hC, Result.andThen]); first | exact ⟨True.intro, rfl⟩ | exact ⟨rfl, rfl⟩ | rfl))); exact hK _ rfl)
            case k =>
            simp only [Act.put, List.setIfInBounds_toArray, List.set_cons_succ, List.set_cons_zero, List.cons_append, List.nil_append]
            apply wpO_det
            case hw => rfl
            case h =>
              intro hFm wx hS_ hF_ K hK
              go_big_quiet_op
              first
                | exact hK _ rfl
                | (apply Exists.intro; refine ⟨fun _ => ?_, ?_⟩; (focus (first | (intro hC; have hC := hC.out; (try simp only [hC, Result.andThen]); first | exact ⟨True.intro, rfl⟩ | exact ⟨rfl, rfl⟩ | rfl))); exact hK _ rfl)
            case k =>
            simp only [Act.put, List.setIfInBounds_toArray, List.set_cons_succ, List.set_cons_zero, List.cons_append, List.nil_append]
            apply wpO_det
            case hw => rfl
            case h =>
              intro hFm wx hS_ hF_ K hK
              go_big_quiet_op
              first
                | exact hK _ rfl
                | (apply Exists.intro; refine ⟨fun _ => ?_, ?_⟩; (focus (first | (intro hC; go_at_call 60; refine (sign_s _ _).mono ?_; rintro e w' ⟨rfl, hb⟩; refine ⟨rfl, ?_⟩; exact cls_call hFm hC hb))); exact hK _ rfl)
            case k =>
            simp only [Act.put, List.setIfInBounds_toArray, List.set_cons_succ, List.set_cons_zero, List.cons_append, List.nil_append]
            apply wpO_det
            case hw => rfl
            case h =>
              intro hFm wx hS_ hF_ K hK
              go_big_quiet_op
              first
                | exact hK _ rfl
                | (apply Exists.intro; refine ⟨fun _ => ?_, ?_⟩; (focus (first | (intro hC; have hC := hC.out; (try simp only [hC, Result.andThen]); first | exact ⟨True.intro, rfl⟩ | exact ⟨rfl, rfl⟩ | rfl))); exact hK _ rfl)
            case k =>
            simp only [Act.put, List.setIfInBounds_toArray, List.set_cons_succ, List.set_cons_zero, List.cons_append, List.nil_append]
            apply wpO_det
            case hw => rfl
            case h =>
              intro hFm wx hS_ hF_ K hK
              go_big_quiet_op
              first
                | exact hK _ rfl
                | (apply Exists.intro; refine ⟨fun _ => ?_, ?_⟩; (focus (first | (intro hC; have hC := hC.out; (try simp only [hC, Result.andThen]); first | exact ⟨True.intro, rfl⟩ | exact ⟨rfl, rfl⟩ | rfl))); exact hK _ rfl)
            case k =>
            simp only [Act.put, List.setIfInBounds_toArray, List.set_cons_succ, List.set_cons_zero, List.cons_append, List.nil_append]
            apply wpO_det
            case hw => rfl
            case h =>
              intro hFm wx hS_ hF_ K hK
              go_big_quiet_op
              first
                | exact hK _ rfl
                | (apply Exists.intro; refine ⟨fun _ => ?_, ?_⟩; (focus (first | (intro hC; have hC := hC.out; (try simp only [hC, Result.andThen]); first | exact ⟨True.intro, rfl⟩ | exact ⟨rfl, rfl⟩ | rfl))); exact hK _ rfl)
            case k =>
            simp only [Act.put, List.setIfInBounds_toArray, List.set_cons_succ, List.set_cons_zero, List.cons_append, List.nil_append]
            apply wpO_det
            case hw => rfl
            case h =>
              intro hFm wx hS_ hF_ K hK
              go_big_quiet_op
              first
                | exact hK _ rfl
                | (apply Exists.intro; refine ⟨fun _ => ?_, ?_⟩; (focus (first | (intro hC; have hC := hC.out; (try simp only [hC, Result.andThen]); first | exact ⟨True.intro, rfl⟩ | exact ⟨rfl, rfl⟩ | rfl))); exact hK _ rfl)
            case k =>
            simp only [Act.put, List.setIfInBounds_toArray, List.set_cons_succ, List.set_cons_zero, List.cons_append, List.nil_append]
            apply wpO_det
            case hw => rfl
            case h =>
              intro hFm wx hS_ hF_ K hK
              go_big_quiet_op
              first
                | exact hK _ rfl
                | (apply Exists.intro; refine ⟨fun _ => ?_, ?_⟩; (focus (first | (intro hC; have hC := hC.out; (try simp only [hC, Result.andThen]); first | exact ⟨True.intro, rfl⟩ | exact ⟨rfl, rfl⟩ | rfl))); exact hK _ rfl)
            case k =>
            simp only [Act.put, List.setIfInBounds_toArray, List.set_cons_succ, List.set_cons_zero, List.cons_append, List.nil_append]
            apply wpO_det
            case hw => rfl
            case h =>
              intro hFm wx hS_ hF_ K hK
              go_big_quiet_op
              first
                | exact hK _ rfl
                | (apply Exists.intro; refine ⟨fun _ => ?_, ?_⟩; (focus (first | (intro hC; have hC := hC.out; (try simp only [hC, Result.andThen]); first | exact ⟨True.intro, rfl⟩ | exact ⟨rfl, rfl⟩ | rfl))); exact hK _ rfl)
            case k =>
            simp only [Act.put, List.setIfInBounds_toArray, List.set_cons_succ, List.set_cons_zero, List.cons_append, List.nil_append]
            apply wpO_mk (f := fun g => .slice (some ⟨g, 0, none⟩) 1 1) (t := 106) (cs := #[.int .i64 ((x - ax) * sgn d), .int .i64 (if d < -d then -d else d)])
            case hi => (intro g g' h; simpa using h)
            case hw => rfl
            case h => (intro w; simp [go_sem])
            case k =>
            intro g1
            simp only [Act.put, List.setIfInBounds_toArray, List.set_cons_succ, List.set_cons_zero, List.cons_append, List.nil_append]
            refine wpO_nil ?_
            intro w6 hS hF hB
            (try simp [allF] at hF)
            (try simp [List.pairwise_cons] at hB)
            obtain ⟨hg1, hBl⟩ := hF
            generalize (if d < -d then -d else d) = q at *
            have HO6 := Lib.hid (own_since hS.2 HO.out)
            have HE6 := Lib.hid (HE.out.since hS.2)
            have HI6 := Lib.hid (hS.2.blk HI.out)
            have HG := Lib.hid (cell2_blk hg1)
            have hw6 := Nat.le_trans hBs (Nat.le_of_lt HI6.out.lt)
            have hBl2 := hBl
            have hl6 : (tsL ax ay cx cy lx ly hx hy k 0).length ≤ 6 := tsL_len _ _ _ _ _ _ _ _ _ _
            clear hS hB p_0 HO HE HI
            obtain ⟨i0, hi, hz0, hz1, hz2⟩ := info_parts infoRat
            have HIn := Lib.hid (And.intro hi (And.intro hz0 (And.intro hz1 hz2)))
            clear hi hz0 hz1 hz2
            go_wp2_with (at_builtin; refine wpList_append_own _ rfl _ _ 125 rfl B 106 i0 _ 2 16 Try.underlying125 HIn.out.1 HIn.out.2.1 HIn.out.2.2.1 HIn.out.2.2.2 rfl (by decide) _ _ _ rfl HO6.out _ _ _ [.int .i64 ((x - ax) * sgn d), .int .i64 q] rfl rfl HG.out (one2 _ _ _ _) (by unfold maxLen; omega) (by omega) hw6 ?_)
            intro v' w' hown hgrow _
            obtain ⟨ao', co', rfl⟩ := own_slice hown
            have hTl : (tsL ax ay cx cy lx ly hx hy (k + 1) 0).length = (tsL ax ay cx cy lx ly hx hy k 0).length + 1 := by rw [HT.out]; simp
            have HO7 : Hid (w'.ownsRow B 106 2 (.slice ao' ((tsL ax ay cx cy lx ly hx hy k 0).length + 1) co') (tsL ax ay cx cy lx ly hx hy (k + 1) 0).length ((tsL ax ay cx cy lx ly hx hy (k + 1) 0).flatMap ptV)) := by
              show World.ownsRow _ _ _ _ _ _ _
              rw [hTl, HT.out, List.flatMap_append, HSD.out]; exact hown
            have HE7 := Lib.hid (HE6.out.app HO6.out hg0 hgrow)
            have HI7 := Lib.hid (HI6.out.app HO6.out (by decide) hgrow)
            clear hown hgrow HO6 HE6 HI6 HG hg1 HIn
            go_wp2_with fail
            have hD := HD.out
            subst hD
            go_roundw
            case rel =>
              
              exact ⟨k + 1, by omega, by go_num, HO7, HE7, HI7⟩
            case measure => simp [intOf]; omega
        · have hk2 : k = 2 := by omega
          have HO4 : Hid (wr.ownsRow B 106 2 (.slice ar (tsL ax ay cx cy lx ly hx hy k 0).length cr) (tsL ax ay cx cy lx ly hx hy 2 0).length ((tsL ax ay cx cy lx ly hx hy 2 0).flatMap ptV)) := by
            show World.ownsRow _ _ _ _ _ _ _
            have := HO.out
            rw [hk2] at this ⊢
            exact this
          have HE4 := HE
          clear hk2
          have hBs2 := Nat.le_trans hBs (Nat.le_of_lt HI.out.lt)
          clear hBs HO HE HI
          have hBs := hBs2
          clear hBs2
          have b_0 := HE4.out.2.2.1.cell 0
          have b_1 := HE4.out.2.2.1.cell 1
          have b_2 := HE4.out.2.2.1.cell 2
          have b_3 := HE4.out.2.2.1.cell 3
          simp only [List.getElem?_toArray, List.getElem?_cons_zero, List.getElem?_cons_succ] at b_0 b_1 b_2 b_3
          go_upto_region 12 with fail
          have HI0 := Lib.hid (Blk.new wr 3 #[.int .i64 ly, .int .i64 hy])
          have HO5 := Lib.hid (own_since ((Since.rfl_ wr).alloc (.cells #[.int .i64 ly, .int .i64 hy] 3)) HO4.out)
          have HE5 := Lib.hid (HE4.out.since ((Since.rfl_ wr).alloc (.cells #[.int .i64 ly, .int .i64 hy] 3)))
          clear HO4 HE4 b_0 b_1 b_2 b_3
          obtain ⟨gi, HGI⟩ : ∃ gi, gi = wr.heap.size := ⟨_, rfl⟩
          rw [← HGI] at hBs HI0 ⊢
          clear HGI
          generalize World.alloc wr _ = w5 at *
          go_loopw [11, 80] (fun v11 v50 wr => ∃ k : Nat, k ≤ 2 ∧ v50 = .int .i64 k ∧ Hid (wr.ownsRow B 106 2 v11 (tsL ax ay cx cy lx ly hx hy 2 k ).length ((tsL ax ay cx cy lx ly hx hy 2 k ).flatMap ptV)) ∧ Hid (PaE w wr ax ay cx cy lx ly hx hy) ∧ Hid (Blk wr gi 3 #[.int .i64 ly, .int .i64 hy])) (fun _ v _ => 2 - (intOf v).toNat)
          case atStart => exact ⟨0, by omega, by go_num, HO5, HE5, HI0⟩
          case round =>
            clear HO5 HE5 HI0
            obtain ⟨k, hk, rfl, HO, HE, HI⟩ := hrel
            obtain ⟨ar, cr, rfl⟩ := own_slice HO.out
            rcases Nat.lt_or_ge k 2 with hlt | hge
            · have hz : decide ((k : Int) < 2) = true := by rw [decide_eq_true_eq]; omega
              obtain ⟨x, HX⟩ : ∃ x : Int, Hid (x = if k = 0 then ly else hy) := ⟨_, rfl⟩
              have i_k : wr.cell? ⟨gi, k, none⟩ = some (.int .i64 x) := by
                rw [HX.out]
                have : k = 0 ∨ k = 1 := by omega
                rcases this with rfl | rfl
                · exact HI.out.cell 0
                · exact HI.out.cell 1
              have bx : -1048576 ≤ x ∧ x ≤ 1048576 := by rw [HX.out]; split <;> omega
              by_cases hd : cy - ay = 0
              · have HO2 : Hid (wr.ownsRow B 106 2 (.slice ar (tsL ax ay cx cy lx ly hx hy 2 k ).length cr) (tsL ax ay cx cy lx ly hx hy 2 (k + 1) ).length ((tsL ax ay cx cy lx ly hx hy 2 (k + 1) ).flatMap ptV)) := by show World.ownsRow _ _ _ _ _ _ _; rw [tsL_same2 hd]; exact HO.out
                go_wp2_with fail
                go_roundw
                case rel => exact ⟨k + 1, by omega, by go_num, HO2, HE, HI⟩
                case measure => simp [intOf]; omega
              · go_upto_region 15 with fail
                have HT := Lib.hid (tsL_succ2 (ax := ax) (ay := ay) (cx := cx) (cy := cy) (lx := lx) (ly := ly) (hx := hx) (hy := hy) hd hlt)
                rw [show (if k = 0 then ly - ay else hy - ay) = x - ay from by rw [HX.out]; split <;> rfl] at HT
                have bd : -2097152 ≤ cy - ay ∧ cy - ay ≤ 2097152 := by omega
                have p_0 : wr.cell? ⟨w.heap.size, 1, none⟩ = some (.int .i64 ay) := HE.out.1.cell 1
                generalize hD : cy - ay = d at *
                have HD := Lib.hid hD
                clear hD
                have m1 : wrap64 ((x - ay) * sgn d) = (x - ay) * sgn d := wrap_id (Nat.le_trans (mul_bd (A := 2097152) (by omega) (sgn_bd d)) (by decide))
                have HSD : Hid (sideR d (x - ay) = ((x - ay) * sgn d, if d < -d then -d else d)) := rfl
                clear i_k
                apply region_facts 14 (fun w' => w'.cell? ⟨w.heap.size, 1, none⟩ = some (.int .i64 ay) ∧ Since wr w')
                case hm => kernel_rfl
                case hB => kernel_rfl
                case hS => exact ⟨p_0, (Since.rfl_ wr).drew⟩
                case h =>
                simp only [List.take_succ_cons, List.take_zero, List.drop_succ_cons, List.drop_zero]
                apply wpO_det
                case hw => rfl
                case h =>
                  intro hFm wx hS_ hF_ K hK
                  go_big_quiet_op
                  first
                    | exact hK _ rfl
                    | (apply Exists.intro; refine ⟨fun _ => ?_, ?_⟩; (focus (first | (intro hC; have hC := hC.out; (try simp only [hC, Result.andThen]); first | exact ⟨True.intro, rfl⟩ | exact ⟨rfl, rfl⟩ | rfl))); exact hK _ rfl)
                case k =>
                simp only [Act.put, List.setIfInBounds_toArray, List.set_cons_succ, List.set_cons_zero, List.cons_append, List.nil_append]
                apply wpO_det
                case hw => rfl
                case h =>
                  intro hFm wx hS_ hF_ K hK
                  go_big_quiet_op
                  first
                    | exact hK _ rfl
                    | (apply Exists.intro; refine ⟨fun _ => ?_, ?_⟩; (focus (first | (intro hC; have hC := hC.out; (try simp only [hC, Result.andThen]); first | exact ⟨True.intro, rfl⟩ | exact ⟨rfl, rfl⟩ | rfl))); exact hK _ rfl)
                case k =>
                simp only [Act.put, List.setIfInBounds_toArray, List.set_cons_succ, List.set_cons_zero, List.cons_append, List.nil_append]
                apply wpO_det
                case hw => rfl
                case h =>
                  intro hFm wx hS_ hF_ K hK
                  go_big_quiet_op
                  first
                    | exact hK _ rfl
                    | (apply Exists.intro; refine ⟨fun _ => ?_, ?_⟩; (focus (first | (intro hC; have hC := hC.out; (try simp only [hC, Result.andThen]); first | exact ⟨True.intro, rfl⟩ | exact ⟨rfl, rfl⟩ | rfl))); exact hK _ rfl)
                case k =>
                simp only [Act.put, List.setIfInBounds_toArray, List.set_cons_succ, List.set_cons_zero, List.cons_append, List.nil_append]
                apply wpO_det
                case hw => rfl
                case h =>
                  intro hFm wx hS_ hF_ K hK
                  go_big_quiet_op
                  first
                    | exact hK _ rfl
                    | (apply Exists.intro; refine ⟨fun _ => ?_, ?_⟩; (focus (first | (intro hC; have hC := hC.out; (try simp only [hC, Result.andThen]); first | exact ⟨True.intro, rfl⟩ | exact ⟨rfl, rfl⟩ | rfl))); exact hK _ rfl)
                case k =>
                simp only [Act.put, List.setIfInBounds_toArray, List.set_cons_succ, List.set_cons_zero, List.cons_append, List.nil_append]
                apply wpO_det
                case hw => rfl
                case h =>
                  intro hFm wx hS_ hF_ K hK
                  go_big_quiet_op
                  first
                    | exact hK _ rfl
                    | (apply Exists.intro; refine ⟨fun _ => ?_, ?_⟩; (focus (first | (intro hC; have hC := hC.out; (try simp only [hC, Result.andThen]); first | exact ⟨True.intro, rfl⟩ | exact ⟨rfl, rfl⟩ | rfl))); exact hK _ rfl)
                case k =>
                simp only [Act.put, List.setIfInBounds_toArray, List.set_cons_succ, List.set_cons_zero, List.cons_append, List.nil_append]
                apply wpO_det
                case hw => rfl
                case h =>
                  intro hFm wx hS_ hF_ K hK
                  go_big_quiet_op
                  first
                    | exact hK _ rfl
                    | (apply Exists.intro; refine ⟨fun _ => ?_, ?_⟩; (focus (first | (intro hC; have hC := hC.out; (try simp only [hC, Result.andThen]); first | exact ⟨True.intro, rfl⟩ | exact ⟨rfl, rfl⟩ | rfl))); exact hK _ rfl)
                case k =>
                simp only [Act.put, List.setIfInBounds_toArray, List.set_cons_succ, List.set_cons_zero, List.cons_append, List.nil_append]
                apply wpO_det
                case hw => rfl
                case h =>
                  intro hFm wx hS_ hF_ K hK
                  go_big_quiet_op
                  first
                    | exact hK _ rfl
                    | (apply Exists.intro; refine ⟨fun _ => ?_, ?_⟩; (focus (first | (intro hC; go_at_call 60; refine (sign_s _ _).mono ?_; rintro e w' ⟨rfl, hb⟩; refine ⟨rfl, ?_⟩; exact cls_call hFm hC hb))); exact hK _ rfl)
                case k =>
                simp only [Act.put, List.setIfInBounds_toArray, List.set_cons_succ, List.set_cons_zero, List.cons_append, List.nil_append]
                apply wpO_det
                case hw => rfl
                case h =>
                  intro hFm wx hS_ hF_ K hK
                  go_big_quiet_op
                  first
                    | exact hK _ rfl
                    | (apply Exists.intro; refine ⟨fun _ => ?_, ?_⟩; (focus (first | (intro hC; have hC := hC.out; (try simp only [hC, Result.andThen]); first | exact ⟨True.intro, rfl⟩ | exact ⟨rfl, rfl⟩ | rfl))); exact hK _ rfl)
                case k =>
                simp only [Act.put, List.setIfInBounds_toArray, List.set_cons_succ, List.set_cons_zero, List.cons_append, List.nil_append]
                apply wpO_det
                case hw => rfl
                case h =>
                  intro hFm wx hS_ hF_ K hK
                  go_big_quiet_op
                  first
                    | exact hK _ rfl
                    | (apply Exists.intro; refine ⟨fun _ => ?_, ?_⟩; (focus (first | (intro hC; have hC := hC.out; (try simp only [hC, Result.andThen]); first | exact ⟨True.intro, rfl⟩ | exact ⟨rfl, rfl⟩ | rfl))); exact hK _ rfl)
                case k =>
                simp only [Act.put, List.setIfInBounds_toArray, List.set_cons_succ, List.set_cons_zero, List.cons_append, List.nil_append]
                apply wpO_det
                case hw => rfl
                case h =>
                  intro hFm wx hS_ hF_ K hK
                  go_big_quiet_op
                  first
                    | exact hK _ rfl
                    | (apply Exists.intro; refine ⟨fun _ => ?_, ?_⟩; (focus (first | (intro hC; have hC := hC.out; (try simp only [hC, Result.andThen]); first | exact ⟨True.intro, rfl⟩ | exact ⟨rfl, rfl⟩ | rfl))); exact hK _ rfl)
                case k =>
                simp only [Act.put, List.setIfInBounds_toArray, List.set_cons_succ, List.set_cons_zero, List.cons_append, List.nil_append]
                apply wpO_det
                case hw => rfl
                case h =>
                  intro hFm wx hS_ hF_ K hK
                  go_big_quiet_op
                  first
                    | exact hK _ rfl
                    | (apply Exists.intro; refine ⟨fun _ => ?_, ?_⟩; (focus (first | (intro hC; have hC := hC.out; (try simp only [hC, Result.andThen]); first | exact ⟨True.intro, rfl⟩ | exact ⟨rfl, rfl⟩ | rfl))); exact hK _ rfl)
                case k =>
                simp only [Act.put, List.setIfInBounds_toArray, List.set_cons_succ, List.set_cons_zero, List.cons_append, List.nil_append]
                apply wpO_det
                case hw => rfl
                case h =>
                  intro hFm wx hS_ hF_ K hK
                  go_big_quiet_op
                  first
                    | exact hK _ rfl
                    | (apply Exists.intro; refine ⟨fun _ => ?_, ?_⟩; (focus (first | (intro hC; have hC := hC.out; (try simp only [hC, Result.andThen]); first | exact ⟨True.intro, rfl⟩ | exact ⟨rfl, rfl⟩ | rfl))); exact hK _ rfl)
                case k =>
                simp only [Act.put, List.setIfInBounds_toArray, List.set_cons_succ, List.set_cons_zero, List.cons_append, List.nil_append]
                apply wpO_det
                case hw => rfl
                case h =>
                  intro hFm wx hS_ hF_ K hK
                  go_big_quiet_op
                  first
                    | exact hK _ rfl
                    | (apply Exists.intro; refine ⟨fun _ => ?_, ?_⟩; (focus (first | (intro hC; have hC := hC.out; (try simp only [hC, Result.andThen]); first | exact ⟨True.intro, rfl⟩ | exact ⟨rfl, rfl⟩ | rfl))); exact hK _ rfl)
                case k =>
                simp only [Act.put, List.setIfInBounds_toArray, List.set_cons_succ, List.set_cons_zero, List.cons_append, List.nil_append]
                apply wpO_mk (f := fun g => .slice (some ⟨g, 0, none⟩) 1 1) (t := 106) (cs := #[.int .i64 ((x - ay) * sgn d), .int .i64 (if d < -d then -d else d)])
                case hi => (intro g g' h; simpa using h)
                case hw => rfl
                case h => (intro w; simp [go_sem])
                case k =>
                intro g1
                simp only [Act.put, List.setIfInBounds_toArray, List.set_cons_succ, List.set_cons_zero, List.cons_append, List.nil_append]
                refine wpO_nil ?_
                intro w6 hS hF hB
                (try simp [allF] at hF)
                (try simp [List.pairwise_cons] at hB)
                obtain ⟨hg1, hBl⟩ := hF
                generalize (if d < -d then -d else d) = q at *
                have HO6 := Lib.hid (own_since hS.2 HO.out)
                have HE6 := Lib.hid (HE.out.since hS.2)
                have HI6 := Lib.hid (hS.2.blk HI.out)
                have HG := Lib.hid (cell2_blk hg1)
                have hw6 := Nat.le_trans hBs (Nat.le_of_lt HI6.out.lt)
                have hBl2 := hBl
                have hl6 : (tsL ax ay cx cy lx ly hx hy 2 k ).length ≤ 6 := tsL_len _ _ _ _ _ _ _ _ _ _
                clear hS hB p_0 HO HE HI
                obtain ⟨i0, hi, hz0, hz1, hz2⟩ := info_parts infoRat
                have HIn := Lib.hid (And.intro hi (And.intro hz0 (And.intro hz1 hz2)))
                clear hi hz0 hz1 hz2
                go_wp2_with (at_builtin; refine wpList_append_own _ rfl _ _ 125 rfl B 106 i0 _ 2 16 Try.underlying125 HIn.out.1 HIn.out.2.1 HIn.out.2.2.1 HIn.out.2.2.2 rfl (by decide) _ _ _ rfl HO6.out _ _ _ [.int .i64 ((x - ay) * sgn d), .int .i64 q] rfl rfl HG.out (one2 _ _ _ _) (by unfold maxLen; omega) (by omega) hw6 ?_)
                intro v' w' hown hgrow _
                obtain ⟨ao', co', rfl⟩ := own_slice hown
                have hTl : (tsL ax ay cx cy lx ly hx hy 2 (k + 1) ).length = (tsL ax ay cx cy lx ly hx hy 2 k ).length + 1 := by rw [HT.out]; simp
                have HO7 : Hid (w'.ownsRow B 106 2 (.slice ao' ((tsL ax ay cx cy lx ly hx hy 2 k ).length + 1) co') (tsL ax ay cx cy lx ly hx hy 2 (k + 1) ).length ((tsL ax ay cx cy lx ly hx hy 2 (k + 1) ).flatMap ptV)) := by
                  show World.ownsRow _ _ _ _ _ _ _
                  rw [hTl, HT.out, List.flatMap_append, HSD.out]; exact hown
                have HE7 := Lib.hid (HE6.out.app HO6.out hg0 hgrow)
                have HI7 := Lib.hid (HI6.out.app HO6.out (by decide) hgrow)
                clear hown hgrow HO6 HE6 HI6 HG hg1 HIn
                go_wp2_with fail
                have hD := HD.out
                subst hD
                go_roundw
                case rel =>
                  
                  exact ⟨k + 1, by omega, by go_num, HO7, HE7, HI7⟩
                case measure => simp [intOf]; omega
            · have hk2 : k = 2 := by omega
              have HO8 : Hid (wr.ownsRow B 106 2 (.slice ar (tsL ax ay cx cy lx ly hx hy 2 k).length cr) (tsL ax ay cx cy lx ly hx hy 2 2).length ((tsL ax ay cx cy lx ly hx hy 2 2).flatMap ptV)) := by
                show World.ownsRow _ _ _ _ _ _ _
                have := HO.out
                rw [hk2] at this ⊢
                exact this
              have hln : (tsL ax ay cx cy lx ly hx hy 2 k).length = (tsL ax ay cx cy lx ly hx hy 2 2).length := by rw [hk2]
              have HE8 := HE
              clear hk2 HO HE HI
              have hn2 := tsL_two ax ay cx cy lx ly hx hy 2 2
              have hn6 := tsL_len ax ay cx cy lx ly hx hy 2 2
              have hgd := tsL_good (ax := ax) (ay := ay) (cx := cx) (cy := cy) (lx := lx) (ly := ly) (hx := hx) (hy := hy) (i := 2) (j := 2) (by omega) (by omega) (by omega) (by omega) (by omega) (by omega)
              obtain ⟨g, rfl, hBg, hR⟩ := rowR_of HO8.out rfl (by omega)
              have HPV : Hid (∀ r, (∃ f : Nat → Rat2, sortedTo f (tsL ax ay cx cy lx ly hx hy 2 2).length ∧ sameE (fun i => (tsL ax ay cx cy lx ly hx hy 2 2).getD i (0, 1)) f (tsL ax ay cx cy lx ly hx hy 2 2).length ∧
                r = partRun ax ay (cx - ax) (cy - ay) lx ly hx hy f ((tsL ax ay cx cy lx ly hx hy 2 2).length - 1) 0 ((0, 0), (0, 0), false)) → PartV ax ay cx cy lx ly hx hy r) := fun r hr => ⟨fun h => absurd h hne, fun _ => hr⟩
              generalize hq0 : (fun i => (tsL ax ay cx cy lx ly hx hy 2 2).getD i ((0, 1) : Rat2)) = f0 at *
              have hgd2 : ∀ i, i < (tsL ax ay cx cy lx ly hx hy 2 2).length → good2 (f0 i) := by rw [← hq0]; exact hgd
              have hlz : (tsL ax ay cx cy lx ly hx hy 2 k).length = (tsL ax ay cx cy lx ly hx hy 2 2).length := hln
              clear hq0 hgd
              generalize (tsL ax ay cx cy lx ly hx hy 2 2).length = n at *
              rw [hlz]
              have HSO := Lib.hid (sortR_any g cr n f0 wr (by omega) hR (fun i hi => (hgd2 i hi).good))
              have HGD := Lib.hid hgd2
              clear hR HO8 hgd2 hne HBQ hln hlz
              go_wp2_with fail
              refine HSO.out.mono ?_
              rintro e w7 ⟨rfl, ⟨f, hR, hso, hsa⟩, hon⟩
              have HE7 := Lib.hid (HE8.out.only hon (by omega))
              have HR7 := Lib.hid hR
              have HG2 : Hid (∀ i, i < n → good2 (f i)) := fun i hi => by obtain ⟨j, hj, e⟩ := hsa.2 i hi; rw [e]; exact HGD.out j hj
              have HQ := Lib.hid (And.intro hso hsa)
              have lg : g < w7.heap.size := by obtain ⟨cs, hb, -⟩ := hR; exact hb.lt
              clear hR hso hsa hon HE8 HSO HGD
              go_wp2_with fail
              have h16 := (Blk.new w7 106 #[.int .i64 0, .int .i64 0]).alloc (.cells #[.int .i64 0, .int .i64 0] 106)
              have h17 : Blk ((w7.alloc (.cells #[.int .i64 0, .int .i64 0] 106)).alloc (.cells #[.int .i64 0, .int .i64 0] 106)) (w7.heap.size + 1) 106 #[.int .i64 0, .int .i64 0] := Blk.new' (by simp)
              have hs8 := ((Since.rfl_ w7).alloc (.cells #[.int .i64 0, .int .i64 0] 106)).alloc (.cells #[.int .i64 0, .int .i64 0] 106)
              have HE8 := Lib.hid (HE7.out.since hs8)
              have HR8 := Lib.hid (HR7.out.since hs8)
              have H16 := Lib.hid h16
              have H17 := Lib.hid h17
              clear HE7 HR7 h16 h17 hs8
              generalize (w7.alloc (.cells #[.int .i64 0, .int .i64 0] 106)).alloc (.cells #[.int .i64 0, .int .i64 0] 106) = w8 at *
              obtain ⟨G, HGG⟩ : ∃ G, G = w7.heap.size := ⟨_, rfl⟩
              rw [← HGG] at lg H16 H17 ⊢
              clear HGG
              go_loopw [18, 107] (fun v18 v107 wr => ∃ (i : Nat) (st : PSt), i + 1 ≤ n ∧ v107 = .int .i64 i ∧ v18 = .bool st.2.2 ∧ Hid (partRun ax ay (cx - ax) (cy - ay) lx ly hx hy f (n - 1 - i) i st = partRun ax ay (cx - ax) (cy - ay) lx ly hx hy f (n - 1) 0 ((0, 0), (0, 0), false)) ∧ Hid (PaE w wr ax ay cx cy lx ly hx hy) ∧ Hid (RowR wr g n f) ∧ Hid (Blk wr G 106 #[.int .i64 st.1.1, .int .i64 st.1.2]) ∧ Hid (Blk wr (G + 1) 106 #[.int .i64 st.2.1.1, .int .i64 st.2.1.2])) (fun _ v _ => n - (intOf v).toNat)
              case atStart => exact ⟨0, ((0, 0), (0, 0), false), by omega, by go_num, rfl, rfl, HE8, HR8, H16, H17⟩
              case round =>
                clear HE8 HR8 H16 H17
                obtain ⟨i, st, hi, rfl, rfl, HRn, HE, HR, H16, H17⟩ := hrel
                rcases Nat.lt_or_ge i (n - 1) with hlt | hge2
                · have hz : decide ((i : Int) < (n : Int) - 1) = true := by rw [decide_eq_true_eq]; omega
                  obtain ⟨c0, c1, -, -⟩ := HR.out.cells (show i < n by omega)
                  obtain ⟨d0, d1, -, -⟩ := HR.out.cells (show i + 1 < n by omega)
                  have gs := HG2.out i (by omega)
                  have gt := HG2.out (i + 1) (by omega)
                  have i1 : (i : Int) < (n : Int) := by omega
                  have i2 : ((i + 1 : Nat) : Int) < (n : Int) := by omega
                  have iw : IntKind.i64.wrap ((i : Int) + 1) = ((i + 1 : Nat) : Int) := by
                    rw [i64w, show (i : Int) + 1 = ((i + 1 : Nat) : Int) by omega]
                    exact wrap_id (by omega)
                  have HST : Hid (partStep ax ay (cx - ax) (cy - ay) lx ly hx hy f i st = if rangeB (f i) (f (i + 1)) = true ∧ midB ax ay (cx - ax) (cy - ay) lx ly hx hy (f i) (f (i + 1)) = true then (if st.2.2 = true then st.1 else f i, f (i + 1), true) else st) := rfl
                  have HRn2 : Hid (partRun ax ay (cx - ax) (cy - ay) lx ly hx hy f (n - 1 - (i + 1)) (i + 1) (partStep ax ay (cx - ax) (cy - ay) lx ly hx hy f i st) = partRun ax ay (cx - ax) (cy - ay) lx ly hx hy f (n - 1) 0 ((0, 0), (0, 0), false)) := by
                    show _ = _
                    rw [← HRn.out, show n - 1 - i = (n - 1 - (i + 1)) + 1 by omega]; rfl
                  clear HRn
                  obtain ⟨s, hs⟩ : ∃ s, s = f i := ⟨_, rfl⟩
                  obtain ⟨t, ht⟩ : ∃ t, t = f (i + 1) := ⟨_, rfl⟩
                  rw [← hs] at c0 c1 gs HST
                  rw [← ht] at d0 d1 gt HST
                  clear hs ht
                  generalize partStep ax ay (cx - ax) (cy - ay) lx ly hx hy f i st = st2 at *
                  go_upto_region 23 with fail
                  go_cut [20, 21] from 108 to 182 (fun v20 v21 w' => ∃ g20 g21 : Nat, v20 = .pointer (some ⟨g20, 0, none⟩) ∧ v21 = .pointer (some ⟨g21, 0, none⟩) ∧ Blk w' g20 106 #[.int .i64 s.1, .int .i64 s.2] ∧ Blk w' g21 106 #[.int .i64 t.1, .int .i64 t.2] ∧ wr.heap.size ≤ g20 ∧ wr.heap.size ≤ g21 ∧ Since wr w')
                  case first =>
                    as_aux_lemma =>
                    have kc : ∀ p v, wr.cell? p = some v → ∀ o o', ((wr.alloc o).alloc o').drew.cell? p = some v := fun p v h o o' => keepC (((Since.rfl_ wr).alloc o).alloc o').drew p v h
                    have x0 := kc _ _ c0
                    have x1 := kc _ _ c1
                    have y0 := kc _ _ d0
                    have y1 := kc _ _ d1
                    have p0 : ∀ u v o, ((wr.alloc (.cells #[u, v] 106)).alloc o).drew.cell? ⟨wr.heap.size, 0, none⟩ = some u := fun u v o => (((Blk.new wr _ _).alloc o).drew).cell 0
                    have p1 : ∀ u v o, ((wr.alloc (.cells #[u, v] 106)).alloc o).drew.cell? ⟨wr.heap.size, 1, none⟩ = some v := fun u v o => (((Blk.new wr _ _).alloc o).drew).cell 1
                    have q0 : ∀ u v o, ((wr.alloc o).alloc (.cells #[u, v] 106)).drew.cell? ⟨wr.heap.size + 1, 0, none⟩ = some u := fun u v o => (Blk.new' (w := wr.alloc o) (g := wr.heap.size + 1) (t := 106) (cs := #[u, v]) (by simp)).drew.cell 0
                    have q1 : ∀ u v o, ((wr.alloc o).alloc (.cells #[u, v] 106)).drew.cell? ⟨wr.heap.size + 1, 1, none⟩ = some v := fun u v o => (Blk.new' (w := wr.alloc o) (g := wr.heap.size + 1) (t := 106) (cs := #[u, v]) (by simp)).drew.cell 1
                    have kd : ∀ p v, wr.cell? p = some v → ∀ o, (wr.alloc o).drew.cell? p = some v := fun p v h o => keepC ((Since.rfl_ wr).alloc o).drew p v h
                    have x2 := kd _ _ c0
                    have x3 := kd _ _ c1
                    have y2 := kd _ _ d0
                    have y3 := kd _ _ d1
                    have p2 : ∀ u v, (wr.alloc (.cells #[u, v] 106)).drew.cell? ⟨wr.heap.size, 0, none⟩ = some u := fun u v => (Blk.new wr _ _).drew.cell 0
                    have p3 : ∀ u v, (wr.alloc (.cells #[u, v] 106)).drew.cell? ⟨wr.heap.size, 1, none⟩ = some v := fun u v => (Blk.new wr _ _).drew.cell 1
                    have z0 : ∀ u v j, (wr.alloc (.cells #[u, v] 106)).drew.frozen? ⟨wr.heap.size, j, none⟩ = false := fun u v j => (Blk.new wr _ _).drew.frozen j
                    have z1 : ∀ u v o j, ((wr.alloc (.cells #[u, v] 106)).alloc o).drew.frozen? ⟨wr.heap.size, j, none⟩ = false := fun u v o j => (((Blk.new wr _ _).alloc o).drew).frozen j
                    have z2 : ∀ u v o j, ((wr.alloc o).alloc (.cells #[u, v] 106)).drew.frozen? ⟨wr.heap.size + 1, j, none⟩ = false := fun u v o j => (Blk.new' (w := wr.alloc o) (g := wr.heap.size + 1) (t := 106) (cs := #[u, v]) (by simp)).drew.frozen j
                    clear kc kd
                    go_region
                    all_goals
                      go_wp2_with fail
                      go_meet
                      refine ⟨_, _, rfl, rfl, ?_, ?_, ?_, ?_, ?_⟩
                      all_goals first
                        | omega
                        | exact ((Blk.new _ _ _).alloc _).drew
                        | exact (Blk.new' (by simp)).drew
                        | exact (((Since.rfl_ _).alloc _).alloc _).drew
                  case rest =>
                    obtain ⟨g20, g21, rfl, rfl, h20, h21, l20, l21, hsw⟩ := hcut
                    have l17 := H17.out.lt
                    have k20 : G + 1 < g20 := by omega
                    have k21 : G + 1 < g21 := by omega
                    clear l20 l21 l17
                    obtain ⟨w9, rfl⟩ : ∃ w9, w9 = wc := ⟨_, rfl⟩
                    have HE9 := Lib.hid (HE.out.since hsw)
                    have HR9 := Lib.hid (HR.out.since hsw)
                    have H169 := Lib.hid (hsw.blk H16.out)
                    have H179 := Lib.hid (hsw.blk H17.out)
                    have H20 := Lib.hid h20
                    have H21 := Lib.hid h21
                    clear h20 h21 hsw HE HR H16 H17 c0 c1 d0 d1
                    go_upto_region 24 with fail
                    go_cut [134] from 108 to 182 (fun v134 w' => v134 = .bool (!(rangeB s t)) ∧ Since w9 w')
                    case first =>
                      as_aux_lemma =>
                      have HB : Hid ((!(rangeB s t)) = ((!(ltR s t)) || decide (s.1 < 0) || decide (t.2 < t.1))) := by
                        show _ = _
                        unfold rangeB
                        rw [Bool.not_and, Bool.not_and, ← decide_not, ← decide_not, decide_eq_decide.2 (show ¬ (0 ≤ s.1) ↔ s.1 < 0 by omega), decide_eq_decide.2 (show ¬ (t.1 ≤ t.2) ↔ t.2 < t.1 by omega)]
                      have p_0 := H20.out.cell 0
                      have p_1 := H20.out.cell 1
                      have p_f0 := H20.out.frozen 0
                      have p_f1 := H20.out.frozen 1
                      simp only [List.getElem?_toArray, List.getElem?_cons_zero, List.getElem?_cons_succ] at p_0 p_1
                      have q_0 := H21.out.cell 0
                      have q_1 := H21.out.cell 1
                      have q_f0 := H21.out.frozen 0
                      have q_f1 := H21.out.frozen 1
                      simp only [List.getElem?_toArray, List.getElem?_cons_zero, List.getElem?_cons_succ] at q_0 q_1
                      have HLs := Lib.hid (fun w => lessR_any s t w (by have := gs.1; omega) (by have := gt.1; omega) (by have := gs.2; omega) (by have := gt.2; omega))
                      cases h1 : ltR s t <;> cases h2 : decide (s.1 < 0) <;> cases h3 : decide (t.2 < t.1)
                      all_goals
                        go_wp2_with fail
                        refine (HLs.out _).mono ?_
                        rintro e w10 ⟨rfl, hs⟩
                        have hp := hs.blk H20.out
                        have hq := hs.blk H21.out
                        have HS := Lib.hid hs
                        clear hs p_0 p_1 p_f0 p_f1 q_0 q_1 q_f0 q_f1
                        have p_0 := hp.cell 0
                        have p_1 := hp.cell 1
                        have p_f0 := hp.frozen 0
                        have p_f1 := hp.frozen 1
                        simp only [List.getElem?_toArray, List.getElem?_cons_zero, List.getElem?_cons_succ] at p_0 p_1
                        have q_0 := hq.cell 0
                        have q_1 := hq.cell 1
                        have q_f0 := hq.frozen 0
                        have q_f1 := hq.frozen 1
                        simp only [List.getElem?_toArray, List.getElem?_cons_zero, List.getElem?_cons_succ] at q_0 q_1
                        clear hp hq
                        simp only [h1]
                        go_wp2_with fail
                        go_meet
                        exact ⟨by rw [HB.out, h1, h2, h3]; rfl, HS.out⟩
                    case rest =>
                      obtain ⟨rfl, hs⟩ := hcut
                      obtain ⟨w10, rfl⟩ : ∃ w10, w10 = wc := ⟨_, rfl⟩
                      have HE10 := Lib.hid (HE9.out.since hs)
                      have HR10 := Lib.hid (HR9.out.since hs)
                      have H1610 := Lib.hid (hs.blk H169.out)
                      have H1710 := Lib.hid (hs.blk H179.out)
                      have H2010 := Lib.hid (hs.blk H20.out)
                      have H2110 := Lib.hid (hs.blk H21.out)
                      clear hs HE9 HR9 H169 H179 H20 H21
                      cases hr : rangeB s t
                      · have e : st2 = st := by have := HST.out; rw [hr] at this; simpa using this
                        subst e
                        clear HST
                        go_wp2_with fail
                        go_roundw
                        case rel => exact ⟨i + 1, st2, by omega, by go_num, rfl, HRn2, HE10, HR10, H1610, H1710⟩
                        case measure => simp [intOf]; omega
                      · have HST2 : Hid (st2 = if midB ax ay (cx - ax) (cy - ay) lx ly hx hy s t = true then (if st.2.2 = true then st.1 else s, t, true) else st) := by show _ = _; have := HST.out; rw [hr] at this; simpa using this
                        obtain ⟨m1, m2, m3, n1, n2, n3⟩ := mid_bd gs gt hr
                        have HM : Hid (midB ax ay (cx - ax) (cy - ay) lx ly hx hy s t = (withinB ax (cx - ax) (s.1 * t.2 + t.1 * s.2) (2 * s.2 * t.2) lx hx && withinB ay (cy - ay) (s.1 * t.2 + t.1 * s.2) (2 * s.2 * t.2) ly hy)) := rfl
                        have e1 : wrap64 (s.1 * t.2) = s.1 * t.2 := wrap_id (by omega)
                        have e2 : wrap64 (t.1 * s.2) = t.1 * s.2 := wrap_id (by omega)
                        have e3 : wrap64 (2 * s.2 * t.2) = 2 * s.2 * t.2 := wrap_id (by omega)
                        have e4 : wrap64 (s.1 * t.2 + t.1 * s.2) = s.1 * t.2 + t.1 * s.2 := wrap_id (by omega)
                        have e5 : wrap64 (2 * s.2) = 2 * s.2 := wrap_id (by have := gs.2; omega)
                        have p_0 := H2010.out.cell 0
                        have p_1 := H2010.out.cell 1
                        have p_f0 := H2010.out.frozen 0
                        have p_f1 := H2010.out.frozen 1
                        simp only [List.getElem?_toArray, List.getElem?_cons_zero, List.getElem?_cons_succ] at p_0 p_1
                        have q_0 := H2110.out.cell 0
                        have q_1 := H2110.out.cell 1
                        have q_f0 := H2110.out.frozen 0
                        have q_f1 := H2110.out.frozen 1
                        simp only [List.getElem?_toArray, List.getElem?_cons_zero, List.getElem?_cons_succ] at q_0 q_1
                        clear HST m1 m2
                        go_upto_region 25 with fail
                        refine region_cls (fun w' => w'.cell? ⟨g20, 0, none⟩ = some (.int .i64 s.1) ∧ w'.cell? ⟨g20, 1, none⟩ = some (.int .i64 s.2) ∧ w'.cell? ⟨g21, 0, none⟩ = some (.int .i64 t.1) ∧ w'.cell? ⟨g21, 1, none⟩ = some (.int .i64 t.2) ∧ Since w10 w') (by kernel_rfl) (by kernel_rfl) (by (repeat' refine And.intro ?_ ?_) <;> first | (simp (maxDischargeDepth := 9) [p_0, p_1, q_0, q_1,  cSetS, cSetO, cellNew, World.cell?_alloc_some, cellDrew]; done) | (repeat (first | with_reducible assumption | with_reducible exact Since.rfl_ _ | refine Since.setCell ?_ (by (try dsimp only); omega) _ | refine Since.alloc ?_ _ | refine Since.drew ?_))) ?_
                        repeat (go_big_quiet_step ((first | (intro hC; have hC := hC.out; (try simp only [hC, Result.andThen]); first | exact ⟨True.intro, rfl⟩ | exact ⟨rfl, rfl⟩ | rfl))))
                        refine cls_end ?_
                        rintro w11 ⟨-, -, -, -, hs⟩
                        have HE11 := Lib.hid (HE10.out.since hs)
                        have HR11 := Lib.hid (HR10.out.since hs)
                        have H1611 := Lib.hid (hs.blk H1610.out)
                        have H1711 := Lib.hid (hs.blk H1710.out)
                        have H2011 := Lib.hid (hs.blk H2010.out)
                        have H2111 := Lib.hid (hs.blk H2110.out)
                        clear hs HE10 HR10 H1610 H1710 H2010 H2110 e1 e2 e3 e4 e5 p_0 p_1 q_0 q_1 p_f0 p_f1 q_f0 q_f1
                        generalize s.1 * t.2 + t.1 * s.2 = N at *
                        generalize 2 * s.2 * t.2 = D at *
                        have HW1 := Lib.hid (fun w => within_any ax (cx - ax) N D lx hx w (by omega) (by omega) n1 (by omega) n3 (by omega) (Nat.lt_of_le_of_lt (mul_bd (A := 2097152) (B := 8796093022207) (by omega) (by omega)) (by decide)))
                        have HW2 := Lib.hid (fun w => within_any ay (cy - ay) N D ly hy w (by omega) (by omega) n1 (by omega) n3 (by omega) (Nat.lt_of_le_of_lt (mul_bd (A := 2097152) (B := 8796093022207) (by omega) (by omega)) (by decide)))
                        clear m3 n1 n2 n3
                        go_upto_region 26 with fail
                        go_cut [177] from 108 to 182 (fun v177 w' => v177 = .bool (midB ax ay (cx - ax) (cy - ay) lx ly hx hy s t) ∧ Since w11 w')
                        case first =>
                          as_aux_lemma =>
                          have p_0 := HE11.out.1.cell 0
                          have p_1 := HE11.out.1.cell 1
                          have p_f0 := HE11.out.1.frozen 0
                          have p_f1 := HE11.out.1.frozen 1
                          simp only [List.getElem?_toArray, List.getElem?_cons_zero, List.getElem?_cons_succ] at p_0 p_1
                          have q_0 := HE11.out.2.2.1.cell 0
                          have q_1 := HE11.out.2.2.1.cell 1
                          have q_2 := HE11.out.2.2.1.cell 2
                          have q_3 := HE11.out.2.2.1.cell 3
                          simp only [List.getElem?_toArray, List.getElem?_cons_zero, List.getElem?_cons_succ] at q_0 q_1 q_2 q_3
                          cases h1 : withinB ax (cx - ax) N D lx hx
                          · go_wp2_with fail
                            refine (HW1.out _).mono ?_
                            rintro e w12 ⟨rfl, hs⟩
                            have HS := Lib.hid hs
                            clear hs p_0 p_1 p_f0 p_f1 q_0 q_1 q_2 q_3
                            simp only [h1]
                            go_wp2_with fail
                            go_meet
                            exact ⟨by rw [HM.out, h1]; rfl, HS.out⟩
                          · go_wp2_with fail
                            refine (HW1.out _).mono ?_
                            rintro e w12 ⟨rfl, hs⟩
                            have HS := Lib.hid hs
                            have hp := hs.blk HE11.out.1
                            have hq := hs.blk HE11.out.2.2.1
                            clear hs p_0 p_1 p_f0 p_f1 q_0 q_1 q_2 q_3
                            have p_0 := hp.cell 0
                            have p_1 := hp.cell 1
                            have p_f0 := hp.frozen 0
                            have p_f1 := hp.frozen 1
                            simp only [List.getElem?_toArray, List.getElem?_cons_zero, List.getElem?_cons_succ] at p_0 p_1
                            have q_0 := hq.cell 0
                            have q_1 := hq.cell 1
                            have q_2 := hq.cell 2
                            have q_3 := hq.cell 3
                            simp only [List.getElem?_toArray, List.getElem?_cons_zero, List.getElem?_cons_succ] at q_0 q_1 q_2 q_3
                            clear hp hq
                            simp only [h1]
                            go_wp2_with fail
                            refine (HW2.out _).mono ?_
                            rintro e w13 ⟨rfl, hs⟩
                            have HS2 := Lib.hid (HS.out.trans hs)
                            clear hs p_0 p_1 p_f0 p_f1 q_0 q_1 q_2 q_3 HS
                            go_wp2_with fail
                            go_meet
                            exact ⟨by rw [HM.out, h1]; rfl, HS2.out⟩
                        case rest =>
                          obtain ⟨rfl, hs⟩ := hcut
                          obtain ⟨w12, rfl⟩ : ∃ w12, w12 = wc := ⟨_, rfl⟩
                          have HE12 := Lib.hid (HE11.out.since hs)
                          have HR12 := Lib.hid (HR11.out.since hs)
                          have H1612 := Lib.hid (hs.blk H1611.out)
                          have H1712 := Lib.hid (hs.blk H1711.out)
                          have h2012 := hs.blk H2011.out
                          have h2112 := hs.blk H2111.out
                          have HS12 := Lib.hid hs
                          clear hs HE11 HR11 H1611 H1711 H2011 H2111 HW1 HW2
                          cases hm : midB ax ay (cx - ax) (cy - ay) lx ly hx hy s t
                          · have e : st2 = st := by have := HST2.out; rw [hm] at this; simpa using this
                            subst e
                            clear HST2
                            go_wp2_with fail
                            go_roundw
                            case rel => exact ⟨i + 1, st2, by omega, by go_num, rfl, HRn2, HE12, HR12, H1612, H1712⟩
                            case measure => simp [intOf]; omega
                          · have n1 : ¬ G = g20 := by omega
                            have n2 : ¬ G = g21 := by omega
                            have n3 : ¬ G + 1 = g20 := by omega
                            have n4 : ¬ G + 1 = g21 := by omega
                            have p_0 := h2012.cell 0
                            have p_1 := h2012.cell 1
                            have p_f0 := h2012.frozen 0
                            have p_f1 := h2012.frozen 1
                            simp only [List.getElem?_toArray, List.getElem?_cons_zero, List.getElem?_cons_succ] at p_0 p_1
                            have q_0 := h2112.cell 0
                            have q_1 := h2112.cell 1
                            have q_f0 := h2112.frozen 0
                            have q_f1 := h2112.frozen 1
                            simp only [List.getElem?_toArray, List.getElem?_cons_zero, List.getElem?_cons_succ] at q_0 q_1
                            have x_0 := H1612.out.cell 0
                            have x_1 := H1612.out.cell 1
                            have x_f0 := H1612.out.frozen 0
                            have x_f1 := H1612.out.frozen 1
                            simp only [List.getElem?_toArray, List.getElem?_cons_zero, List.getElem?_cons_succ] at x_0 x_1
                            have y_0 := H1712.out.cell 0
                            have y_1 := H1712.out.cell 1
                            have y_f0 := H1712.out.frozen 0
                            have y_f1 := H1712.out.frozen 1
                            simp only [List.getElem?_toArray, List.getElem?_cons_zero, List.getElem?_cons_succ] at y_0 y_1
                            clear h2012 h2112
                            have hG4 : w.heap.size + 1 + 1 + 1 + 1 < G := by omega
                            obtain ⟨lo, hh, fd⟩ := st
                            dsimp only at *
                            cases fd
                            · have e : st2 = (s, t, true) := by have := HST2.out; rw [hm] at this; simpa using this
                              subst e
                              clear HST2
                              go_wp2_with fail
                              go_roundw
                              case rel =>
                                exact ⟨i + 1, (s, t, true), by omega, by go_num, rfl, HRn2, (((HE12.out.far (by dsimp only; omega) _).far (by dsimp only; omega) _).far (by dsimp only; omega) _).far (by dsimp only; omega) _, (((HR12.out.far (by dsimp only; omega) _).far (by dsimp only; omega) _).far (by dsimp only; omega) _).far (by dsimp only; omega) _,
                                  (((H1612.out.set_ 0 _).set_ 1 _).far (by dsimp only; omega) _).far (by dsimp only; omega) _, (((H1712.out.far (by dsimp only; omega) _).far (by dsimp only; omega) _).set_ 0 _).set_ 1 _⟩
                              case measure => simp [intOf]; omega
                            · have e : st2 = (lo, t, true) := by have := HST2.out; rw [hm] at this; simpa using this
                              subst e
                              clear HST2
                              go_wp2_with fail
                              go_roundw
                              case rel =>
                                exact ⟨i + 1, (lo, t, true), by omega, by go_num, rfl, HRn2, (HE12.out.far (by dsimp only; omega) _).far (by dsimp only; omega) _, (HR12.out.far (by dsimp only; omega) _).far (by dsimp only; omega) _,
                                  (H1612.out.far (by dsimp only; omega) _).far (by dsimp only; omega) _, (H1712.out.set_ 0 _).set_ 1 _⟩
                              case measure => simp [intOf]; omega
                · have e : st = partRun ax ay (cx - ax) (cy - ay) lx ly hx hy f (n - 1) 0 ((0, 0), (0, 0), false) := by
                    have := HRn.out
                    rw [show n - 1 - i = 0 by omega] at this
                    exact this
                  have HPF := Lib.hid (HPV.out st ⟨f, HQ.out.1, HQ.out.2, e⟩)
                  have hz : decide ((i : Int) < (n : Int) - 1) = false := by rw [decide_eq_false_iff_not]; omega
                  clear e HRn HQ
                  have x_0 := H16.out.cell 0
                  have x_1 := H16.out.cell 1
                  have x_f0 := H16.out.frozen 0
                  have x_f1 := H16.out.frozen 1
                  simp only [List.getElem?_toArray, List.getElem?_cons_zero, List.getElem?_cons_succ] at x_0 x_1
                  have y_0 := H17.out.cell 0
                  have y_1 := H17.out.cell 1
                  have y_f0 := H17.out.frozen 0
                  have y_f1 := H17.out.frozen 1
                  simp only [List.getElem?_toArray, List.getElem?_cons_zero, List.getElem?_cons_succ] at y_0 y_1
                  go_upto_region 31 with fail
                  have hG4 : w.heap.size + 1 + 1 + 1 + 1 < G := by omega
                  have n1 : ¬ w.heap.size + 1 + 1 + 1 = G := by omega
                  have n2 : ¬ w.heap.size + 1 + 1 + 1 = G + 1 := by omega
                  have n3 : ¬ w.heap.size + 1 + 1 + 1 + 1 = G := by omega
                  have n4 : ¬ w.heap.size + 1 + 1 + 1 + 1 = G + 1 := by omega
                  have z_0 := HE.out.2.2.2.1.cell 0
                  have z_1 := HE.out.2.2.2.1.cell 1
                  have z_f0 := HE.out.2.2.2.1.frozen 0
                  have z_f1 := HE.out.2.2.2.1.frozen 1
                  simp only [List.getElem?_toArray, List.getElem?_cons_zero, List.getElem?_cons_succ] at z_0 z_1
                  have v_0 := HE.out.2.2.2.2.1.cell 0
                  have v_1 := HE.out.2.2.2.2.1.cell 1
                  have v_f0 := HE.out.2.2.2.2.1.frozen 0
                  have v_f1 := HE.out.2.2.2.2.1.frozen 1
                  simp only [List.getElem?_toArray, List.getElem?_cons_zero, List.getElem?_cons_succ] at v_0 v_1
                  go_region
                  go_wp2_with fail
                  refine bodyPost_ret (v := .tuple #[.agg #[.int .i64 st.1.1, .int .i64 st.1.2], .agg #[.int .i64 st.2.1.1, .int .i64 st.2.1.2], .bool st.2.2]) (by simp [results, Try.results81, go_sem, cSetS, cSetO, z_0, z_1, v_0, v_1, cellDrew]) rfl ⟨⟨st, rfl, HPF.out⟩, ?_⟩
                  exact ((((HE.out.2.2.2.2.2.setCell (by dsimp only; omega) _).setCell (by dsimp only; omega) _).setCell (by dsimp only; omega) _).setCell (by dsimp only; omega) _).drew
    · clear a_0 a_1 c_0 c_1 a_f0 a_f1 c_f0 c_f1
      have z_0 := HE2.out.2.2.2.1.cell 0
      have z_1 := HE2.out.2.2.2.1.cell 1
      have z_f0 := HE2.out.2.2.2.1.frozen 0
      have z_f1 := HE2.out.2.2.2.1.frozen 1
      simp only [List.getElem?_toArray, List.getElem?_cons_zero, List.getElem?_cons_succ] at z_0 z_1
      have y_0 := HE2.out.2.2.2.2.1.cell 0
      have y_1 := HE2.out.2.2.2.2.1.cell 1
      have y_f0 := HE2.out.2.2.2.2.1.frozen 0
      have y_f1 := HE2.out.2.2.2.2.1.frozen 1
      simp only [List.getElem?_toArray, List.getElem?_cons_zero, List.getElem?_cons_succ] at y_0 y_1
      have HV : Hid (PartV ax ay cx cy lx ly hx hy ((0, 0), (0, 0), false)) := ⟨fun _ => rfl, fun h => absurd (by have := HBQ.out; simpa using this) h⟩
      go_wp2_with fail
      refine bodyPost_ret (v := .tuple #[.agg #[.int .i64 0, .int .i64 0], .agg #[.int .i64 0, .int .i64 0], .bool false]) (by simp [results, Try.results81, go_sem, cSetS, cSetO, z_0, z_1, y_0, y_1]) rfl ⟨⟨((0, 0), (0, 0), false), rfl, HV.out⟩, ?_⟩
      exact (((HE2.out.2.2.2.2.2.setCell (by dsimp only; omega) _).setCell (by dsimp only; omega) _).setCell (by dsimp only; omega) _).setCell (by dsimp only; omega) _
end Go.Proofs.Ytcckekdfeeghaaa
