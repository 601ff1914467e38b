/-
  slices.Compact over segments: as a plain function, and its walk; The walk of slices.Compact over segments; The library's sort over segments, the closure of hot.edges, Compact over a row of one's own. Conditions: those that each lemma names.
-/
import Derived.Test.YtdnccjdlmepafaaGreatK14
import Derived.Test.YtdnccjdlmepafaaGreatK04
import Derived.Test.YtdnccjdlmepafaaGreatK05
set_option linter.unusedSimpArgs false
set_option linter.unusedVariables false
set_option linter.constructorNameAsVariable false
namespace Go.Proofs.YtdnccjdlmepafaaGreat
section
open Go.RowKit Go.BigFrame
def eqG (s t : Sg) : Bool := decide (s = t)
theorem eqG_b (s t : Sg) : ((s.1.1 == t.1.1 && s.1.2 == t.1.2) && (s.2.1 == t.2.1 && s.2.2 == t.2.2)) = eqG s t := by
 unfold eqG
 rw [Bool.eq_iff_iff]
 simp only [Bool.and_eq_true, beq_iff_eq, decide_eq_true_eq]
 constructor
 ·rintro ⟨⟨a, b⟩, c, d⟩; exact Prod.ext (Prod.ext a b) (Prod.ext c d)
 ·rintro rfl; simp
theorem eqSgP (s t : Sg) (w : World) : (binOp .eql 37 (.agg #[.int .i64 s.1.1, .int .i64 s.1.2, .int .i64 s.2.1, .int .i64 s.2.2]) (.agg #[.int .i64 t.1.1, .int .i64 t.1.2, .int .i64 t.2.1, .int .i64 t.2.2])).run Tryz.prog w = .ok (.bool (eqG s t)) w := by rw [eqSg, eqG_b]
theorem neqSgP (s t : Sg) (w : World) : (binOp .neq 37 (.agg #[.int .i64 s.1.1, .int .i64 s.1.2, .int .i64 s.2.1, .int .i64 s.2.2]) (.agg #[.int .i64 t.1.1, .int .i64 t.1.2, .int .i64 t.2.1, .int .i64 t.2.2])).run Tryz.prog w = .ok (.bool (!(eqG s t))) w := by rw [neqSg, eqG_b]
attribute [local go_sem ↓] eqSgP neqSgP
def RowG (w : World) (g n N : Nat) (f : Nat → Sg) : Prop :=
 ∃ cs, Blk w g 37 cs ∧ cs.size = N ∧ 4 * n ≤ N ∧ ∀ i, i < n → cs[4 * i]? = some (.int .i64 (f i).1.1) ∧ cs[4 * i + 1]? = some (.int .i64 (f i).1.2) ∧ cs[4 * i + 2]? = some (.int .i64 (f i).2.1) ∧ cs[4 * i + 3]? = some (.int .i64 (f i).2.2)
section
variable {w w' : World} {g n m N : Nat} {f f' : Nat → Sg}
theorem RowG.since (h : RowG w g n N f) (k : Since w w') : RowG w' g n N f := by
 obtain ⟨cs, hb, hc⟩ := h
 exact ⟨cs, k.blk hb, hc⟩
theorem RowG.drew (h : RowG w g n N f) : RowG w.drew g n N f := h
theorem RowG.lt (h : RowG w g n N f) : g < w.heap.size := by obtain ⟨cs, hb, -⟩ := h; exact hb.lt
theorem RowG.cells (h : RowG w g n N f) {i : Nat} (hi : i < n) :
  w.cell? ⟨g, i * 4, none⟩ = some (.int .i64 (f i).1.1) ∧ w.cell? ⟨g, i * 4 + 1, none⟩ = some (.int .i64 (f i).1.2) ∧ w.cell? ⟨g, i * 4 + 2, none⟩ = some (.int .i64 (f i).2.1) ∧ w.cell? ⟨g, i * 4 + 3, none⟩ = some (.int .i64 (f i).2.2) := by
 obtain ⟨cs, hb, -, -, hc⟩ := h
 obtain ⟨h1, h2, h3, h4⟩ := hc i hi
 rw [Nat.mul_comm 4 i] at h1 h2 h3 h4
 exact ⟨(hb.cell _).trans h1, (hb.cell _).trans h2, (hb.cell _).trans h3, (hb.cell _).trans h4⟩
theorem RowG.frozen (h : RowG w g n N f) (j : Nat) : w.frozen? ⟨g, j, none⟩ = false := by obtain ⟨cs, hb, -⟩ := h; exact hb.frozen _
theorem RowG.is (h : RowG w g n N f) {j : Nat} (hj : j < N) : (w.cell? ⟨g, j, none⟩).isSome = true := by
 obtain ⟨cs, hb, hs, -⟩ := h
 rw [hb.cell, Array.getElem?_eq_getElem (by omega)]; rfl
theorem RowG.sub (h : RowG w g n N f) (hm : m ≤ n) (hf : ∀ i, i < m → f' i = f i) : RowG w g m N f' := by
 obtain ⟨cs, hb, hs, hn, hc⟩ := h
 exact ⟨cs, hb, hs, by omega, fun i hi => by rw [hf i hi]; exact hc i (by omega)⟩
theorem RowG.set (h : RowG w g n N f) {j : Nat} (hj : j < n) (p : Sg) : RowG ((((w.setCell ⟨g, j * 4, none⟩ (.int .i64 p.1.1)).setCell ⟨g, j * 4 + 1, none⟩ (.int .i64 p.1.2)).setCell ⟨g, j * 4 + 2, none⟩ (.int .i64 p.2.1)).setCell ⟨g, j * 4 + 3, none⟩ (.int .i64 p.2.2)) g n N (fun i => if i = j then p else f i) := by
 obtain ⟨cs, hb, hs, hn, hc⟩ := h
 refine ⟨_, (((hb.set_ _ _).set_ _ _).set_ _ _).set_ _ _, by simpa using hs, hn, fun i hi => ?_⟩
 have h := hc i hi
 by_cases e : i = j
 ·subst e
  simp only [Array.getElem?_setIfInBounds, Array.size_setIfInBounds, if_true]
  refine ⟨?_, ?_, ?_, ?_⟩ <;> (repeat' split) <;> first | (exfalso; omega) | rfl
 ·simp only [if_neg e]
  refine ⟨?_, ?_, ?_, ?_⟩ <;> (rw [Array.getElem?_setIfInBounds_ne (by omega), Array.getElem?_setIfInBounds_ne (by omega), Array.getElem?_setIfInBounds_ne (by omega), Array.getElem?_setIfInBounds_ne (by omega)]) <;> first | exact h.1 | exact h.2.1 | exact h.2.2.1 | exact h.2.2.2
theorem RowG.high (h : RowG w g n N f) {j : Nat} (hj : 4 * n ≤ j) (u : Value) : RowG (w.setCell ⟨g, j, none⟩ u) g n N f := by
 obtain ⟨cs, hb, hs, hn, hc⟩ := h
 refine ⟨_, hb.set_ _ _, by simpa using hs, hn, fun i hi => ?_⟩
 rw [Array.getElem?_setIfInBounds_ne (by omega), Array.getElem?_setIfInBounds_ne (by omega), Array.getElem?_setIfInBounds_ne (by omega), Array.getElem?_setIfInBounds_ne (by omega)]
 exact hc i hi
theorem RowG.highs : ∀ (l : List Value) (j : Nat) (w : World), RowG w g n N f → 4 * n ≤ j → RowG (w.setCells g j l) g n N f
 | [], _, _, h, _ => h
 | v :: r, j, w, h, hj => RowG.highs r (j + 1) _ (h.high hj v) (by omega)
end
def lastG (l : List Sg) : Sg := sgAt l (l.length - 1)
def snocG (acc : List Sg) (q : Sg) : List Sg := if acc.length = 0 then [q] else if q = lastG acc then acc else acc ++ [q]
def cmpG (l : List Sg) : List Sg := l.foldl snocG []
theorem cmpG_snoc (l : List Sg) (q : Sg) : cmpG (l ++ [q]) = snocG (cmpG l) q := by unfold cmpG; rw [List.foldl_append]; rfl
theorem cmpG_take {l : List Sg} {j : Nat} (hj : j < l.length) : cmpG (l.take (j + 1)) = snocG (cmpG (l.take j)) (sgAt l j) := by
 rw [List.take_succ_eq_append_getElem hj, cmpG_snoc]
 simp [sgAt, List.getD, hj]
theorem lastG_snoc (l : List Sg) (q : Sg) : lastG (l ++ [q]) = q := by unfold lastG sgAt; simp [List.getD]
theorem snocG_last (l : List Sg) (q : Sg) : lastG (snocG l q) = q ∧ 1 ≤ (snocG l q).length ∧ (snocG l q).length ≤ l.length + 1 := by
 unfold snocG
 split
 ·exact ⟨by simp [lastG, sgAt, List.getD], by simp, by simp⟩
 ·split
  ·rename_i h; exact ⟨h.symm, by omega, by omega⟩
  ·exact ⟨lastG_snoc _ _, by simp, by simp⟩
theorem cmpG_law {l : List Sg} : ∀ {j : Nat}, j < l.length → lastG (cmpG (l.take (j + 1))) = sgAt l j ∧ 1 ≤ (cmpG (l.take (j + 1))).length ∧ (cmpG (l.take (j + 1))).length ≤ j + 1
 | 0, hj => by
  rw [cmpG_take hj]
  have := snocG_last (cmpG (l.take 0)) (sgAt l 0)
  exact ⟨this.1, this.2.1, by simpa [cmpG] using this.2.2⟩
 | j + 1, hj => by
  rw [cmpG_take hj]
  have := snocG_last (cmpG (l.take (j + 1))) (sgAt l (j + 1))
  have h2 := (cmpG_law (l := l) (j := j) (by omega)).2.2
  exact ⟨this.1, this.2.1, by omega⟩
theorem cmpG_same {l : List Sg} {j : Nat} (hj : j + 1 < l.length) (h : sgAt l (j + 1) = sgAt l j) : cmpG (l.take (j + 1 + 1)) = cmpG (l.take (j + 1)) := by
 have h1 := cmpG_law (l := l) (j := j) (by omega)
 rw [cmpG_take hj, snocG, if_neg (by omega), if_pos (by rw [h1.1, h])]
theorem cmpG_new {l : List Sg} {j : Nat} (hj : j + 1 < l.length) (h : ¬ sgAt l (j + 1) = sgAt l j) : cmpG (l.take (j + 1 + 1)) = cmpG (l.take (j + 1)) ++ [sgAt l (j + 1)] := by
 have h1 := cmpG_law (l := l) (j := j) (by omega)
 rw [cmpG_take hj, snocG, if_neg (by omega), if_neg (by rw [h1.1]; exact h)]
theorem cmpG_le (l : List Sg) : (cmpG l).length ≤ l.length := by
 rcases hl : l.length with _ | n
 ·rw [List.length_eq_zero_iff.1 hl]; simp [cmpG]
 ·have := (cmpG_law (l := l) (j := n) (by omega)).2.2
  rw [List.take_of_length_le (by omega)] at this
  omega
theorem sgAt_app_lt {l m : List Sg} {i : Nat} (h : i < l.length) : sgAt (l ++ m) i = sgAt l i := by unfold sgAt; simp [List.getD, List.getElem?_append_left h]
theorem sgAt_app_at (l : List Sg) (q : Sg) : sgAt (l ++ [q]) l.length = q := by unfold sgAt; simp [List.getD]
theorem sgAt_take {l : List Sg} {i j : Nat} (h : i < j) : sgAt (l.take j) i = sgAt l i := by unfold sgAt; simp [List.getD, List.getElem?_take, h]
theorem zeroSg (n : Nat) : ∀ u ∈ (Builtin.zeroCells #[Value.int .i64 0, Value.int .i64 0, Value.int .i64 0, Value.int .i64 0] n).toList, u.oneCell' = true := by
 intro u hu
 simp only [Builtin.zeroCells, Array.toList_map, List.mem_map] at hu
 obtain ⟨i, -, rfl⟩ := hu
 have : i % 4 = 0 ∨ i % 4 = 1 ∨ i % 4 = 2 ∨ i % 4 = 3 := by omega
 simp only [List.size_toArray, List.length_cons, List.length_nil]
 rcases this with h | h | h | h <;> rw [h] <;> rfl
theorem zeroSg_len (n : Nat) : (Builtin.zeroCells #[Value.int .i64 0, Value.int .i64 0, Value.int .i64 0, Value.int .i64 0] n).toList.length = n * 4 := by simp [Builtin.zeroCells]
theorem clear_sg (w : World) (g m n c N : Nat) (f : Nat → Sg) (ty : TypeId) (h : RowG w g m N f) (hn : 0 < n) (hN : 4 * (m + n) ≤ N) :
  (Builtin.clear_ #[27] ty #[.slice (some ⟨g, m * 4, none⟩) n c]).run Tryz.prog w = .ok (.tuple #[]) (w.setCells g (m * 4) (Builtin.zeroCells #[Value.int .i64 0, Value.int .i64 0, Value.int .i64 0, Value.int .i64 0] n).toList) := by
 obtain ⟨k, rfl⟩ : ∃ k, n = k + 1 := ⟨n - 1, by omega⟩
 have hst := run_storeCells_cells (P := Tryz.prog) g (m * 4) (Builtin.zeroCells #[Value.int .i64 0, Value.int .i64 0, Value.int .i64 0, Value.int .i64 0] (k + 1)).toList 0 w
  (fun j hj => h.is (by rw [zeroSg_len] at hj; omega)) (fun j hj => h.frozen _) (zeroSg (k + 1))
 simp only [Nat.add_zero] at hst
 obtain ⟨i0, hi, hz0, hz1, hz2⟩ := info_parts infoSg
 unfold Builtin.clear_
 simp [go_sem, Tryz.underlying27]
 rw [hst]; rfl
def CmpG (l : List Sg) (f : Nat → Sg) (j kk : Nat) : Prop :=
 kk = (cmpG (l.take j)).length ∧ kk < j ∧ (∀ i, i < kk → f i = sgAt (cmpG (l.take j)) i) ∧ ∀ i, j ≤ i + 1 → f i = sgAt l i
theorem CmpG.same {l : List Sg} {f : Nat → Sg} {j kk : Nat} (h : CmpG l f j kk) (hj : j < l.length) (h1 : 1 ≤ j) (e : sgAt l j = sgAt l (j - 1)) : CmpG l f (j + 1) kk := by
 obtain ⟨a, b, c, d⟩ := h
 obtain ⟨j, rfl⟩ : ∃ i, j = i + 1 := ⟨j - 1, by omega⟩
 have := cmpG_same hj e
 exact ⟨by rw [this]; exact a, by omega, by rw [this]; exact c, fun i hi => d i (by omega)⟩
theorem CmpG.new {l : List Sg} {f : Nat → Sg} {j kk : Nat} (h : CmpG l f j kk) (hj : j < l.length) (h1 : 1 ≤ j) (e : ¬ sgAt l j = sgAt l (j - 1)) : CmpG l (fun i => if i = kk then sgAt l j else f i) (j + 1) (kk + 1) := by
 obtain ⟨a, b, c, d⟩ := h
 obtain ⟨j, rfl⟩ : ∃ i, j = i + 1 := ⟨j - 1, by omega⟩
 have := cmpG_new hj e
 refine ⟨by rw [this, List.length_append, ← a]; rfl, by omega, fun i hi => ?_, fun i hi => ?_⟩
 ·rw [this]
  dsimp only
  by_cases g : i = kk
  ·rw [if_pos g, g, a, sgAt_app_at]
  ·rw [if_neg g, c i (by omega), sgAt_app_lt (by omega)]
 ·dsimp only; rw [if_neg (by omega)]; exact d i (by omega)
theorem CmpG.start {l : List Sg} {k : Nat} (hk : k + 1 < l.length) (hall : ∀ i, 1 ≤ i → i < k + 1 → sgAt l i ≠ sgAt l (i - 1)) (e : sgAt l (k + 1) = sgAt l k) : CmpG l (sgAt l) (k + 1 + 1) (k + 1) := by
 have key : ∀ j, j < k + 1 → cmpG (l.take (j + 1)) = l.take (j + 1) := by
  intro j
  induction j with
  | zero => intro _; rw [cmpG_take (by omega)]; simp [cmpG, snocG, sgAt, List.take_one, List.getD]; cases l <;> simp_all
  | succ j ih =>
   intro hj
   rw [cmpG_new (by omega) (by have := hall (j + 1) (by omega) hj; simpa using this), ih (by omega), List.take_succ_eq_append_getElem (show j + 1 < l.length by omega)]
   simp [sgAt, List.getD, show j + 1 < l.length by omega]
 have h2 := cmpG_same hk e
 rw [key k (by omega)] at h2
 refine ⟨by rw [h2]; simp; omega, by omega, fun i hi => ?_, fun i hi => rfl⟩
 rw [h2, sgAt_take hi]
theorem cmpG_id {l : List Sg} (hall : ∀ i, 1 ≤ i → i < l.length → sgAt l i ≠ sgAt l (i - 1)) : cmpG l = l := by
 rcases hl : l.length with _ | n
 ·rw [List.length_eq_zero_iff.1 hl]; rfl
 ·have key : ∀ j, j < l.length → cmpG (l.take (j + 1)) = l.take (j + 1) := by
   intro j
   induction j with
   | zero => intro _; rw [cmpG_take (by omega)]; simp [cmpG, snocG, sgAt, List.take_one, List.getD]; cases l <;> simp_all
   | succ j ih =>
    intro hj
    rw [cmpG_new (by omega) (by have := hall (j + 1) (by omega) hj; simpa using this), ih (by omega), List.take_succ_eq_append_getElem (show j + 1 < l.length by omega)]
    simp [sgAt, List.getD, show j + 1 < l.length by omega]
  have := key n (by omega)
  rwa [List.take_of_length_le (by omega)] at this
end
section
open Go.RowKit Go.BigFrame
attribute [local go_sem ↓] eqSgP neqSgP
set_option maxRecDepth 100000 in
set_option maxHeartbeats 4000000 in
theorem CompactS_any (g c N : Nat) (l : List Sg) (w : World) (hl : l.length ≤ 1000000000000) (hc : l.length ≤ c) (hr : RowG w g l.length N (sgAt l)) :
  Calls Tryz.prog 83 #[.slice (some ⟨g, 0, none⟩) l.length c] w fun e w' => e = .returned (.slice (some ⟨g, 0, none⟩) (cmpG l).length c) ∧ RowG w' g (cmpG l).length N (sgAt (cmpG l)) ∧ Only g w w' := by
 have HR := Lib.hid hr
 clear hr
 by_cases h2 : l.length < 2
 ·have HC : Hid (cmpG l = l) := by
   show _ = _
   exact cmpG_id fun i h1 h2 => by omega
  have hz : decide ((l.length : Int) < 2) = true := by rw [decide_eq_true_eq]; omega
  go_enter Tryz.func83, Tryz.ntmps83
  go_wp2
  go_ret
  rw [HC.out]
  exact ⟨rfl, HR.out, (Since.rfl_ w).only g⟩
 ·have hz : decide ((l.length : Int) < 2) = false := by rw [decide_eq_false_iff_not]; omega
  go_enter Tryz.func83, Tryz.ntmps83
  go_wp2_with fail
  go_loopw [3] (fun v wr => ∃ k : Nat, 1 ≤ k ∧ k ≤ l.length ∧ v = .int .i64 k ∧ Hid (∀ i, 1 ≤ i → i < k → sgAt l i ≠ sgAt l (i - 1)) ∧ Hid (Since w wr)) (fun v _ => l.length - (intOf v).toNat)
  case atStart => exact ⟨1, by omega, by omega, rfl, fun i h1 h2 => by omega, Since.rfl_ w⟩
  case round =>
   obtain ⟨k, hk1, hk, rfl, HA, HS⟩ := hrel
   rcases Nat.lt_or_ge k l.length with hlt | hge
   ·obtain ⟨m, hkm⟩ : ∃ m, k = m + 1 := ⟨k - 1, by omega⟩
    have HK := Lib.hid hkm
    have HRr := Lib.hid (HR.out.since HS.out)
    have iw : IntKind.i64.wrap ((k : Int) - 1) = (m : Int) := by
     rw [i64wc, show (k : Int) - 1 = m by omega]
     exact wrap_id (by omega)
    have i1 : (0 : Int) ≤ (m : Int) := Int.natCast_nonneg m
    have i2 : (m : Int) < (l.length : Int) := by omega
    have i3 : (k : Int) < (l.length : Int) := by omega
    have i4 : (0 : Int) ≤ (k : Int) := by omega
    have i5 : m < l.length := by omega
    obtain ⟨c0, c1, c2, c3⟩ := HRr.out.cells hlt
    obtain ⟨d0, d1, d2, d3⟩ := HRr.out.cells i5
    clear hkm
    go_upto_region 6 with fail
    refine region_cls (fun w' => w'.cell? ⟨g, k * 4, none⟩ = some (.int .i64 (sgAt l k).1.1) ∧ w'.cell? ⟨g, k * 4 + 1, none⟩ = some (.int .i64 (sgAt l k).1.2) ∧ w'.cell? ⟨g, k * 4 + 2, none⟩ = some (.int .i64 (sgAt l k).2.1) ∧ w'.cell? ⟨g, k * 4 + 3, none⟩ = some (.int .i64 (sgAt l k).2.2) ∧ w'.cell? ⟨g, m * 4, none⟩ = some (.int .i64 (sgAt l m).1.1) ∧ w'.cell? ⟨g, m * 4 + 1, none⟩ = some (.int .i64 (sgAt l m).1.2) ∧ w'.cell? ⟨g, m * 4 + 2, none⟩ = some (.int .i64 (sgAt l m).2.1) ∧ w'.cell? ⟨g, m * 4 + 3, none⟩ = some (.int .i64 (sgAt l m).2.2) ∧ Since wr w') (by kernel_rfl) (by kernel_rfl) (by (repeat' refine And.intro ?_ ?_) <;> first | (simp (maxDischargeDepth := 9) [c0, c1, c2, c3, d0, d1, d2, d3,  cSetS, cSetO, cellNew, World.cell?_alloc_some, cellDrew]; done) | (repeat (first | with_reducible assumption | with_reducible exact Since.rfl_ _ | refine Since.setCell ?_ (by (try dsimp only); omega) _ | refine Since.alloc ?_ _ | refine Since.drew ?_))) ?_
    repeat (go_big_quiet_step ((first | (intro hC; have hC := hC.out; (try simp only [hC, Result.andThen]); first | exact ⟨True.intro, rfl⟩ | exact ⟨rfl, rfl⟩ | rfl))))
    refine cls_end ?_
    clear c0 c1 c2 c3 d0 d1 d2 d3
    rintro w1 ⟨-, -, -, -, -, -, -, -, hs⟩
    have HS1 := Lib.hid (HS.out.trans hs)
    have HR1 := Lib.hid (HRr.out.since hs)
    clear hs HRr HS
    by_cases hb : sgAt l k = sgAt l m
    ·have hx : eqG (sgAt l k) (sgAt l m) = true := by unfold eqG; rw [decide_eq_true_eq]; exact hb
     rw [hx]
     have HI : Hid (CmpG l (sgAt l) (k + 1) k) := by
      show CmpG _ _ _ _
      have h1 := HK.out
      subst h1
      exact CmpG.start hlt HA.out hb
     clear hb HA
     have kc : k < c := by omega
     have e1 : (k : Int) ≤ (c : Int) := by omega
     have e2 : ¬ c = k := by omega
     go_wp2_with fail
     clear i1 i2 i3 i4 i5 iw
     have h1w := HR1.out.lt
     go_loopw [3, 5] (fun v3 v5 wr => ∃ (kk k2 : Nat) (f : Nat → Sg), v3 = .int .i64 kk ∧ v5 = .int .i64 k2 ∧ 1 ≤ k2 ∧ k + k2 ≤ l.length ∧ Hid (CmpG l f (k + k2) kk) ∧ Hid (RowG wr g l.length N f) ∧ Hid (Only g w wr)) (fun _ v _ => l.length - k - (intOf v).toNat)
     case atStart => exact ⟨k, 1, sgAt l, by go_num, by go_num, by omega, by omega, HI, HR1, HS1.out.only g⟩
     case round =>
      clear HR1 HS1 HI
      obtain ⟨kk, k2, f, rfl, rfl, g1, g2, HI, HR2, HO⟩ := hrel
      have hkk := HI.out.2.1
      rcases Nat.lt_or_ge (k + k2) l.length with hlt2 | hge2
      ·obtain ⟨m2, hkm2⟩ : ∃ m2, k2 = m2 + 1 := ⟨k2 - 1, by omega⟩
       have HK2 := Lib.hid hkm2
       have jw : IntKind.i64.wrap ((k2 : Int) - 1) = (m2 : Int) := by
        rw [i64wc, show (k2 : Int) - 1 = m2 by omega]
        exact wrap_id (by omega)
       have j1 : (0 : Int) ≤ (m2 : Int) := Int.natCast_nonneg m2
       have j2 : (m2 : Int) < ((l.length - k : Nat) : Int) := by omega
       have j3 : (k2 : Int) < ((l.length - k : Nat) : Int) := by omega
       have j4 : (0 : Int) ≤ (k2 : Int) := by omega
       have j5 : m2 < l.length - k := by omega
       have j6 : k2 < l.length - k := by omega
       have j7 : (kk : Int) < (l.length : Int) := by omega
       have j8 : (0 : Int) ≤ (kk : Int) := by omega
       have j9 : kk < l.length := by omega
       obtain ⟨c0, c1, c2, c3⟩ := HR2.out.cells hlt2
       obtain ⟨d0, d1, d2, d3⟩ := HR2.out.cells (i := k + m2) (by omega)
       rw [HI.out.2.2.2 _ (by omega), Nat.add_mul] at c0 c1 c2 c3 d0 d1 d2 d3
       clear hkm2
       have j10 : decide (k2 < l.length - k) = true := by rw [decide_eq_true_eq]; omega
       by_cases hb : sgAt l (k + k2) = sgAt l (k + m2)
       ·have HI2 : Hid (CmpG l f (k + k2 + 1) kk) := HI.out.same hlt2 (by omega) (by rw [hb, show k + k2 - 1 = k + m2 by have := HK2.out; omega])
        have hx : eqG (sgAt l (k + k2)) (sgAt l (k + m2)) = true := by unfold eqG; rw [decide_eq_true_eq]; exact hb
        clear hb HI
        go_upto_region 11 with fail
        refine region_cls (fun w' => w'.cell? ⟨g, k * 4 + k2 * 4, none⟩ = some (.int .i64 (sgAt l (k + k2)).1.1) ∧ w'.cell? ⟨g, k * 4 + k2 * 4 + 1, none⟩ = some (.int .i64 (sgAt l (k + k2)).1.2) ∧ w'.cell? ⟨g, k * 4 + k2 * 4 + 2, none⟩ = some (.int .i64 (sgAt l (k + k2)).2.1) ∧ w'.cell? ⟨g, k * 4 + k2 * 4 + 3, none⟩ = some (.int .i64 (sgAt l (k + k2)).2.2) ∧ w'.cell? ⟨g, k * 4 + m2 * 4, none⟩ = some (.int .i64 (sgAt l (k + m2)).1.1) ∧ w'.cell? ⟨g, k * 4 + m2 * 4 + 1, none⟩ = some (.int .i64 (sgAt l (k + m2)).1.2) ∧ w'.cell? ⟨g, k * 4 + m2 * 4 + 2, none⟩ = some (.int .i64 (sgAt l (k + m2)).2.1) ∧ w'.cell? ⟨g, k * 4 + m2 * 4 + 3, none⟩ = some (.int .i64 (sgAt l (k + m2)).2.2) ∧ Since wr w') (by kernel_rfl) (by kernel_rfl) (by (repeat' refine And.intro ?_ ?_) <;> first | (simp (maxDischargeDepth := 9) [c0, c1, c2, c3, d0, d1, d2, d3,  cSetS, cSetO, cellNew, World.cell?_alloc_some, cellDrew]; done) | (repeat (first | with_reducible assumption | with_reducible exact Since.rfl_ _ | refine Since.setCell ?_ (by (try dsimp only); omega) _ | refine Since.alloc ?_ _ | refine Since.drew ?_))) ?_
        repeat (go_big_quiet_step ((first | (intro hC; have hC := hC.out; (try simp only [hC, Result.andThen]); first | exact ⟨True.intro, rfl⟩ | exact ⟨rfl, rfl⟩ | rfl))))
        refine cls_end ?_
        clear d0 d1 d2 d3 c0 c1 c2 c3
        rintro w2 ⟨c0, c1, c2, c3, -, -, -, -, hs⟩
        have HO2 := Lib.hid (HO.out.trans (hs.only g))
        have HR3 := Lib.hid (HR2.out.since hs)
        clear hs HR2 HO
        go_wp2_with fail
        go_roundw
        case rel => exact ⟨kk, k2 + 1, f, rfl, by go_num, by omega, by omega, HI2, HR3, HO2⟩
        case measure => simp [intOf]; omega
       ·have HI2 : Hid (CmpG l (fun i => if i = kk then sgAt l (k + k2) else f i) (k + k2 + 1) (kk + 1)) := HI.out.new hlt2 (by omega) (by rw [show k + k2 - 1 = k + m2 by have := HK2.out; omega]; exact hb)
        have hx : eqG (sgAt l (k + k2)) (sgAt l (k + m2)) = false := by unfold eqG; rw [decide_eq_false_iff_not]; exact hb
        clear hb HI
        go_upto_region 11 with fail
        refine region_cls (fun w' => w'.cell? ⟨g, k * 4 + k2 * 4, none⟩ = some (.int .i64 (sgAt l (k + k2)).1.1) ∧ w'.cell? ⟨g, k * 4 + k2 * 4 + 1, none⟩ = some (.int .i64 (sgAt l (k + k2)).1.2) ∧ w'.cell? ⟨g, k * 4 + k2 * 4 + 2, none⟩ = some (.int .i64 (sgAt l (k + k2)).2.1) ∧ w'.cell? ⟨g, k * 4 + k2 * 4 + 3, none⟩ = some (.int .i64 (sgAt l (k + k2)).2.2) ∧ w'.cell? ⟨g, k * 4 + m2 * 4, none⟩ = some (.int .i64 (sgAt l (k + m2)).1.1) ∧ w'.cell? ⟨g, k * 4 + m2 * 4 + 1, none⟩ = some (.int .i64 (sgAt l (k + m2)).1.2) ∧ w'.cell? ⟨g, k * 4 + m2 * 4 + 2, none⟩ = some (.int .i64 (sgAt l (k + m2)).2.1) ∧ w'.cell? ⟨g, k * 4 + m2 * 4 + 3, none⟩ = some (.int .i64 (sgAt l (k + m2)).2.2) ∧ Since wr w') (by kernel_rfl) (by kernel_rfl) (by (repeat' refine And.intro ?_ ?_) <;> first | (simp (maxDischargeDepth := 9) [c0, c1, c2, c3, d0, d1, d2, d3,  cSetS, cSetO, cellNew, World.cell?_alloc_some, cellDrew]; done) | (repeat (first | with_reducible assumption | with_reducible exact Since.rfl_ _ | refine Since.setCell ?_ (by (try dsimp only); omega) _ | refine Since.alloc ?_ _ | refine Since.drew ?_))) ?_
        repeat (go_big_quiet_step ((first | (intro hC; have hC := hC.out; (try simp only [hC, Result.andThen]); first | exact ⟨True.intro, rfl⟩ | exact ⟨rfl, rfl⟩ | rfl))))
        refine cls_end ?_
        clear d0 d1 d2 d3 c0 c1 c2 c3
        rintro w2 ⟨c0, c1, c2, c3, -, -, -, -, hs⟩
        have HO2 := Lib.hid (HO.out.trans (hs.only g))
        have HR3 := Lib.hid (HR2.out.since hs)
        clear hs HR2 HO
        have HR4 := Lib.hid (HR3.out.set j9 (sgAt l (k + k2)))
        have HO4 := Lib.hid ((((HO2.out.setCell (p := ⟨g, kk * 4, none⟩) (.inl rfl) (.int .i64 (sgAt l (k + k2)).1.1)).setCell (p := ⟨g, kk * 4 + 1, none⟩) (.inl rfl) (.int .i64 (sgAt l (k + k2)).1.2)).setCell (p := ⟨g, kk * 4 + 2, none⟩) (.inl rfl) (.int .i64 (sgAt l (k + k2)).2.1)).setCell (p := ⟨g, kk * 4 + 3, none⟩) (.inl rfl) (.int .i64 (sgAt l (k + k2)).2.2))
        obtain ⟨q0, q1, q2, q3⟩ := HR3.out.cells j9
        have f0 := HR3.out.frozen (kk * 4)
        have f1 := HR3.out.frozen (kk * 4 + 1)
        have f2 := HR3.out.frozen (kk * 4 + 2)
        have f3 := HR3.out.frozen (kk * 4 + 3)
        go_wp2_with fail
        go_roundw
        case rel => exact ⟨kk + 1, k2 + 1, _, by go_num, by go_num, by omega, by omega, HI2, HR4, HO4⟩
        case measure => simp [intOf]; omega
      ·obtain ⟨ke, hke⟩ : ∃ ke, Hid (ke = l.length - k) := ⟨_, rfl⟩
       have h3 : k + k2 = l.length := by omega
       have HI3 := HI.out
       rw [h3, CmpG, List.take_length] at HI3
       obtain ⟨a1, a2, a3, a4⟩ := HI3
       have HN := Lib.hid a1
       have HRm := Lib.hid (HR2.out.sub (m := kk) (f' := sgAt (cmpG l)) (by omega) (fun i hi => (a3 i hi).symm))
       have hN : 4 * l.length ≤ N := by obtain ⟨cs, -, -, h, -⟩ := HR2.out; exact h
       have hcl := fun ty => clear_sg wr g kk (l.length - kk) (c - kk) N _ ty HRm.out (by omega) (by omega)
       have HRe := Lib.hid (RowG.highs (Builtin.zeroCells #[Value.int .i64 0, Value.int .i64 0, Value.int .i64 0, Value.int .i64 0] (l.length - kk)).toList (kk * 4) wr HRm.out (by omega))
       have HOe := Lib.hid (only_cells (Builtin.zeroCells #[Value.int .i64 0, Value.int .i64 0, Value.int .i64 0, Value.int .i64 0] (l.length - kk)).toList (kk * 4) wr HO.out)
       generalize (Builtin.zeroCells #[Value.int .i64 0, Value.int .i64 0, Value.int .i64 0, Value.int .i64 0] (l.length - kk)).toList = zs at *
       clear a1 a3 a4 HI HR2 HO HRm
       have b1 : (kk : Int) ≤ (l.length : Int) := by omega
       have b2 : (kk : Int) ≤ (c : Int) := by omega
       have b3 : ¬ c = kk := by omega
       have b4 : (0 : Int) ≤ (kk : Int) := by omega
       have b5 : kk < c := by omega
       have b6 : decide (k2 < l.length - k) = false := by rw [decide_eq_false_iff_not]; omega
       go_wp2
       go_ret
       rw [← HN.out]
       exact ⟨rfl, HRe.out, HOe.out⟩
    ·have HB : Hid (∀ i, 1 ≤ i → i < k + 1 → sgAt l i ≠ sgAt l (i - 1)) := fun i h1 h2 => by
      rcases Nat.lt_succ_iff_lt_or_eq.1 h2 with h | h
      ·exact HA.out i h1 h
      ·rw [h, show k - 1 = m by have := HK.out; omega]; exact hb
     have hx : eqG (sgAt l k) (sgAt l m) = false := by unfold eqG; rw [decide_eq_false_iff_not]; exact hb
     rw [hx]
     clear hb HA
     go_wp2_with fail
     go_roundw
     case rel => exact ⟨k + 1, by omega, by omega, by go_num, HB, HS1⟩
     case measure => simp [intOf]; omega
   ·have HC : Hid (cmpG l = l) := by
     show _ = _
     exact cmpG_id fun i h1 h2 => HA.out i h1 (by omega)
    have hz3 : decide ((k : Int) < (l.length : Int)) = false := by rw [decide_eq_false_iff_not]; omega
    clear HA
    go_wp2
    go_ret
    rw [HC.out]
    exact ⟨rfl, HR.out.since HS.out, HS.out.only g⟩
end
section
open Go.RowKit Go.BigFrame Go.Shelf Go.Lib Go.Proofs
attribute [local go_sem ↓] eqPt neqPt
def sortSg_ren : Go.Shelf.Ren := ⟨fun | 6 => 71 | 15 => 96 | 14 => 95 | 28 => 117 | 29 => 118 | 20 => 109 | 21 => 110 | 22 => 111 | 23 => 112 | 24 => 113 | 25 => 114 | 26 => 115 | 27 => 116 | 46 => 143 | 47 => 144 | 48 => 145 | 49 => 146 | 50 => 147 | 57 => 165 | n => n, fun | 22 => 27 | 24 => 37 | 25 => 100 | 3 => 3 | 39 => 118 | 0 => 0 | 53 => 141 | 55 => 143 | 4 => 4 | 46 => 134 | 45 => 133 | 50 => 138 | 5 => 5 | 9 => 9 | 66 => 168 | 70 => 172 | 76 => 195 | 77 => 187 | n => n, fun | n => n⟩
theorem sortSg : Go.Proofs.SlLaysF0.n6 Tryz.prog sortSg_ren := {
 mixed := by kernel_rfl
 f6 := ⟨Tryz.f71.name, by decide, Tryz.func71.trans (congrArg some (by kernel_rfl))⟩
 f14 := ⟨Tryz.f95.name, by decide, Tryz.func95.trans (congrArg some (by kernel_rfl))⟩
 f15 := Tryz.func96.trans (congrArg some (by kernel_rfl))
 f20 := ⟨Tryz.f109.name, by decide, Tryz.func109.trans (congrArg some (by kernel_rfl))⟩
 f21 := ⟨Tryz.f110.name, by decide, Tryz.func110.trans (congrArg some (by kernel_rfl))⟩
 f22 := ⟨Tryz.f111.name, by decide, Tryz.func111.trans (congrArg some (by kernel_rfl))⟩
 f23 := ⟨Tryz.f112.name, by decide, Tryz.func112.trans (congrArg some (by kernel_rfl))⟩
 f24 := ⟨Tryz.f113.name, by decide, Tryz.func113.trans (congrArg some (by kernel_rfl))⟩
 f25 := ⟨Tryz.f114.name, by decide, Tryz.func114.trans (congrArg some (by kernel_rfl))⟩
 f26 := ⟨Tryz.f115.name, by decide, Tryz.func115.trans (congrArg some (by kernel_rfl))⟩
 f27 := ⟨Tryz.f116.name, by decide, Tryz.func116.trans (congrArg some (by kernel_rfl))⟩
 f28 := Tryz.func117.trans (congrArg some (by kernel_rfl))
 f29 := Tryz.func118.trans (congrArg some (by kernel_rfl))
 f46 := ⟨Tryz.f143.name, by decide, Tryz.func143.trans (congrArg some (by kernel_rfl))⟩
 f47 := Tryz.func144.trans (congrArg some (by kernel_rfl))
 f48 := Tryz.func145.trans (congrArg some (by kernel_rfl))
 f49 := ⟨Tryz.f146.name, by decide, Tryz.func146.trans (congrArg some (by kernel_rfl))⟩
 f50 := ⟨Tryz.f147.name, by decide, Tryz.func147.trans (congrArg some (by kernel_rfl))⟩
 f57 := ⟨Tryz.f165.name, by decide, Tryz.func165.trans (congrArg some (by kernel_rfl))⟩
 t0 := Tryz.underlying0
 a0 := Tryz.isAgg0
 z0 := Tryz.sizeOf0
 v0 := Tryz.zeroValue0
 t3 := Tryz.underlying3
 a3 := Tryz.isAgg3
 z3 := Tryz.sizeOf3
 v3 := Tryz.zeroValue3
 t4 := Tryz.underlying4
 a4 := Tryz.isAgg4
 z4 := Tryz.sizeOf4
 v4 := Tryz.zeroValue4
 t5 := Tryz.underlying5
 a5 := Tryz.isAgg5
 z5 := Tryz.sizeOf5
 v5 := Tryz.zeroValue5
 t9 := Tryz.underlying9
 a9 := Tryz.isAgg9
 z9 := Tryz.sizeOf9
 v9 := Tryz.zeroValue9
 t22 := Tryz.underlying27
 a22 := Tryz.isAgg27
 z22 := Tryz.sizeOf27
 v22 := Tryz.zeroValue27
 t25 := Tryz.underlying100
 a25 := Tryz.isAgg100
 z25 := Tryz.sizeOf100
 v25 := Tryz.zeroValue100
 t39 := Tryz.underlying118
 a39 := Tryz.isAgg118
 z39 := Tryz.sizeOf118
 v39 := Tryz.zeroValue118
 t45 := Tryz.underlying133
 a45 := Tryz.isAgg133
 z45 := Tryz.sizeOf133
 v45 := Tryz.zeroValue133
 t46 := Tryz.underlying134
 a46 := Tryz.isAgg134
 z46 := Tryz.sizeOf134
 v46 := Tryz.zeroValue134
 t50 := Tryz.underlying138
 a50 := Tryz.isAgg138
 z50 := Tryz.sizeOf138
 v50 := Tryz.zeroValue138
 t53 := Tryz.underlying141
 a53 := Tryz.isAgg141
 z53 := Tryz.sizeOf141
 v53 := Tryz.zeroValue141
 t55 := Tryz.underlying143
 a55 := Tryz.isAgg143
 z55 := Tryz.sizeOf143
 v55 := Tryz.zeroValue143
 t66 := Tryz.underlying168
 a66 := Tryz.isAgg168
 z66 := Tryz.sizeOf168
 v66 := Tryz.zeroValue168
 t70 := Tryz.underlying172
 a70 := Tryz.isAgg172
 z70 := Tryz.sizeOf172
 v70 := Tryz.zeroValue172
 t76 := Tryz.underlying195
 a76 := Tryz.isAgg195
 z76 := Tryz.sizeOf195
 v76 := Tryz.zeroValue195
 t77 := Tryz.underlying187
 a77 := Tryz.isAgg187
 z77 := Tryz.sizeOf187
 v77 := Tryz.zeroValue187 }
theorem sgV_len (s : Sg) : (sgV s).length = 4 := rfl
theorem sgV_one (x : Sg) : ∀ v ∈ sgV x, v.oneCell' = true := by
 intro v hv
 simp only [sgV, List.mem_cons, List.not_mem_nil, or_false] at hv
 rcases hv with rfl | rfl | rfl | rfl <;> rfl
theorem flatG_len (l : List Sg) : (l.flatMap sgV).length = l.length * 4 := by
 induction l with
 | nil => rfl
 | cons p l ih => rw [List.flatMap_cons, List.length_append, ih, sgV_len, List.length_cons]; omega
theorem flatK_sgV (l : List Sg) : Go.Sort.flatK sgV 4 l.toArray = (l.flatMap sgV).toArray := by
 refine Go.Sort.ext_get! (by rw [Go.Sort.size_flatK, List.size_toArray, List.size_toArray, flatG_len]) fun t ht => ?_
 rw [Go.Sort.size_flatK] at ht
 rw [Go.Sort.get_flatK _ _ _ _ ht]
 have ht' : t < l.length * 4 := by simpa using ht
 have hi : t / 4 < l.length := by omega
 have h1 := flat_at sgV_len l (t / 4) (t % 4) hi (by omega)
 rw [show t / 4 * 4 + t % 4 = t by omega] at h1
 have h2 : (l.flatMap sgV).toArray[t]! = (sgV l[t / 4])[t % 4]! := by
  rw [getElem!_def, getElem!_def, List.getElem?_toArray, h1]
 rw [h2, getElem!_pos l.toArray (t / 4) (by simpa using hi), List.getElem_toArray]
section
variable {w : World} {B g n c m : Nat} {l l' : List Sg} {os : Array Obj}
theorem own_holdsG (h : w.ownsRow B 37 4 (.slice (some ⟨g, 0, none⟩) n c) n (l.flatMap sgV)) (hn : n = l.length) : Go.Sort.HoldsK sgV 4 w g 0 l.toArray := by
 intro j hj
 rw [flatK_sgV] at hj ⊢
 have hj' : j < n * 4 := by simp only [List.size_toArray, flatG_len] at hj; omega
 refine ⟨?_, h.frozenAt _⟩
 rw [Nat.zero_add, h.cellAt j hj']
 rw [getElem!_pos _ j hj, List.getElem_toArray, List.getElem?_eq_getElem]
 rfl
theorem only_sortG (d : Array Sg) (hg : g < w.heap.size) : Only g w (Go.Sort.grow (Go.Sort.putRowK sgV 4 (Go.Sort.ahead w m) g 0 d) os) := by
 refine ⟨rfl, rfl, rfl, by simp [Go.Sort.putRowK], fun k hk hne => ?_⟩
 rw [Go.Sort.heap_grow_old _ _ (by simpa [Go.Sort.putRowK] using hk)]
 have : g ≠ k := fun e => hne (by rw [e])
 simp [Go.Sort.putRowK, Go.Sort.putRow, Go.Sort.mapBlock, Go.Sort.ahead, Array.getElem?_modify, this]
theorem own_sortG (h : w.ownsRow B 37 4 (.slice (some ⟨g, 0, none⟩) n c) n (l.flatMap sgV)) (hn : n = l.length) (hl : l'.length = l.length) :
  (Go.Sort.grow (Go.Sort.putRowK sgV 4 (Go.Sort.ahead w m) g 0 l'.toArray) os).ownsRow B 37 4 (.slice (some ⟨g, 0, none⟩) n c) n (l'.flatMap sgV) := by
 obtain ⟨h0, ⟨h1, -⟩ | ⟨g', cap, cur, h1, hb, hg, hc, hm, hs, ht⟩⟩ := h
 ·cases h1
 ·injection h1 with h1 h2 h3
  injection h1 with h1
  injection h1 with h1
  subst h1 h3
  have hlt : g < w.heap.size := (Array.getElem?_eq_some_iff.1 hg).1
  refine ⟨by rw [flatG_len, hn, hl], .inr ⟨g, c, Go.Sort.putCells id 0 (l'.flatMap sgV).toArray cur, rfl, hb, ?_, hc, hm, by simp [Go.Sort.putCells, hs], ?_⟩⟩
  ·rw [Go.Sort.heap_grow_old _ _ (by simpa [Go.Sort.putRowK] using hlt)]
   simp [Go.Sort.putRowK, Go.Sort.putRow, Go.Sort.mapBlock, Go.Sort.ahead, Array.getElem?_modify, hg, Go.Sort.onCells, flatK_sgV]
  ·have hle : n * 4 ≤ cur.size := by rw [hs]; exact Nat.mul_le_mul_right 4 hc
   apply List.ext_getElem?
   intro j
   have hlen : (l'.flatMap sgV).length = n * 4 := by rw [flatG_len, hn, hl]
   by_cases hj : j < n * 4
   ·rw [List.getElem?_take_of_lt hj, Array.getElem?_toList]
    simp [Go.Sort.putCells, hj, hlen, show j < cur.size by omega]
   ·rw [List.getElem?_take_eq_none (by omega), List.getElem?_eq_none (by omega)]
end
theorem grown_since (w : World) (q : Nat) (os : Array Obj) : Since w (Go.Sort.grow (w.drewN q) os) :=
 ⟨rfl, rfl, rfl, by simp [Go.Sort.grow, World.drewN], fun i hi => by
  have h1 : (Go.Sort.grow (w.drewN q) os).heap = w.heap ++ os := rfl
  rw [h1, Array.getElem?_append_left hi]⟩
def cmpS (s t : Sg) : Int := if cmpP s.1 t.1 = 0 then cmpP s.2 t.2 else cmpP s.1 t.1
def lxG (s t : Sg) : Bool := lxB s.1 t.1 || (decide (s.1 = t.1) && lxB s.2 t.2)
theorem cmpP_zero (a b : Pt2) : cmpP a b = 0 ↔ a = b := by
 unfold cmpP cmpI
 constructor
 ·intro h
  repeat' split at h
  all_goals first | exact absurd h (by omega) | exact Prod.ext (by omega) (by omega)
 ·rintro rfl; simp
theorem cmpS_lt (s t : Sg) : Go.Proofs.ltOf cmpS s t = lxG s t := by
 have h1 := cmpP_lt s.1 t.1
 have h2 := cmpP_lt s.2 t.2
 unfold Go.Proofs.ltOf at *
 unfold cmpS lxG
 rw [← h1, ← h2]
 by_cases h : s.1 = t.1
 ·rw [if_pos ((cmpP_zero _ _).2 h), (cmpP_zero _ _).2 h]; simp [h]
 ·rw [if_neg (fun k => h ((cmpP_zero _ _).1 k))]; simp [h]
theorem lxB_lx {a b : Pt2} : lxB a b = true ↔ lx a b := by unfold lxB lx; simp only [Bool.or_eq_true, Bool.and_eq_true, decide_eq_true_eq]
theorem lxG_iff {s t : Sg} : lxG s t = true ↔ lx s.1 t.1 ∨ (s.1 = t.1 ∧ lx s.2 t.2) := by unfold lxG; rw [Bool.or_eq_true, Bool.and_eq_true, decide_eq_true_eq, lxB_lx, lxB_lx]
theorem lxG_trans {x y z : Sg} (h : lxG x y = true) (k : lxG y z = true) : lxG x z = true := by
 rw [lxG_iff] at *
 rcases h with h | ⟨h, h'⟩
 ·rcases k with k | ⟨k, k'⟩
  ·exact .inl (lx_trans h k)
  ·exact .inl (k ▸ h)
 ·rcases k with k | ⟨k, k'⟩
  ·exact .inl (h ▸ k)
  ·exact .inr ⟨h.trans k, lx_trans h' k'⟩
theorem lxG_irr (x : Sg) : lxG x x = false := by
 rw [Bool.eq_false_iff]; intro h
 rcases lxG_iff.1 h with h | h
 ·exact lx_irr _ h
 ·exact lx_irr _ h.2
theorem lxG_tri (x y : Sg) : lxG x y = true ∨ x = y ∨ lxG y x = true := by
 rw [lxG_iff, lxG_iff]
 rcases lx_tri x.1 y.1 with h | h | h
 ·exact .inl (.inl h)
 ·rcases lx_tri x.2 y.2 with k | k | k
  ·exact .inl (.inr ⟨h, k⟩)
  ·exact .inr (.inl (Prod.ext h k))
  ·exact .inr (.inr (.inr ⟨h.symm, k⟩))
 ·exact .inr (.inr (.inl h))
theorem cmpS_swo : Go.Sort.SWO (ltOf cmpS) where
 irrefl x := by rw [cmpS_lt]; exact lxG_irr x
 trans x y z h1 h2 := by rw [cmpS_lt] at *; exact lxG_trans h1 h2
 ntrans x y z h1 h2 := by
  rw [cmpS_lt] at *
  rcases lxG_tri x y with h | h | h
  ·rw [h] at h1; cases h1
  ·rw [h]; exact h2
  ·rcases lxG_tri y z with k | k | k
   ·rw [k] at h2; cases h2
   ·rw [← k, h1]
   ·rw [Bool.eq_false_iff]; intro e
    have := lxG_trans (lxG_trans k h) e
    rw [lxG_irr] at this; cases this
set_option maxHeartbeats 1000000 in
theorem EdgeCmp_any (s t : Sg) (w : World) : Calls Tryz.prog 82 #[.agg #[.int .i64 s.1.1, .int .i64 s.1.2, .int .i64 s.2.1, .int .i64 s.2.2], .agg #[.int .i64 t.1.1, .int .i64 t.1.2, .int .i64 t.2.1, .int .i64 t.2.2]] w fun e w' => e = .returned (.int .i64 (cmpS s t)) ∧ ∃ q os', w' = Go.Sort.grow (w.drewN q) os' := by
 have H1 := Lib.hid (fun w => Cmp_any s.1 t.1 w)
 have H2 := Lib.hid (fun w => Cmp_any s.2 t.2 w)
 have HD : Hid (cmpS s t = if cmpP s.1 t.1 = 0 then cmpP s.2 t.2 else cmpP s.1 t.1) := rfl
 obtain ⟨x, HX⟩ : ∃ x, Hid (x = cmpP s.1 t.1) := ⟨_, rfl⟩
 obtain ⟨y, HY⟩ : ∃ y, Hid (y = cmpP s.2 t.2) := ⟨_, rfl⟩
 rw [← HX.out] at H1 HD
 rw [← HY.out] at H2 HD
 go_enter Tryz.func82, Tryz.ntmps82
 go_upto_region 1 with fail
 obtain ⟨G, HG⟩ : ∃ G, G = w.heap.size := ⟨_, rfl⟩
 rw [← HG]
 refine atW (fun w' => Hid (∃ q os, w' = Go.Sort.grow (w.drewN q) os) ∧ Blk w' G 37 #[.int .i64 s.1.1, .int .i64 s.1.2, .int .i64 s.2.1, .int .i64 s.2.2] ∧ Blk w' (G + 1) 37 #[.int .i64 t.1.1, .int .i64 t.1.2, .int .i64 t.2.1, .int .i64 t.2.2]) ⟨⟨0, _, by rw [Go.Sort.alloc_eq_grow, Go.Sort.alloc_eq_grow, Go.Sort.grow_grow]; rfl⟩, (Blk.new' HG).alloc _, Blk.new' (by simp [HG])⟩ ?_
 clear HG
 rintro w1 ⟨HW, hs, ht⟩
 have a_0 := hs.cell 0
 have a_1 := hs.cell 1
 have a_2 := hs.cell 2
 have a_3 := hs.cell 3
 simp only [List.getElem?_toArray, List.getElem?_cons_zero, List.getElem?_cons_succ] at a_0 a_1 a_2 a_3
 have b_0 := ht.cell 0
 have b_1 := ht.cell 1
 have b_2 := ht.cell 2
 have b_3 := ht.cell 3
 simp only [List.getElem?_toArray, List.getElem?_cons_zero, List.getElem?_cons_succ] at b_0 b_1 b_2 b_3
 have HB := Lib.hid (And.intro hs ht)
 clear hs ht
 go_wp2_with fail
 refine (H1.out _).mono ?_
 rintro e w2 ⟨rfl, hq⟩
 have hs2 : Since w1 w2 := by
  obtain ⟨q, os, rfl⟩ := hq
  exact grown_since _ _ _
 have HW2 : Hid (∃ q os, w2 = Go.Sort.grow (w.drewN q) os) := by
  obtain ⟨q, os, rfl⟩ := hq
  obtain ⟨q', os', rfl⟩ := HW.out
  exact ⟨q' + q, os' ++ os, by simp [World.drewN, Go.Sort.grow, Nat.add_assoc]⟩
 have a_2 := keepC hs2 _ _ a_2
 have a_3 := keepC hs2 _ _ a_3
 have b_2 := keepC hs2 _ _ b_2
 have b_3 := keepC hs2 _ _ b_3
 clear a_0 a_1 b_0 b_1 HW HB hs2 hq
 by_cases hx : x = 0
 ·have hx0 : (x == 0) = true := by rw [beq_iff_eq]; exact hx
  have HE : Hid (y = cmpS s t) := by show _ = _; rw [HD.out, if_pos hx]
  clear hx HD
  go_wp2_with fail
  refine (H2.out _).mono ?_
  rintro e w3 ⟨rfl, hq⟩
  have HW3 : Hid (∃ q os, w3 = Go.Sort.grow (w.drewN q) os) := by
   obtain ⟨q, os, rfl⟩ := hq
   obtain ⟨q', os', rfl⟩ := HW2.out
   exact ⟨q' + q, os' ++ os, by simp [World.drewN, Go.Sort.grow, Nat.add_assoc]⟩
  clear hq
  go_wp2_with fail
  go_ret
  exact ⟨ret_int HE.out, HW3.out⟩
 ·have hx0 : (x == 0) = false := by rw [beq_eq_false_iff_ne]; exact hx
  have HE : Hid (x = cmpS s t) := by show _ = _; rw [HD.out, if_neg hx]
  clear hx HD
  go_wp2_with fail
  go_ret
  exact ⟨ret_int HE.out, HW2.out⟩
def srtG (l : List Sg) : List Sg := l.mergeSort fun x y => !lxG y x
theorem sortG_any (g c n B : Nat) (l : List Sg) (w : World) (h : w.ownsRow B 37 4 (.slice (some ⟨g, 0, none⟩) n c) n (l.flatMap sgV)) (hn : n = l.length) (hlen : n ≤ 1000000000000) :
  Calls Tryz.prog 71 #[.slice (some ⟨g, 0, none⟩) n c, .func (.func 82) #[] #[]] w fun e w' => e = .returned (.tuple #[]) ∧ w'.ownsRow B 37 4 (.slice (some ⟨g, 0, none⟩) n c) n ((srtG l).flatMap sgV) ∧ Only g w w' := by
 have eg : ∀ args w, (callFunc 82 args).run Tryz.prog w = .ok (.enter 82 args) w := enters_of Tryz.func82 (by kernel_rfl) rfl
 have hT : ∀ x y, (ltOf cmpS) x y = false → (ltOf cmpS) y x = false → x = y := fun x y h1 h2 => by
  rw [cmpS_lt] at *
  rcases lxG_tri x y with k | k | k
  ·rw [k] at h1; cases h1
  ·exact k
  ·rw [k] at h2; cases h2
 have hcon := AnyQ.slices_SortFunc_total sortSg 4 Tryz.isAgg37 Tryz.sizeOf37 sgV sgV_len sgV_one cmpS cmpS_swo 82 #[] g 0 c l.toArray w eg (fun _ _ _ _ x y => EdgeCmp_any x y _) (own_holdsG h hn) (h.lt g rfl).2 (by simp; omega) hT
 change Calls Tryz.prog 71 _ _ _ at hcon
 rw [show l.toArray.size = n by simp [hn]] at hcon
 refine hcon.mono ?_
 rintro e w' ⟨rfl, m, os, rfl⟩
 have e1 : (l.toArray.toList.mergeSort fun x y => !(ltOf cmpS) y x).toArray = (srtG l).toArray := by
  unfold srtG
  have : (fun x y => !(ltOf cmpS) y x) = fun x y => !lxG y x := by funext x y; rw [cmpS_lt]
  rw [this]
 rw [e1]
 exact ⟨rfl, own_sortG h hn (by unfold srtG; simp), only_sortG _ (h.lt g rfl).2⟩
end
end Go.Proofs.YtdnccjdlmepafaaGreat
