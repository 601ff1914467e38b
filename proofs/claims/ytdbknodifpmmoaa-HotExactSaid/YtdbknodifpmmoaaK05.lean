/-
  slices.Compact over points: as a plain function, and its walk; The walk of clip.Line; The memory of terrref3.Clipped: a row of rows of points; plain laws of the reference's line; The walk of hull.Of; slices.SortFunc and slices.Reverse over points, out of the kit's contracts; Walks of buffer.Octagon and buffer.Strip; The walk of buffer.Strip. Conditions: those that each lemma names.
-/
import Derived.Test.YtdbknodifpmmoaaK02
import Derived.Laws.IdiomCopy
import Derived.Test.YtdbknodifpmmoaaK03
import Derived.Test.YtdbknodifpmmoaaK04
section
namespace Go.Proofs.Ytdbknodifpmmoaa
set_option linter.unusedSimpArgs false
set_option linter.unusedVariables false
open Go.RowKit Go.BigFrame
attribute [local go_sem ↓] eqPt neqPt

theorem i64wc (n : Int) : IntKind.i64.wrap n = wrap64 n := by unfold wrap64; exact IntKind.wrap_i64 n
/-- Block g reads as the points f 0, f 1, .. f (n - 1); it has N cells. -/
def RowP (w : World) (g n N : Nat) (f : Nat → Pt2) : Prop :=
  ∃ cs, Blk w g 26 cs ∧ cs.size = N ∧ 2 * n ≤ N ∧ ∀ i, i < n → cs[2 * i]? = some (.int .i64 (f i).1) ∧ cs[2 * i + 1]? = some (.int .i64 (f i).2)
section
variable {w w' : World} {g n m N : Nat} {f f' : Nat → Pt2}
theorem RowP.since (h : RowP w g n N f) (k : Since w w') : RowP w' g n N f := by
  obtain ⟨cs, hb, hc⟩ := h
  exact ⟨cs, k.blk hb, hc⟩
theorem RowP.drew (h : RowP w g n N f) : RowP w.drew g n N f := h
theorem RowP.lt (h : RowP w g n N f) : g < w.heap.size := by obtain ⟨cs, hb, -⟩ := h; exact hb.lt
theorem RowP.cells (h : RowP w g n N f) {i : Nat} (hi : i < n) :
    w.cell? ⟨g, i * 2, none⟩ = some (.int .i64 (f i).1) ∧ w.cell? ⟨g, i * 2 + 1, none⟩ = some (.int .i64 (f i).2) := by
  obtain ⟨cs, hb, -, -, hc⟩ := h
  obtain ⟨h1, h2⟩ := hc i hi
  rw [Nat.mul_comm 2 i] at h1 h2
  exact ⟨(hb.cell _).trans h1, (hb.cell _).trans h2⟩
theorem RowP.frozen (h : RowP w g n N f) (j : Nat) : w.frozen? ⟨g, j, none⟩ = false := by obtain ⟨cs, hb, -⟩ := h; exact hb.frozen _
theorem RowP.is (h : RowP w g n N f) {j : Nat} (hj : j < N) : (w.cell? ⟨g, j, none⟩).isSome = true := by
  obtain ⟨cs, hb, hs, -⟩ := h
  rw [hb.cell, Array.getElem?_eq_getElem (by omega)]; rfl
theorem RowP.sub (h : RowP w g n N f) (hm : m ≤ n) (hf : ∀ i, i < m → f' i = f i) : RowP w g m N f' := by
  obtain ⟨cs, hb, hs, hn, hc⟩ := h
  exact ⟨cs, hb, hs, by omega, fun i hi => by rw [hf i hi]; exact hc i (by omega)⟩
theorem RowP.set (h : RowP w g n N f) {j : Nat} (hj : j < n) (p : Pt2) : RowP ((w.setCell ⟨g, j * 2, none⟩ (.int .i64 p.1)).setCell ⟨g, j * 2 + 1, none⟩ (.int .i64 p.2)) g n N (fun i => if i = j then p else f i) := by
  obtain ⟨cs, hb, hs, hn, hc⟩ := h
  refine ⟨_, (hb.set_ _ _).set_ _ _, by simpa using hs, hn, fun i hi => ?_⟩
  simp only [Array.getElem?_setIfInBounds, Array.size_setIfInBounds]
  refine ⟨?_, ?_⟩ <;> (repeat' split) <;> first | (exfalso; omega) | rfl | exact (hc i hi).1 | exact (hc i hi).2
theorem RowP.high (h : RowP w g n N f) {j : Nat} (hj : 2 * n ≤ j) (u : Value) : RowP (w.setCell ⟨g, j, none⟩ u) g n N f := by
  obtain ⟨cs, hb, hs, hn, hc⟩ := h
  refine ⟨_, hb.set_ _ _, by simpa using hs, hn, fun i hi => ?_⟩
  rw [Array.getElem?_setIfInBounds_ne (by omega), Array.getElem?_setIfInBounds_ne (by omega)]
  exact hc i hi
theorem RowP.highs : ∀ (l : List Value) (j : Nat) (w : World), RowP w g n N f → 2 * n ≤ j → RowP (w.setCells g j l) g n N f
  | [], _, _, h, _ => h
  | v :: r, j, w, h, hj => RowP.highs r (j + 1) _ (h.high hj v) (by omega)
end
theorem only_cells {g : Nat} {w0 : World} : ∀ (l : List Value) (j : Nat) (w : World), Only g w0 w → Only g w0 (w.setCells g j l)
  | [], _, _, h => h
  | v :: r, j, w, h => only_cells r (j + 1) _ (h.setCell (.inl rfl) v)

def snocC (acc : List Pt2) (q : Pt2) : List Pt2 := if acc.length = 0 then [q] else if q = lastP acc then acc else acc ++ [q]
/-- Runs of equal points, each one once. -/
def cmpL (l : List Pt2) : List Pt2 := l.foldl snocC []
theorem cmpL_snoc (l : List Pt2) (q : Pt2) : cmpL (l ++ [q]) = snocC (cmpL l) q := by unfold cmpL; rw [List.foldl_append]; rfl
theorem cmpL_take {l : List Pt2} {j : Nat} (hj : j < l.length) : cmpL (l.take (j + 1)) = snocC (cmpL (l.take j)) (pAt l j) := by
  rw [List.take_succ_eq_append_getElem hj, cmpL_snoc]
  simp [pAt, List.getD, hj]
theorem lastP_snoc (l : List Pt2) (q : Pt2) : lastP (l ++ [q]) = q := by unfold lastP pAt; simp [List.getD]
theorem snocC_last (l : List Pt2) (q : Pt2) : lastP (snocC l q) = q ∧ 1 ≤ (snocC l q).length ∧ (snocC l q).length ≤ l.length + 1 := by
  unfold snocC
  split
  · exact ⟨by simp [lastP, pAt, List.getD], by simp, by simp⟩
  · split
    · rename_i h; exact ⟨h.symm, by omega, by omega⟩
    · exact ⟨lastP_snoc _ _, by simp, by simp⟩
theorem cmpL_law {l : List Pt2} : ∀ {j : Nat}, j < l.length → lastP (cmpL (l.take (j + 1))) = pAt l j ∧ 1 ≤ (cmpL (l.take (j + 1))).length ∧ (cmpL (l.take (j + 1))).length ≤ j + 1
  | 0, hj => by
    rw [cmpL_take hj]
    have := snocC_last (cmpL (l.take 0)) (pAt l 0)
    exact ⟨this.1, this.2.1, by simpa [cmpL] using this.2.2⟩
  | j + 1, hj => by
    rw [cmpL_take hj]
    have := snocC_last (cmpL (l.take (j + 1))) (pAt l (j + 1))
    have h2 := (cmpL_law (l := l) (j := j) (by omega)).2.2
    exact ⟨this.1, this.2.1, by omega⟩
theorem cmpL_same {l : List Pt2} {j : Nat} (hj : j + 1 < l.length) (h : pAt l (j + 1) = pAt l j) : cmpL (l.take (j + 1 + 1)) = cmpL (l.take (j + 1)) := by
  have h1 := cmpL_law (l := l) (j := j) (by omega)
  rw [cmpL_take hj, snocC, if_neg (by omega), if_pos (by rw [h1.1, h])]
theorem cmpL_new {l : List Pt2} {j : Nat} (hj : j + 1 < l.length) (h : ¬ pAt l (j + 1) = pAt l j) : cmpL (l.take (j + 1 + 1)) = cmpL (l.take (j + 1)) ++ [pAt l (j + 1)] := by
  have h1 := cmpL_law (l := l) (j := j) (by omega)
  rw [cmpL_take hj, snocC, if_neg (by omega), if_neg (by rw [h1.1]; exact h)]
theorem cmpL_le (l : List Pt2) : (cmpL l).length ≤ l.length := by
  rcases hl : l.length with _ | n
  · rw [List.length_eq_zero_iff.1 hl]; simp [cmpL]
  · have := (cmpL_law (l := l) (j := n) (by omega)).2.2
    rw [List.take_of_length_le (by omega)] at this
    omega
theorem pAt_app_lt {l m : List Pt2} {i : Nat} (h : i < l.length) : pAt (l ++ m) i = pAt l i := by unfold pAt; simp [List.getD, List.getElem?_append_left h]
theorem pAt_app_at (l : List Pt2) (q : Pt2) : pAt (l ++ [q]) l.length = q := by unfold pAt; simp [List.getD]
theorem pAt_take {l : List Pt2} {i j : Nat} (h : i < j) : pAt (l.take j) i = pAt l i := by unfold pAt; simp [List.getD, List.getElem?_take, h]

theorem zeroPt (n : Nat) : ∀ u ∈ (Builtin.zeroCells #[Value.int .i64 0, Value.int .i64 0] n).toList, u.oneCell' = true := by
  intro u hu
  simp only [Builtin.zeroCells, Array.toList_map, List.mem_map] at hu
  obtain ⟨i, -, rfl⟩ := hu
  have : i % 2 = 0 ∨ i % 2 = 1 := by omega
  simp only [List.size_toArray, List.length_cons, List.length_nil]
  rcases this with h | h <;> rw [h] <;> rfl
theorem zeroPt_len (n : Nat) : (Builtin.zeroCells #[Value.int .i64 0, Value.int .i64 0] n).toList.length = n * 2 := by simp [Builtin.zeroCells]
theorem clear_pt (w : World) (g m n c N : Nat) (f : Nat → Pt2) (ty : TypeId) (h : RowP w g m N f) (hn : 0 < n) (hN : 2 * (m + n) ≤ N) :
    (Builtin.clear_ #[33] ty #[.slice (some ⟨g, m * 2, none⟩) n c]).run Try.prog w = .ok (.tuple #[]) (w.setCells g (m * 2) (Builtin.zeroCells #[Value.int .i64 0, Value.int .i64 0] n).toList) := by
  obtain ⟨k, rfl⟩ : ∃ k, n = k + 1 := ⟨n - 1, by omega⟩
  have hst := run_storeCells_cells (P := Try.prog) g (m * 2) (Builtin.zeroCells #[Value.int .i64 0, Value.int .i64 0] (k + 1)).toList 0 w
    (fun j hj => h.is (by rw [zeroPt_len] at hj; omega)) (fun j hj => h.frozen _) (zeroPt (k + 1))
  simp only [Nat.add_zero] at hst
  obtain ⟨i0, hi, hz0, hz1, hz2⟩ := info_parts infoPt
  unfold Builtin.clear_
  simp [go_sem, Try.underlying33]
  rw [hst]; rfl

/-- What the second loop has done: k2 points of the rest are read, kk are kept. -/
def CmpInv (l : List Pt2) (f : Nat → Pt2) (j kk : Nat) : Prop :=
  kk = (cmpL (l.take j)).length ∧ kk < j ∧ (∀ i, i < kk → f i = pAt (cmpL (l.take j)) i) ∧ ∀ i, j ≤ i + 1 → f i = pAt l i
theorem CmpInv.same {l : List Pt2} {f : Nat → Pt2} {j kk : Nat} (h : CmpInv l f j kk) (hj : j < l.length) (h1 : 1 ≤ j) (e : pAt l j = pAt l (j - 1)) : CmpInv l f (j + 1) kk := by
  obtain ⟨a, b, c, d⟩ := h
  obtain ⟨j, rfl⟩ : ∃ i, j = i + 1 := ⟨j - 1, by omega⟩
  have := cmpL_same hj e
  exact ⟨by rw [this]; exact a, by omega, by rw [this]; exact c, fun i hi => d i (by omega)⟩
theorem CmpInv.new {l : List Pt2} {f : Nat → Pt2} {j kk : Nat} (h : CmpInv l f j kk) (hj : j < l.length) (h1 : 1 ≤ j) (e : ¬ pAt l j = pAt l (j - 1)) : CmpInv l (fun i => if i = kk then pAt l j else f i) (j + 1) (kk + 1) := by
  obtain ⟨a, b, c, d⟩ := h
  obtain ⟨j, rfl⟩ : ∃ i, j = i + 1 := ⟨j - 1, by omega⟩
  have := cmpL_new hj e
  refine ⟨by rw [this, List.length_append, ← a]; rfl, by omega, fun i hi => ?_, fun i hi => ?_⟩
  · rw [this]
    dsimp only
    by_cases g : i = kk
    · rw [if_pos g, g, a, pAt_app_at]
    · rw [if_neg g, c i (by omega), pAt_app_lt (by omega)]
  · dsimp only; rw [if_neg (by omega)]; exact d i (by omega)
theorem CmpInv.start {l : List Pt2} {k : Nat} (hk : k + 1 < l.length) (hall : ∀ i, 1 ≤ i → i < k + 1 → pAt l i ≠ pAt l (i - 1)) (e : pAt l (k + 1) = pAt l k) : CmpInv l (pAt l) (k + 1 + 1) (k + 1) := by
  have key : ∀ j, j < k + 1 → cmpL (l.take (j + 1)) = l.take (j + 1) := by
    intro j
    induction j with
    | zero => intro _; rw [cmpL_take (by omega)]; simp [cmpL, snocC, pAt, List.take_one, List.getD]; cases l <;> simp_all
    | succ j ih =>
      intro hj
      rw [cmpL_new (by omega) (by have := hall (j + 1) (by omega) hj; simpa using this), ih (by omega), List.take_succ_eq_append_getElem (show j + 1 < l.length by omega)]
      simp [pAt, List.getD, show j + 1 < l.length by omega]
  have h2 := cmpL_same hk e
  rw [key k (by omega)] at h2
  refine ⟨by rw [h2]; simp; omega, by omega, fun i hi => ?_, fun i hi => rfl⟩
  rw [h2, pAt_take hi]
theorem cmpL_id {l : List Pt2} (hall : ∀ i, 1 ≤ i → i < l.length → pAt l i ≠ pAt l (i - 1)) : cmpL l = l := by
  rcases hl : l.length with _ | n
  · rw [List.length_eq_zero_iff.1 hl]; rfl
  · have key : ∀ j, j < l.length → cmpL (l.take (j + 1)) = l.take (j + 1) := by
      intro j
      induction j with
      | zero => intro _; rw [cmpL_take (by omega)]; simp [cmpL, snocC, pAt, List.take_one, List.getD]; cases l <;> simp_all
      | succ j ih =>
        intro hj
        rw [cmpL_new (by omega) (by have := hall (j + 1) (by omega) hj; simpa using this), ih (by omega), List.take_succ_eq_append_getElem (show j + 1 < l.length by omega)]
        simp [pAt, List.getD, show j + 1 < l.length by omega]
    have := key n (by omega)
    rwa [List.take_of_length_le (by omega)] at this

set_option maxRecDepth 100000 in
set_option maxHeartbeats 4000000 in
theorem Compact_any (g c N : Nat) (l : List Pt2) (w : World) (hl : l.length ≤ 1000000000000) (hc : l.length ≤ c) (hr : RowP w g l.length N (pAt l)) :
    Calls Try.prog 55 #[.slice (some ⟨g, 0, none⟩) l.length c] w fun e w' => e = .returned (.slice (some ⟨g, 0, none⟩) (cmpL l).length c) ∧ RowP w' g (cmpL l).length N (pAt (cmpL l)) ∧ Only g w w' := by
  have HR := Lib.hid hr
  clear hr
  by_cases h2 : l.length < 2
  · have HC : Hid (cmpL l = l) := by
      show _ = _
      exact cmpL_id fun i h1 h2 => by omega
    have hz : decide ((l.length : Int) < 2) = true := by rw [decide_eq_true_eq]; omega
    go_enter Try.func55, Try.ntmps55
    go_wp2
    go_ret
    rw [HC.out]
    exact ⟨rfl, HR.out, (Since.rfl_ w).only g⟩
  · have hz : decide ((l.length : Int) < 2) = false := by rw [decide_eq_false_iff_not]; omega
    go_enter Try.func55, Try.ntmps55
    go_wp2_with fail
    go_loopw [3] (fun v wr => ∃ k : Nat, 1 ≤ k ∧ k ≤ l.length ∧ v = .int .i64 k ∧ Hid (∀ i, 1 ≤ i → i < k → pAt l i ≠ pAt l (i - 1)) ∧ Hid (Since w wr)) (fun v _ => l.length - (intOf v).toNat)
    case atStart => exact ⟨1, by omega, by omega, rfl, fun i h1 h2 => by omega, Since.rfl_ w⟩
    case round =>
      obtain ⟨k, hk1, hk, rfl, HA, HS⟩ := hrel
      rcases Nat.lt_or_ge k l.length with hlt | hge
      · obtain ⟨m, hkm⟩ : ∃ m, k = m + 1 := ⟨k - 1, by omega⟩
        have HK := Lib.hid hkm
        have HRr := Lib.hid (HR.out.since HS.out)
        have iw : IntKind.i64.wrap ((k : Int) - 1) = (m : Int) := by
          rw [i64wc, show (k : Int) - 1 = m by omega]
          exact wrap_id (by omega)
        have i1 : (0 : Int) ≤ (m : Int) := Int.natCast_nonneg m
        have i2 : (m : Int) < (l.length : Int) := by omega
        have i3 : (k : Int) < (l.length : Int) := by omega
        have i4 : (0 : Int) ≤ (k : Int) := by omega
        have i5 : m < l.length := by omega
        obtain ⟨c0, c1⟩ := HRr.out.cells hlt
        obtain ⟨d0, d1⟩ := HRr.out.cells i5
        clear hkm
        go_upto_region 6 with fail
        refine region_cls (fun w' => w'.cell? ⟨g, k * 2, none⟩ = some (.int .i64 (pAt l k).1) ∧ w'.cell? ⟨g, k * 2 + 1, none⟩ = some (.int .i64 (pAt l k).2) ∧ w'.cell? ⟨g, m * 2, none⟩ = some (.int .i64 (pAt l m).1) ∧ w'.cell? ⟨g, m * 2 + 1, none⟩ = some (.int .i64 (pAt l m).2) ∧ Since wr w') (by kernel_rfl) (by kernel_rfl) (by (repeat' refine And.intro ?_ ?_) <;> first | (simp (maxDischargeDepth := 9) [c0, c1, d0, d1,  cSetS, cSetO, cellNew, World.cell?_alloc_some, cellDrew]; done) | (repeat (first | with_reducible assumption | with_reducible exact Since.rfl_ _ | refine Since.setCell ?_ (by (try dsimp only); omega) _ | refine Since.alloc ?_ _ | refine Since.drew ?_))) ?_
        repeat (go_big_quiet_step ((first | (intro hC; have hC := hC.out; (try simp only [hC, Result.andThen]); first | exact ⟨True.intro, rfl⟩ | exact ⟨rfl, rfl⟩ | rfl))))
        refine cls_end ?_
        clear c0 c1 d0 d1
        rintro w1 ⟨-, -, -, -, hs⟩
        have HS1 := Lib.hid (HS.out.trans hs)
        have HR1 := Lib.hid (HRr.out.since hs)
        clear hs HRr HS
        by_cases hb : pAt l k = pAt l m
        · have hx : ((pAt l k).1 == (pAt l m).1 && (pAt l k).2 == (pAt l m).2) = true := by rw [hb]; simp
          have HI : Hid (CmpInv l (pAt l) (k + 1) k) := by
            show CmpInv _ _ _ _
            have h1 := HK.out
            subst h1
            exact CmpInv.start hlt HA.out hb
          have HX : Hid (¬ (((pAt l k).fst == (pAt l m).fst) = false ∨ ((pAt l k).snd == (pAt l m).snd) = false)) := by show ¬ _; rw [hb]; simp
          clear hb HA hx
          have kc : k < c := by omega
          have e1 : (k : Int) ≤ (c : Int) := by omega
          have e2 : ¬ c = k := by omega
          go_wp2_with fail
          all_goals (first | (refine absurd ?_ HX.out; assumption; done) | skip)
          clear i1 i2 i3 i4 i5 iw
          have h1w := HR1.out.lt
          go_loopw [3, 5] (fun v3 v5 wr => ∃ (kk k2 : Nat) (f : Nat → Pt2), v3 = .int .i64 kk ∧ v5 = .int .i64 k2 ∧ 1 ≤ k2 ∧ k + k2 ≤ l.length ∧ Hid (CmpInv l f (k + k2) kk) ∧ Hid (RowP wr g l.length N f) ∧ Hid (Only g w wr)) (fun _ v _ => l.length - k - (intOf v).toNat)
          case atStart => exact ⟨k, 1, pAt l, by go_num, by go_num, by omega, by omega, HI, HR1, HS1.out.only g⟩
          case round =>
            clear HR1 HS1 HI
            obtain ⟨kk, k2, f, rfl, rfl, g1, g2, HI, HR2, HO⟩ := hrel
            have hkk := HI.out.2.1
            rcases Nat.lt_or_ge (k + k2) l.length with hlt2 | hge2
            · obtain ⟨m2, hkm2⟩ : ∃ m2, k2 = m2 + 1 := ⟨k2 - 1, by omega⟩
              have HK2 := Lib.hid hkm2
              have jw : IntKind.i64.wrap ((k2 : Int) - 1) = (m2 : Int) := by
                rw [i64wc, show (k2 : Int) - 1 = m2 by omega]
                exact wrap_id (by omega)
              have j1 : (0 : Int) ≤ (m2 : Int) := Int.natCast_nonneg m2
              have j2 : (m2 : Int) < ((l.length - k : Nat) : Int) := by omega
              have j3 : (k2 : Int) < ((l.length - k : Nat) : Int) := by omega
              have j4 : (0 : Int) ≤ (k2 : Int) := by omega
              have j5 : m2 < l.length - k := by omega
              have j6 : k2 < l.length - k := by omega
              have j7 : (kk : Int) < (l.length : Int) := by omega
              have j8 : (0 : Int) ≤ (kk : Int) := by omega
              have j9 : kk < l.length := by omega
              obtain ⟨c0, c1⟩ := HR2.out.cells hlt2
              obtain ⟨d0, d1⟩ := HR2.out.cells (i := k + m2) (by omega)
              rw [HI.out.2.2.2 _ (by omega), Nat.add_mul] at c0 c1 d0 d1
              clear hkm2
              have j10 : decide (k2 < l.length - k) = true := by rw [decide_eq_true_eq]; omega
              by_cases hb : pAt l (k + k2) = pAt l (k + m2)
              · have HI2 : Hid (CmpInv l f (k + k2 + 1) kk) := HI.out.same hlt2 (by omega) (by rw [hb, show k + k2 - 1 = k + m2 by have := HK2.out; omega])
                have hx : ((pAt l (k + k2)).1 == (pAt l (k + m2)).1) = true := by rw [hb]; simp
                have hy : ((pAt l (k + k2)).2 == (pAt l (k + m2)).2) = true := by rw [hb]; simp
                clear hb HI
                go_upto_region 11 with fail
                refine region_cls (fun w' => w'.cell? ⟨g, k * 2 + k2 * 2, none⟩ = some (.int .i64 (pAt l (k + k2)).1) ∧ w'.cell? ⟨g, k * 2 + k2 * 2 + 1, none⟩ = some (.int .i64 (pAt l (k + k2)).2) ∧ w'.cell? ⟨g, k * 2 + m2 * 2, none⟩ = some (.int .i64 (pAt l (k + m2)).1) ∧ w'.cell? ⟨g, k * 2 + m2 * 2 + 1, none⟩ = some (.int .i64 (pAt l (k + m2)).2) ∧ Since wr w') (by kernel_rfl) (by kernel_rfl) (by (repeat' refine And.intro ?_ ?_) <;> first | (simp (maxDischargeDepth := 9) [c0, c1, d0, d1,  cSetS, cSetO, cellNew, World.cell?_alloc_some, cellDrew]; done) | (repeat (first | with_reducible assumption | with_reducible exact Since.rfl_ _ | refine Since.setCell ?_ (by (try dsimp only); omega) _ | refine Since.alloc ?_ _ | refine Since.drew ?_))) ?_
                repeat (go_big_quiet_step ((first | (intro hC; have hC := hC.out; (try simp only [hC, Result.andThen]); first | exact ⟨True.intro, rfl⟩ | exact ⟨rfl, rfl⟩ | rfl))))
                refine cls_end ?_
                clear d0 d1 c0 c1
                rintro w2 ⟨c0, c1, -, -, hs⟩
                have HO2 := Lib.hid (HO.out.trans (hs.only g))
                have HR3 := Lib.hid (HR2.out.since hs)
                clear hs HR2 HO hx
                go_wp2_with fail
                go_roundw
                case rel => exact ⟨kk, k2 + 1, f, rfl, by go_num, by omega, by omega, HI2, HR3, HO2⟩
                case measure => simp [intOf]; omega
              · have HI2 : Hid (CmpInv l (fun i => if i = kk then pAt l (k + k2) else f i) (k + k2 + 1) (kk + 1)) := HI.out.new hlt2 (by omega) (by rw [show k + k2 - 1 = k + m2 by have := HK2.out; omega]; exact hb)
                have HB := Lib.hid hb
                clear hb HI
                cases hx : ((pAt l (k + k2)).1 == (pAt l (k + m2)).1)
                · go_upto_region 11 with fail
                  refine region_cls (fun w' => w'.cell? ⟨g, k * 2 + k2 * 2, none⟩ = some (.int .i64 (pAt l (k + k2)).1) ∧ w'.cell? ⟨g, k * 2 + k2 * 2 + 1, none⟩ = some (.int .i64 (pAt l (k + k2)).2) ∧ w'.cell? ⟨g, k * 2 + m2 * 2, none⟩ = some (.int .i64 (pAt l (k + m2)).1) ∧ w'.cell? ⟨g, k * 2 + m2 * 2 + 1, none⟩ = some (.int .i64 (pAt l (k + m2)).2) ∧ Since wr w') (by kernel_rfl) (by kernel_rfl) (by (repeat' refine And.intro ?_ ?_) <;> first | (simp (maxDischargeDepth := 9) [c0, c1, d0, d1,  cSetS, cSetO, cellNew, World.cell?_alloc_some, cellDrew]; done) | (repeat (first | with_reducible assumption | with_reducible exact Since.rfl_ _ | refine Since.setCell ?_ (by (try dsimp only); omega) _ | refine Since.alloc ?_ _ | refine Since.drew ?_))) ?_
                  repeat (go_big_quiet_step ((first | (intro hC; have hC := hC.out; (try simp only [hC, Result.andThen]); first | exact ⟨True.intro, rfl⟩ | exact ⟨rfl, rfl⟩ | rfl))))
                  refine cls_end ?_
                  clear d0 d1 c0 c1
                  rintro w2 ⟨c0, c1, -, -, hs⟩
                  have HO2 := Lib.hid (HO.out.trans (hs.only g))
                  have HR3 := Lib.hid (HR2.out.since hs)
                  clear hs HR2 HO hx
                  have HR4 := Lib.hid (HR3.out.set j9 (pAt l (k + k2)))
                  have HO4 := Lib.hid ((HO2.out.setCell (p := ⟨g, kk * 2, none⟩) (.inl rfl) (.int .i64 (pAt l (k + k2)).1)).setCell (p := ⟨g, kk * 2 + 1, none⟩) (.inl rfl) (.int .i64 (pAt l (k + k2)).2))
                  obtain ⟨q0, q1⟩ := HR3.out.cells j9
                  have f0 := HR3.out.frozen (kk * 2)
                  have f1 := HR3.out.frozen (kk * 2 + 1)
                  go_wp2_with fail
                  go_roundw
                  case rel => exact ⟨kk + 1, k2 + 1, _, by go_num, by go_num, by omega, by omega, HI2, HR4, HO4⟩
                  case measure => simp [intOf]; omega
                · cases hy : ((pAt l (k + k2)).2 == (pAt l (k + m2)).2)
                  · go_upto_region 11 with fail
                    refine region_cls (fun w' => w'.cell? ⟨g, k * 2 + k2 * 2, none⟩ = some (.int .i64 (pAt l (k + k2)).1) ∧ w'.cell? ⟨g, k * 2 + k2 * 2 + 1, none⟩ = some (.int .i64 (pAt l (k + k2)).2) ∧ w'.cell? ⟨g, k * 2 + m2 * 2, none⟩ = some (.int .i64 (pAt l (k + m2)).1) ∧ w'.cell? ⟨g, k * 2 + m2 * 2 + 1, none⟩ = some (.int .i64 (pAt l (k + m2)).2) ∧ Since wr w') (by kernel_rfl) (by kernel_rfl) (by (repeat' refine And.intro ?_ ?_) <;> first | (simp (maxDischargeDepth := 9) [c0, c1, d0, d1,  cSetS, cSetO, cellNew, World.cell?_alloc_some, cellDrew]; done) | (repeat (first | with_reducible assumption | with_reducible exact Since.rfl_ _ | refine Since.setCell ?_ (by (try dsimp only); omega) _ | refine Since.alloc ?_ _ | refine Since.drew ?_))) ?_
                    repeat (go_big_quiet_step ((first | (intro hC; have hC := hC.out; (try simp only [hC, Result.andThen]); first | exact ⟨True.intro, rfl⟩ | exact ⟨rfl, rfl⟩ | rfl))))
                    refine cls_end ?_
                    clear d0 d1 c0 c1
                    rintro w2 ⟨c0, c1, -, -, hs⟩
                    have HO2 := Lib.hid (HO.out.trans (hs.only g))
                    have HR3 := Lib.hid (HR2.out.since hs)
                    clear hs HR2 HO hx
                    have HR4 := Lib.hid (HR3.out.set j9 (pAt l (k + k2)))
                    have HO4 := Lib.hid ((HO2.out.setCell (p := ⟨g, kk * 2, none⟩) (.inl rfl) (.int .i64 (pAt l (k + k2)).1)).setCell (p := ⟨g, kk * 2 + 1, none⟩) (.inl rfl) (.int .i64 (pAt l (k + k2)).2))
                    obtain ⟨q0, q1⟩ := HR3.out.cells j9
                    have f0 := HR3.out.frozen (kk * 2)
                    have f1 := HR3.out.frozen (kk * 2 + 1)
                    go_wp2_with fail
                    go_roundw
                    case rel => exact ⟨kk + 1, k2 + 1, _, by go_num, by go_num, by omega, by omega, HI2, HR4, HO4⟩
                    case measure => simp [intOf]; omega
                  · exact absurd (Prod.ext (beq_iff_eq.1 hx) (beq_iff_eq.1 hy)) HB.out
            · obtain ⟨ke, hke⟩ : ∃ ke, Hid (ke = l.length - k) := ⟨_, rfl⟩
              have h3 : k + k2 = l.length := by omega
              have HI3 := HI.out
              rw [h3, CmpInv, List.take_length] at HI3
              obtain ⟨a1, a2, a3, a4⟩ := HI3
              have HN := Lib.hid a1
              have HRm := Lib.hid (HR2.out.sub (m := kk) (f' := pAt (cmpL l)) (by omega) (fun i hi => (a3 i hi).symm))
              have hN : 2 * l.length ≤ N := by obtain ⟨cs, -, -, h, -⟩ := HR2.out; exact h
              have hcl := fun ty => clear_pt wr g kk (l.length - kk) (c - kk) N _ ty HRm.out (by omega) (by omega)
              have HRe := Lib.hid (RowP.highs (Builtin.zeroCells #[Value.int .i64 0, Value.int .i64 0] (l.length - kk)).toList (kk * 2) wr HRm.out (by omega))
              have HOe := Lib.hid (only_cells (Builtin.zeroCells #[Value.int .i64 0, Value.int .i64 0] (l.length - kk)).toList (kk * 2) wr HO.out)
              generalize (Builtin.zeroCells #[Value.int .i64 0, Value.int .i64 0] (l.length - kk)).toList = zs at *
              clear a1 a3 a4 HI HR2 HO HRm
              have b1 : (kk : Int) ≤ (l.length : Int) := by omega
              have b2 : (kk : Int) ≤ (c : Int) := by omega
              have b3 : ¬ c = kk := by omega
              have b4 : (0 : Int) ≤ (kk : Int) := by omega
              have b5 : kk < c := by omega
              have b6 : decide (k2 < l.length - k) = false := by rw [decide_eq_false_iff_not]; omega
              go_wp2
              go_ret
              rw [← HN.out]
              exact ⟨rfl, HRe.out, HOe.out⟩
        · have HB : Hid (∀ i, 1 ≤ i → i < k + 1 → pAt l i ≠ pAt l (i - 1)) := fun i h1 h2 => by
            rcases Nat.lt_succ_iff_lt_or_eq.1 h2 with h | h
            · exact HA.out i h1 h
            · rw [h, show k - 1 = m by have := HK.out; omega]; exact hb
          have HX : Hid (¬ (((pAt l k).fst == (pAt l m).fst) = true ∧ ((pAt l k).snd == (pAt l m).snd) = true)) := fun h => hb (Prod.ext (beq_iff_eq.1 h.1) (beq_iff_eq.1 h.2))
          clear hb HA
          go_wp2_with fail
          all_goals (first | (refine absurd ?_ HX.out; assumption; done) | skip)

          go_roundw
          case rel => exact ⟨k + 1, by omega, by omega, by go_num, HB, HS1⟩
          case measure => simp [intOf]; omega
      · have HC : Hid (cmpL l = l) := by
          show _ = _
          exact cmpL_id fun i h1 h2 => HA.out i h1 (by omega)
        have hz3 : decide ((k : Int) < (l.length : Int)) = false := by rw [decide_eq_false_iff_not]; omega
        clear HA
        go_wp2
        go_ret
        rw [HC.out]
        exact ⟨rfl, HR.out.since HS.out, HS.out.only g⟩
end Go.Proofs.Ytdbknodifpmmoaa
end
section
namespace Go.Proofs.Ytdbknodifpmmoaa
set_option linter.unusedSimpArgs false
set_option linter.unusedVariables false
open Go.RowKit Go.BigFrame
attribute [local go_sem ↓] eqPt neqPt

theorem LisS.nil (w : World) : LisS w (.slice none 0 0) [] := ⟨none, 0, rfl, fun i hi => absurd hi (Nat.not_lt_zero _)⟩
theorem lineB_len {l : List Pt2} (h : lineB l = true) : 2 ≤ l.length ∧ l.length ≤ 200 := by
  unfold lineB at h
  simp only [Bool.and_eq_true, decide_eq_true_eq] at h
  exact ⟨h.1.2, h.2⟩
theorem LSt.lis {w0 w : World} {g5 g6 BO : Nat} {outs : List (List Pt2)} {now : List Pt2} (h : LSt w0 w g5 g6 BO outs now) : ∃ v, w.cell? ⟨g5, 0, none⟩ = some v ∧ LisS w v outs := by
  obtain ⟨vout, vnow, us, B, h5, h6, hne, l5, l6, m5, m6, hB, hs, ho, hr, hn, hS, hE⟩ := h
  refine ⟨vout, h5.cell 0, ?_⟩
  have hul : us.length = outs.length := by have := ho.1; omega
  obtain ⟨-, ⟨rfl, hn⟩ | ⟨g, cap, cur, rfl, hb, hg, hc, hm, hcs, ht⟩⟩ := ho
  · exact ⟨none, 0, by rw [hn], fun i hi => by omega⟩
  · refine ⟨some ⟨g, 0, none⟩, cap, rfl, fun i hi => ⟨g, 0, rfl, ?_⟩⟩
    obtain ⟨u, hu, hp⟩ := hr i hi
    refine ⟨u, ?_, hp.pts⟩
    rw [Nat.zero_add, Blk.cell hg]
    rw [← ht, List.getElem?_take, if_pos (by omega)] at hu
    simpa using hu

theorem LSt.s {w0 w : World} {g5 g6 BO : Nat} {outs : List (List Pt2)} {now : List Pt2} (h : LSt w0 w g5 g6 BO outs now) : Since w0 w := by
  obtain ⟨vout, vnow, us, B, h5, h6, hne, l5, l6, m5, m6, hB, hs, ho, hr, hn, hS, hE⟩ := h
  exact hS
theorem endO_len (outs : List (List Pt2)) (now : List Pt2) : (endO outs now).length ≤ outs.length + 1 := by
  unfold endO
  split
  · simp
  · omega
theorem lineS_len (outs : List (List Pt2)) (now : List Pt2) (f : CutT) : (lineS outs now f).1.length ≤ outs.length + 1 ∧ (lineS outs now f).2.length ≤ now.length := by
  have := endO_len outs now
  unfold lineS
  split
  · exact ⟨by simp, by simp⟩
  · exact ⟨this, by simp⟩
theorem addP_len (l : List Pt2) (p : Pt2) : 1 ≤ (addP l p).length ∧ (addP l p).length ≤ l.length + 1 := by
  unfold addP
  split
  · simp
  · omega
theorem addQ_len (l : List Pt2) (p : Pt2) : (addQ l p).length ≤ l.length + 1 := by
  unfold addQ
  split <;> simp
theorem own_last {w : World} {b : Nat} {v : Value} {l : List Pt2} {k : Nat} (h : w.ownsRow b 26 2 v l.length (l.flatMap ptV)) (hk : l.length = k + 1) :
    ∃ g c, v = .slice (some ⟨g, 0, none⟩) (k + 1) c ∧ w.cell? ⟨g, k * 2, none⟩ = some (.int .i64 (lastP l).1) ∧ w.cell? ⟨g, k * 2 + 1, none⟩ = some (.int .i64 (lastP l).2) := by
  have h0 := h
  obtain ⟨-, ⟨rfl, hn⟩ | ⟨g, cap, cur, rfl, -⟩⟩ := h
  · omega
  · have hlt : k < l.length := by omega
    have hp : lastP l = l[k] := by unfold lastP pAt; rw [hk, Nat.add_sub_cancel]; simp [List.getD, hlt]
    refine ⟨g, cap, by rw [hk], ?_, ?_⟩
    · have := row_at h0 ptV_len k hlt 0 (.int .i64 l[k].1) rfl
      rw [hp]; simpa using this
    · rw [hp]; exact row_at h0 ptV_len k hlt 1 (.int .i64 l[k].2) rfl
end Go.Proofs.Ytdbknodifpmmoaa
end
section
namespace Go.Proofs.Ytdbknodifpmmoaa
set_option linter.unusedSimpArgs false
set_option linter.unusedVariables false
open Go.RowKit Go.BigFrame

/-- A point behind the last of the lists. -/
def addL (outs : List (List Pt2)) (q : Pt2) : List (List Pt2) := outs.dropLast ++ [rAt outs (outs.length - 1) ++ [q]]
/-- One segment of the reference's line. -/
def refStep (outs : List (List Pt2)) (op : Bool) : SegT → List (List Pt2) × Bool
  | none => (outs, false)
  | some p => (if op = true ∧ p.1.1 = 0 then addL outs (cutP p.2) else addL (outs ++ [[cutP p.1]]) (cutP p.2), p.2.1 == p.2.2.1)
def refRun (seg : Nat → SegT) : Nat → Nat → List (List Pt2) → Bool → List (List Pt2) × Bool
  | 0, _, o, b => (o, b)
  | k + 1, i, o, b => refRun seg k (i + 1) (refStep o b (seg i)).1 (refStep o b (seg i)).2
def longB (l : List Pt2) : Bool := decide (1 < l.length)
/-- What is left of the lists: without repeated points, and of more than one point. -/
def restL (outs : List (List Pt2)) : List (List Pt2) := (outs.map cmpL).filter longB
theorem restL_snoc (outs : List (List Pt2)) (l : List Pt2) : restL (outs ++ [l]) = endO (restL outs) (cmpL l) := by
  unfold restL endO longB
  rw [List.map_append, List.filter_append]
  simp only [List.map_cons, List.map_nil, List.filter_cons, List.filter_nil, decide_eq_true_eq]
  split
  · rfl
  · exact List.append_nil _
theorem addL_snoc (outs : List (List Pt2)) (l : List Pt2) (q : Pt2) : addL (outs ++ [l]) q = outs ++ [l ++ [q]] := by
  unfold addL rAt
  simp [List.getD]
/-- How the text's state belongs to the reference's. -/
def sameSt (outs : List (List Pt2)) (now : List Pt2) (routs : List (List Pt2)) (op : Bool) : Prop :=
  (op = true → ∃ o l, routs = o ++ [l] ∧ restL o = outs ∧ cmpL l = now ∧ 1 ≤ now.length) ∧ (op = false → restL routs = outs ∧ now = [])
theorem sameSt.flush {outs : List (List Pt2)} {now : List Pt2} {routs : List (List Pt2)} {op : Bool} (h : sameSt outs now routs op) : endO outs now = restL routs := by
  cases op with
  | true =>
    obtain ⟨o, l, rfl, rfl, rfl, -⟩ := h.1 rfl
    exact (restL_snoc o l).symm
  | false =>
    obtain ⟨rfl, rfl⟩ := h.2 rfl
    rfl
theorem addQ_eq {l : List Pt2} (h : 1 ≤ l.length) (q : Pt2) : addQ l q = snocC l q := by
  unfold addQ snocC; rw [if_neg (show ¬ l.length = 0 by omega)]
theorem sameSt.step {outs : List (List Pt2)} {now : List Pt2} {routs : List (List Pt2)} {op : Bool} (h : sameSt outs now routs op) (s : SegT) :
    sameSt (lineStep outs now s).1 (lineStep outs now s).2 (refStep routs op s).1 (refStep routs op s).2 := by
  cases s with
  | none =>
    exact ⟨fun h => (by cases h), fun _ => ⟨h.flush.symm, rfl⟩⟩
  | some p =>
    -- the list at hand behind the segment
    have key : ∃ o l, (refStep routs op (some p)).1 = o ++ [l] ∧ restL o = (lineS outs now p.1).1 ∧ cmpL l = addQ (addP (lineS outs now p.1).2 (cutP p.1)) (cutP p.2) ∧ 1 ≤ (cmpL l).length := by
      by_cases hc : op = true ∧ p.1.1 = 0
      · obtain ⟨o, l, rfl, rfl, rfl, hn⟩ := h.1 hc.1
        refine ⟨o, l ++ [cutP p.2], ?_, ?_, ?_, ?_⟩
        · unfold refStep; dsimp only; rw [if_pos hc, addL_snoc]
        · unfold lineS; rw [if_pos hc.2]
        · unfold lineS; rw [if_pos hc.2, cmpL_snoc]; dsimp only; unfold addP; rw [if_neg (show ¬ (cmpL l).length = 0 by omega), addQ_eq hn]
        · rw [cmpL_snoc]; exact (snocC_last _ _).2.1
      · have e1 : (lineS outs now p.1).1 = restL routs ∧ (lineS outs now p.1).2 = [] := by
          unfold lineS
          by_cases h0 : p.1.1 = 0
          · have : op = false := by cases op <;> simp_all
            obtain ⟨rfl, rfl⟩ := h.2 this
            rw [if_pos h0]; exact ⟨rfl, rfl⟩
          · rw [if_neg h0]; exact ⟨h.flush, rfl⟩
        refine ⟨routs, [cutP p.1, cutP p.2], ?_, e1.1.symm, ?_, ?_⟩
        · unfold refStep; dsimp only; rw [if_neg hc, addL_snoc]; rfl
        · rw [e1.2, show addP [] (cutP p.1) = [cutP p.1] from rfl, addQ_eq (by simp)]; rfl
        · rw [show [cutP p.1, cutP p.2] = [cutP p.1] ++ [cutP p.2] from rfl, cmpL_snoc]; exact (snocC_last _ _).2.1
    obtain ⟨o, l, k1, k2, k3, k4⟩ := key
    have k5 : (refStep routs op (some p)).2 = (p.2.1 == p.2.2.1) := rfl
    unfold lineStep
    dsimp only
    by_cases he : p.2.1 = p.2.2.1
    · rw [if_pos he]
      exact ⟨fun _ => ⟨o, l, k1, k2, k3, by rw [← k3]; exact k4⟩, fun h => (by rw [k5, beq_iff_eq.2 he] at h; cases h)⟩
    · rw [if_neg he]
      refine ⟨fun h => (by rw [k5, beq_iff_eq] at h; exact absurd h he), fun _ => ⟨?_, rfl⟩⟩
      rw [k1, restL_snoc, k2, k3]
theorem sameSt.run (seg : Nat → SegT) : ∀ (k i : Nat) {outs : List (List Pt2)} {now : List Pt2} {routs : List (List Pt2)} {op : Bool}, sameSt outs now routs op →
    sameSt (lineRun seg k i outs now).1 (lineRun seg k i outs now).2 (refRun seg k i routs op).1 (refRun seg k i routs op).2
  | 0, _, _, _, _, _, h => h
  | k + 1, i, _, _, _, _, h => sameSt.run seg k (i + 1) (h.step (seg i))
/-- The text's line and the reference's, of one run of segments. -/
theorem line_same (seg : Nat → SegT) (k i : Nat) : endO (lineRun seg k i [] []).1 (lineRun seg k i [] []).2 = restL (refRun seg k i [] false).1 :=
  (sameSt.run seg k i (outs := []) (now := []) (routs := []) (op := false) ⟨fun h => (by cases h), fun _ => ⟨rfl, rfl⟩⟩).flush
/-- While it is open there is a list. -/
theorem ref_open {outs : List (List Pt2)} {op : Bool} (s : SegT) : (refStep outs op s).2 = true → (refStep outs op s).1 ≠ [] := by
  cases s with
  | none => intro h; cases h
  | some p => intro _; unfold refStep addL; dsimp only; split <;> simp
theorem addL_bd {outs : List (List Pt2)} {n M : Nat} {q : Pt2} (hn : outs.length = n + 1) (h : ∀ j, j < outs.length → (rAt outs j).length ≤ M) : (addL outs q).length = n + 1 ∧ ∀ j, j < (addL outs q).length → (rAt (addL outs q) j).length ≤ M + 1 := by
  obtain ⟨o, l, rfl⟩ : ∃ o l, outs = o ++ [l] := ⟨outs.dropLast, outs.getLast (by intro e; rw [e] at hn; simp at hn), (List.dropLast_concat_getLast _).symm⟩
  rw [addL_snoc]
  refine ⟨by simpa using hn, fun j hj => ?_⟩
  rcases Nat.lt_or_ge j o.length with g | g
  · have := h j (by simp; omega)
    rw [rAt_snoc_lt g] at this ⊢
    omega
  · obtain rfl : j = o.length := by simp at hj; omega
    have := h o.length (by simp)
    rw [rAt_snoc] at this ⊢
    simp; omega
/-- A row of one's own reads as points. -/
theorem RowP.own {w : World} {b g c : Nat} {l : List Pt2} (h : w.ownsRow b 26 2 (.slice (some ⟨g, 0, none⟩) l.length c) l.length (l.flatMap ptV)) : RowP w g l.length (c * 2) (pAt l) ∧ l.length ≤ c ∧ b ≤ g := by
  obtain ⟨-, ⟨h0, -⟩ | ⟨g', cap, cur, hv, hb, hg, hn, -, hs, ht⟩⟩ := h
  · cases h0
  · injection hv with e1 e2 e3
    injection e1 with e1
    injection e1 with e1 _ _
    subst e1 e3
    refine ⟨⟨cur, hg, hs, by omega, fun i hi => ?_⟩, hn, hb⟩
    have key : ∀ j, j < 2 → cur[2 * i + j]? = (ptV l[i])[j]? := fun j hj => by
      rw [← flat_at (f := ptV) (k := 2) (fun x => rfl) l i j hi hj, ← ht, List.getElem?_take_of_lt (by omega), Array.getElem?_toList, Nat.mul_comm i 2]
    have e : pAt l i = l[i] := by simp [pAt, List.getD, hi]
    rw [e]
    exact ⟨key 0 (by omega), key 1 (by omega)⟩
theorem RowP.app {w w' : World} {g n N : Nat} {f : Nat → Pt2} (h : RowP w g n N f) {base : Nat} {e : TypeId} {size : Nat} {v : Value} {m : Nat} {xs : List Value} (ho : w.ownsRow base e size v m xs) (hne : 26 ≠ e) (hg : w.grownBy w' v.ownBlock) : RowP w' g n N f := by
  obtain ⟨cs, hb, hc⟩ := h
  exact ⟨cs, hb.app ho hne hg, hc⟩
theorem RowP.grown {w w' : World} {g n N : Nat} {f : Nat → Pt2} (h : RowP w g n N f) {row : Option Nat} (hg : w.grownBy w' row) (hne : some g ≠ row) : RowP w' g n N f := by
  obtain ⟨cs, hb, hc⟩ := h
  exact ⟨cs, hb.grown hg hne, hc⟩
theorem RowP.far {w : World} {g n N : Nat} {f : Nat → Pt2} (h : RowP w g n N f) {p : Addr} (hp : g ≠ p.block) (u : Value) : RowP (w.setCell p u) g n N f := by
  obtain ⟨cs, hb, hc⟩ := h
  exact ⟨cs, hb.far hp u, hc⟩
theorem RowP.only {w w' : World} {g n N k : Nat} {f : Nat → Pt2} (h : RowP w g n N f) (ho : Only k w w') (hne : g ≠ k) : RowP w' g n N f := by
  obtain ⟨cs, hb, hc⟩ := h
  exact ⟨cs, ho.blk hb hne, hc⟩
/-- A cell of a row of one's own, given anew. -/
theorem own_set {w : World} {b g c n i : Nat} {e : TypeId} {xs : List Value} (h : w.ownsRow b e 1 (.slice (some ⟨g, 0, none⟩) n c) n xs) (hi : i < n) (u : Value) : (w.setCell ⟨g, i, none⟩ u).ownsRow b e 1 (.slice (some ⟨g, 0, none⟩) n c) n (xs.set i u) := by
  obtain ⟨hl, ⟨h0, -⟩ | ⟨g', cap, cur, hv, hb, hg, hn, hm, hs, ht⟩⟩ := h
  · cases h0
  · refine ⟨by rw [List.length_set]; exact hl, .inr ⟨g', cap, cur.setIfInBounds i u, hv, hb, ?_, hn, hm, by simpa using hs, ?_⟩⟩
    · injection hv with e1 e2 e3
      injection e1 with e1
      injection e1 with e1 _ _
      subst e1
      exact Blk.set_ hg i u
    · rw [Array.toList_setIfInBounds, List.take_set, ht]
theorem own_cell {w : World} {b g c n i : Nat} {e : TypeId} {xs : List Value} (h : w.ownsRow b e 1 (.slice (some ⟨g, 0, none⟩) n c) n xs) {u : Value} (hu : xs[i]? = some u) : w.cell? ⟨g, i, none⟩ = some u ∧ w.frozen? ⟨g, i, none⟩ = false ∧ g < w.heap.size ∧ b ≤ g := by
  obtain ⟨hl, ⟨h0, -⟩ | ⟨g', cap, cur, hv, hb, hg, hn, hm, hs, ht⟩⟩ := h
  · cases h0
  · injection hv with e1 e2 e3
    injection e1 with e1
    injection e1 with e1 _ _
    subst e1
    have hlt : i < n * 1 := by
      have := (List.getElem?_eq_some_iff.1 hu).1
      omega
    refine ⟨?_, Blk.frozen hg i, Blk.lt hg, hb⟩
    rw [Blk.cell hg i, ← Array.getElem?_toList, ← hu, ← ht, List.getElem?_take_of_lt hlt]

/-- The rows of points at the blocks G 0 < G 1 < .. -/
def RowsP (w : World) (BO : Nat) (outs : List (List Pt2)) (us : List Value) (G C N : Nat → Nat) : Prop :=
  (∀ i, i < outs.length → us[i]? = some (.slice (some ⟨G i, 0, none⟩) (rAt outs i).length (C i)) ∧ RowP w (G i) (rAt outs i).length (N i) (pAt (rAt outs i)) ∧ (rAt outs i).length ≤ C i ∧ BO ≤ G i) ∧
  (∀ i j, i < j → j < outs.length → G i < G j)
/-- What is known while the rows grow; the last one is one's own. -/
def RStV (w0 w : World) (BO : Nat) (outs : List (List Pt2)) (vout : Value) (us : List Value) (G C N : Nat → Nat) (B : Nat) : Prop :=
  Since w0 w ∧ w0.heap.size ≤ BO ∧ BO ≤ B ∧ B ≤ w.heap.size ∧ w.ownsRow BO 33 1 vout outs.length us ∧ RowsP w BO outs us G C N ∧
  (∀ n, outs.length = n + 1 → (∀ i, i < n → G i < B) ∧ w.ownsRow B 26 2 (.slice (some ⟨G n, 0, none⟩) (rAt outs n).length (C n)) (rAt outs n).length ((rAt outs n).flatMap ptV))
def RSt (w0 w : World) (BO : Nat) (outs : List (List Pt2)) (vout : Value) : Prop := ∃ us G C N B, RStV w0 w BO outs vout us G C N B
theorem RStV.since {w0 w w' : World} {BO : Nat} {outs : List (List Pt2)} {vout : Value} {us : List Value} {G C N : Nat → Nat} {B : Nat} (h : RStV w0 w BO outs vout us G C N B) (k : Since w w') : RStV w0 w' BO outs vout us G C N B := by
  obtain ⟨h1, h2, h3, h4, h5, ⟨h6, h7⟩, h8⟩ := h
  refine ⟨h1.trans k, h2, h3, Nat.le_trans h4 k.size, own_since k h5, ⟨fun i hi => ?_, h7⟩, fun n hn => ?_⟩
  · obtain ⟨a, b, c⟩ := h6 i hi
    exact ⟨a, b.since k, c⟩
  · obtain ⟨a, b⟩ := h8 n hn
    exact ⟨a, own_since k b⟩
theorem RSt.since {w0 w w' : World} {BO : Nat} {outs : List (List Pt2)} {vout : Value} (h : RSt w0 w BO outs vout) (k : Since w w') : RSt w0 w' BO outs vout := by
  obtain ⟨us, G, C, N, B, h⟩ := h
  exact ⟨us, G, C, N, B, h.since k⟩
section
variable {w0 w w' wA w3 : World} {BO : Nat} {outs : List (List Pt2)} {vout v' : Value} {us : List Value} {G C N : Nat → Nat} {B : Nat} {p q : Pt2}
/-- Behind a new row of one point. -/
theorem RStV.new (h : RStV w0 w BO outs vout us G C N B) (hA : wA = (w.alloc (.cells #[.int .i64 p.1, .int .i64 p.2] 26)).alloc (.cells #[.slice (some ⟨w.heap.size, 0, none⟩) 1 1] 33))
    (hown : w'.ownsRow BO 33 1 v' (outs.length + 1) (us ++ [.slice (some ⟨w.heap.size, 0, none⟩) 1 1])) (hgrow : wA.grownBy w' vout.ownBlock) : ∃ us' G' C' N' B', RStV w0 w' BO (outs ++ [[p]]) v' us' G' C' N' B' ∧ (∀ i, i < outs.length → G' i = G i) ∧ G' outs.length = w.heap.size := by
  obtain ⟨h1, h2, h3, h4, h5, ⟨h6, h7⟩, h8⟩ := h
  have hSA : Since w wA := by rw [hA]; exact ((Since.rfl_ w).alloc _).alloc _
  have hoA := own_since hSA h5
  have hb : Blk w' w.heap.size 26 #[.int .i64 p.1, .int .i64 p.2] := by
    have : Blk wA w.heap.size 26 #[.int .i64 p.1, .int .i64 p.2] := by rw [hA]; exact (Blk.new w _ _).alloc _
    exact this.app hoA (by decide) hgrow
  have hul : us.length = outs.length := by have := h5.1; omega
  refine ⟨_, fun i => if i < outs.length then G i else w.heap.size, fun i => if i < outs.length then C i else 1, fun i => if i < outs.length then N i else 2, w.heap.size, ⟨?_, h2, by omega, ?_, by simpa using hown, ⟨fun i hi => ?_, fun i j hij hj => ?_⟩, fun n hn => ?_⟩, fun i hi => if_pos hi, if_neg (Nat.lt_irrefl _)⟩
  · exact Below.grown (h1.trans hSA) hgrow (h1.trans hSA).size fun k hk => by
      have := (hoA.lt k hk).1
      omega
  · exact Nat.le_trans hSA.size hgrow.size
  · rcases Nat.lt_or_ge i outs.length with g | g
    · obtain ⟨a, b, c, d⟩ := h6 i g
      simp only [if_pos g, rAt_snoc_lt g]
      exact ⟨by rw [List.getElem?_append_left (by omega)]; exact a, (b.since hSA).app hoA (by decide) hgrow, c, d⟩
    · obtain rfl : i = outs.length := by rw [List.length_append, List.length_singleton] at hi; omega
      simp only [Nat.lt_irrefl, if_false, rAt_snoc]
      refine ⟨by rw [List.getElem?_append_right (by omega), hul, Nat.sub_self]; rfl, ⟨_, hb, rfl, by simp, fun i hi => ?_⟩, Nat.le_refl _, by omega⟩
      obtain rfl : i = 0 := by simp at hi; omega
      exact ⟨rfl, rfl⟩
  · dsimp only
    rw [List.length_append, List.length_singleton] at hj
    rw [if_pos (show i < outs.length by omega)]
    split
    · exact h7 i j hij (by omega)
    · exact (h6 i (by omega)).2.1.lt
  · obtain rfl : n = outs.length := by rw [List.length_append, List.length_singleton] at hn; omega
    refine ⟨fun i hi => ?_, ?_⟩
    · simp only [if_pos hi]; exact (h6 i hi).2.1.lt
    · simp only [Nat.lt_irrefl, if_false, rAt_snoc]
      exact hb.row (Nat.le_refl _) (by simp) (by simp [maxLen]) (by simp) (by simp [ptV])
/-- The rows, none of them in block q. -/
def RSq (w0 w : World) (BO : Nat) (outs : List (List Pt2)) (vout : Value) (q : Nat) : Prop := ∃ us G C N B, RStV w0 w BO outs vout us G C N B ∧ ∀ i, i < outs.length → G i ≠ q
/-- Behind a point more in the last row. -/
theorem RStV.push (h : RStV w0 w BO outs vout us G C N B) {n gO cO : Nat} (hn : outs.length = n + 1) (hv : vout = .slice (some ⟨gO, 0, none⟩) (n + 1) cO) (hSA : Since w wA)
    (hown : w3.ownsRow B 26 2 v' ((rAt outs n).length + 1) ((rAt outs n).flatMap ptV ++ ptV q)) (hgrow : wA.grownBy w3 (some (G n))) : RSt w0 (w3.setCell ⟨gO, n, none⟩ v') BO (addL outs q) vout := by
  obtain ⟨h1, h2, h3, h4, h5, ⟨h6, h7⟩, h8⟩ := h
  obtain ⟨h8, h9⟩ := h8 n hn
  have hoA := own_since hSA h5
  have hnA := own_since hSA h9
  have hul : us.length = outs.length := by have := h5.1; omega
  obtain ⟨o, l, rfl⟩ : ∃ o l, outs = o ++ [l] := ⟨outs.dropLast, outs.getLast (by intro e; rw [e] at hn; simp at hn), (List.dropLast_concat_getLast _).symm⟩
  obtain rfl : n = o.length := by simp at hn; omega
  rw [rAt_snoc] at h9 hnA hown
  rw [addL_snoc]
  have hown' : w3.ownsRow B 26 2 v' (l ++ [q]).length ((l ++ [q]).flatMap ptV) := own_snoc (f := ptV) hown
  obtain ⟨gn, cn, rfl⟩ : ∃ gn cn, v' = .slice (some ⟨gn, 0, none⟩) (l ++ [q]).length cn := by
    obtain ⟨-, ⟨-, h0⟩ | ⟨g, cap, cur, rfl, -⟩⟩ := hown'
    · simp at h0
    · exact ⟨g, cap, rfl⟩
  obtain ⟨r1, r2, r3⟩ := RowP.own hown'
  -- the row of rows is not the last row
  have hbk := (h6 o.length (by omega)).2.1
  have hvo : w3.ownsRow BO 33 1 vout (o ++ [l]).length us := hoA.kept hgrow (.inr fun e => by
    subst hv
    simp only [Value.ownBlock, Option.some.injEq] at e
    obtain ⟨cs, hb, -⟩ := hbk
    rcases hoA.2 with ⟨h0, _⟩ | ⟨g, cap, cur, hv, _, hg, _⟩
    · cases h0
    · injection hv with e1 _ _
      injection e1 with e1
      injection e1 with e1 _ _
      subst e1 e
      exact blk_ne (hSA.blk hb) hg (by decide) rfl)
  subst hv
  have hle : (o ++ [l]).length = o.length + 1 := by simp
  rw [hle] at hvo
  have hgO : gO < w3.heap.size ∧ BO ≤ gO := by
    obtain ⟨a, b, c, d⟩ := own_cell hvo (i := o.length) (u := _) (h6 o.length (by omega)).1
    exact ⟨c, d⟩
  have far : ∀ {g n N f}, RowP w3 g n N f → g ≠ gO := fun h e => by
    obtain ⟨cs, hb, -⟩ := h
    rcases hvo.2 with ⟨h0, _⟩ | ⟨g, cap, cur, hv, _, hg, _⟩
    · cases h0
    · injection hv with e1 _ _
      injection e1 with e1
      injection e1 with e1 _ _
      subst e1 e
      exact blk_ne hb hg (by decide) rfl
  refine ⟨us.set o.length (.slice (some ⟨gn, 0, none⟩) (l ++ [q]).length cn), fun i => if i < o.length then G i else gn, fun i => if i < o.length then C i else cn, fun i => if i < o.length then N i else cn * 2, B, ?_, h2, h3, ?_, ?_, ⟨fun i hi => ?_, fun i j hij hj => ?_⟩, fun n hn => ?_⟩
  · refine Since.setCell ?_ (by dsimp only; omega) _
    exact Below.grown (h1.trans hSA) hgrow (h1.trans hSA).size fun k hk => by
      injection hk with hk
      have := (h6 o.length (by omega)).2.2.2
      omega
  · rw [sizeSet]; exact Nat.le_trans h4 (Nat.le_trans hSA.size hgrow.size)
  · have := own_set hvo (i := o.length) (by omega) (.slice (some ⟨gn, 0, none⟩) (l ++ [q]).length cn)
    simpa using this
  · rcases Nat.lt_or_ge i o.length with g | g
    · obtain ⟨a, b, c, d⟩ := h6 i (by omega)
      rw [rAt_snoc_lt g] at a b c
      simp only [if_pos g, rAt_snoc_lt g]
      have b3 : RowP w3 (G i) (rAt o i).length (N i) (pAt (rAt o i)) := (b.since hSA).grown hgrow (by
        have := h7 i o.length g (by omega)
        intro e; injection e with e; omega)
      exact ⟨by rw [List.getElem?_set_ne (by omega)]; exact a, b3.far (far b3) _, c, d⟩
    · obtain rfl : i = o.length := by rw [List.length_append, List.length_singleton] at hi; omega
      simp only [Nat.lt_irrefl, if_false, rAt_snoc]
      exact ⟨List.getElem?_set_self (by omega), r1.far (far r1) _, r2, by omega⟩
  · dsimp only
    rw [List.length_append, List.length_singleton] at hj
    rw [if_pos (show i < o.length by omega)]
    split
    · exact h7 i j hij (by omega)
    · have := h8 i (by omega); omega
  · obtain rfl : n = o.length := by rw [List.length_append, List.length_singleton] at hn; omega
    refine ⟨fun i hi => ?_, ?_⟩
    · simp only [if_pos hi]; exact h8 i hi
    · simp only [Nat.lt_irrefl, if_false, rAt_snoc]
      exact own_far hown' (fun e => far r1 (by simp only [Value.ownBlock, Option.some.injEq] at e; exact e.symm)) _
/-- The place of the last row in the row of rows. -/
theorem RStV.slot (h : RStV w0 w BO outs vout us G C N B) {n gO cO : Nat} (hn : outs.length = n + 1) (hv : vout = .slice (some ⟨gO, 0, none⟩) (n + 1) cO) :
    w.cell? ⟨gO, n, none⟩ = some (.slice (some ⟨G n, 0, none⟩) (rAt outs n).length (C n)) ∧ w.frozen? ⟨gO, n, none⟩ = false ∧ gO < w.heap.size ∧ BO ≤ gO ∧ gO ≠ G n ∧ BO ≤ G n ∧ G n < w.heap.size ∧ ∃ cs, Blk w gO 33 cs := by
  obtain ⟨h1, h2, h3, h4, h5, ⟨h6, h7⟩, h8⟩ := h
  obtain ⟨a, b, c, d⟩ := h6 n (by omega)
  subst hv
  rw [hn] at h5
  obtain ⟨k1, k2, k3, k4⟩ := own_cell h5 (i := n) a
  have hb : ∃ cs, Blk w gO 33 cs := by
    rcases h5.2 with ⟨h0, _⟩ | ⟨g, cap, cur, hv, _, hg, _⟩
    · cases h0
    · injection hv with e1 _ _
      injection e1 with e1
      injection e1 with e1 _ _
      subst e1
      exact ⟨cur, hg⟩
  refine ⟨k1, k2, k3, k4, ?_, d, b.lt, hb⟩
  obtain ⟨cs2, hb2⟩ := hb
  obtain ⟨cs, hb, -⟩ := b
  exact blk_ne hb2 hb (by decide)
end

/-- The second loop of Clipped: the rows from k on are as they were; what is kept lies in blocks ahead of them. -/
def RS2V (w0 w : World) (outs : List (List Pt2)) (gO : Nat) (cs : Array Value) (G N : Nat → Nat) (k BR : Nat) (rest : List (List Pt2)) (vrest : Value) (rs : List Value) : Prop :=
  Since w0 w ∧ w0.heap.size ≤ BR ∧ BR ≤ w.heap.size ∧ (0 < outs.length → Blk w gO 33 cs ∧ gO < BR) ∧ (∀ i, k ≤ i → i < outs.length → RowP w (G i) (rAt outs i).length (N i) (pAt (rAt outs i))) ∧
  w.ownsRow BR 33 1 vrest rest.length rs ∧
  ∀ j, j < rest.length → ∃ g c M, rs[j]? = some (.slice (some ⟨g, 0, none⟩) (rAt rest j).length c) ∧ RowP w g (rAt rest j).length M (pAt (rAt rest j)) ∧ ∀ i, k ≤ i → i < outs.length → g ≠ G i
def RS2 (w0 w : World) (outs : List (List Pt2)) (gO : Nat) (cs : Array Value) (G N : Nat → Nat) (k BR : Nat) (rest : List (List Pt2)) (vrest : Value) : Prop := ∃ rs, RS2V w0 w outs gO cs G N k BR rest vrest rs
section
variable {w0 w w' wA : World} {outs rest : List (List Pt2)} {gO k BR : Nat} {cs : Array Value} {G N : Nat → Nat} {vrest v' : Value} {rs : List Value} {l : List Pt2}
theorem RS2V.cmp (h : RS2V w0 w outs gO cs G N k BR rest vrest rs) (hk : k < outs.length) (ho : Only (G k) w w') (hG : w0.heap.size ≤ G k) (inc : ∀ i j, i < j → j < outs.length → G i < G j) : RS2V w0 w' outs gO cs G N (k + 1) BR rest vrest rs := by
  obtain ⟨h1, h2, h3, h4, h5, h6, h7⟩ := h
  obtain ⟨h4, h8⟩ := h4 (by omega)
  have hk5 := h5 k (Nat.le_refl _) hk
  obtain ⟨ck, hbk, hck⟩ := hk5
  refine ⟨ho.since h1 hG, h2, Nat.le_trans h3 ho.size, fun _ => ⟨ho.blk h4 (blk_ne h4 hbk (by decide)), h8⟩, fun i hi hi2 => (h5 i (by omega) hi2).only ho ?_, ?_, fun j hj => ?_⟩
  · have := inc k i (by omega) hi2; omega
  · refine h6.kept ho (.inr fun e => ?_)
    rcases h6.2 with ⟨rfl, -⟩ | ⟨g, cap, cur, rfl, -, hg, -⟩
    · cases e
    · simp only [Value.ownBlock, Option.some.injEq] at e
      subst e
      exact blk_ne hbk hg (by decide) rfl
  · obtain ⟨g, c, M, a1, a2, a3⟩ := h7 j hj
    exact ⟨g, c, M, a1, a2.only ho (a3 k (Nat.le_refl _) hk), fun i hi hi2 => a3 i (by omega) hi2⟩
theorem RS2V.add (h : RS2V w0 w outs gO cs G N (k + 1) BR rest vrest rs) (hk : k < outs.length) {c M : Nat} (hrow : RowP w (G k) l.length M (pAt l)) (hSA : Since w wA)
    (hown : w'.ownsRow BR 33 1 v' (rest.length + 1) (rs ++ [.slice (some ⟨G k, 0, none⟩) l.length c])) (hgrow : wA.grownBy w' vrest.ownBlock) (inc : ∀ i j, i < j → j < outs.length → G i < G j) :
    RS2 w0 w' outs gO cs G N (k + 1) BR (rest ++ [l]) v' := by
  obtain ⟨h1, h2, h3, h4, h5, h6, h7⟩ := h
  have hoA := own_since hSA h6
  have hul : rs.length = rest.length := by have := h6.1; omega
  refine ⟨_, ?_, h2, Nat.le_trans h3 (Nat.le_trans hSA.size hgrow.size), fun hp => ?_, fun i hi hi2 => ?_, by simpa using hown, fun j hj => ?_⟩
  · exact Below.grown (h1.trans hSA) hgrow (h1.trans hSA).size fun m hm => by
      have := (hoA.lt m hm).1
      omega
  · obtain ⟨a, b⟩ := h4 hp
    exact ⟨(hSA.blk a).grown hgrow (own_ne hoA b), b⟩
  · exact ((h5 i hi hi2).since hSA).app hoA (by decide) hgrow
  · rcases Nat.lt_or_ge j rest.length with g | g
    · obtain ⟨g1, c1, M1, a1, a2, a3⟩ := h7 j g
      rw [rAt_snoc_lt g]
      exact ⟨g1, c1, M1, by rw [List.getElem?_append_left (by omega)]; exact a1, (a2.since hSA).app hoA (by decide) hgrow, a3⟩
    · obtain rfl : j = rest.length := by simp at hj; omega
      rw [rAt_snoc]
      refine ⟨G k, c, M, by rw [List.getElem?_append_right (by omega), hul, Nat.sub_self]; rfl, (hrow.since hSA).app hoA (by decide) hgrow, fun i hi hi2 => ?_⟩
      have := inc k i (by omega) hi2; omega
theorem RS2.lis (h : RS2 w0 w outs gO cs G N k BR rest vrest) : LisS w vrest rest ∧ Since w0 w := by
  obtain ⟨rs, h1, h2, h3, h4, h5, h6, h7⟩ := h
  refine ⟨?_, h1⟩
  have hul : rs.length = rest.length := by have := h6.1; omega
  obtain ⟨-, ⟨rfl, hn⟩ | ⟨g, cap, cur, rfl, hb, hg, hc, hm, hcs, ht⟩⟩ := h6
  · exact ⟨none, 0, by rw [hn], fun i hi => by omega⟩
  · refine ⟨some ⟨g, 0, none⟩, cap, rfl, fun i hi => ⟨g, 0, rfl, ?_⟩⟩
    obtain ⟨g1, c1, M1, a1, a2, a3⟩ := h7 i hi
    refine ⟨_, ?_, some ⟨g1, 0, none⟩, c1, rfl, fun j hj => ⟨g1, 0, rfl, ?_⟩⟩
    · rw [Nat.zero_add, Blk.cell hg]
      rw [← ht, List.getElem?_take, if_pos (by omega)] at a1
      simpa using a1
    · have := a2.cells hj
      simpa using this
end
end Go.Proofs.Ytdbknodifpmmoaa
end
section
namespace Go.Proofs.Ytdbknodifpmmoaa
set_option linter.unusedSimpArgs false
set_option linter.unusedVariables false
open Go.RowKit Go.BigFrame
attribute [local go_sem ↓] eqPt neqPt

/-- Points in their order. -/
def srtL (l : List Pt2) : List Pt2 := l.mergeSort fun x y => !lxB y x
def SortSpec : Prop := ∀ (g c n B : Nat) (l : List Pt2) (w : World), w.ownsRow B 26 2 (.slice (some ⟨g, 0, none⟩) n c) n (l.flatMap ptV) → n = l.length → n ≤ 1000000000000 →
  Calls Try.prog 53 #[.slice (some ⟨g, 0, none⟩) n c, .func (.func 70) #[] #[]] w fun e w' => e = .returned (.tuple #[]) ∧ w'.ownsRow B 26 2 (.slice (some ⟨g, 0, none⟩) n c) n ((srtL l).flatMap ptV) ∧ Only g w w'
theorem RowP.toOwn {w : World} {B g c : Nat} {l : List Pt2} (h : RowP w g l.length (c * 2) (pAt l)) (hc : l.length ≤ c) (hm : c ≤ maxLen) (hb : B ≤ g) : w.ownsRow B 26 2 (.slice (some ⟨g, 0, none⟩) l.length c) l.length (l.flatMap ptV) := by
  obtain ⟨cs, hg, hs, hn, hcl⟩ := h
  refine ⟨flatP_len l, .inr ⟨g, c, cs, rfl, hb, hg, hc, hm, hs, ?_⟩⟩
  apply List.ext_getElem?
  intro j
  by_cases hj : j < l.length * 2
  · obtain ⟨u, r, rfl, hr⟩ : ∃ u r, j = u * 2 + r ∧ r < 2 := ⟨j / 2, j % 2, by omega, by omega⟩
    have hi : u < l.length := by omega
    rw [List.getElem?_take_of_lt hj, Array.getElem?_toList, flat_at ptV_len l u r hi hr]
    have e : pAt l u = l[u] := by simp [pAt, List.getD, hi]
    have h2 := hcl u hi
    rw [e, Nat.mul_comm] at h2
    have : r = 0 ∨ r = 1 := by omega
    rcases this with h | h
    · rw [h]; exact h2.1
    · rw [h]; exact h2.2
  · rw [List.getElem?_take_eq_none (by omega), List.getElem?_eq_none (by rw [flatP_len]; omega)]
theorem CompactOwn (g c B : Nat) (l : List Pt2) (w : World) (hl : l.length ≤ 1000000000000) (h : w.ownsRow B 26 2 (.slice (some ⟨g, 0, none⟩) l.length c) l.length (l.flatMap ptV)) :
    Calls Try.prog 55 #[.slice (some ⟨g, 0, none⟩) l.length c] w fun e w' => e = .returned (.slice (some ⟨g, 0, none⟩) (cmpL l).length c) ∧
      w'.ownsRow B 26 2 (.slice (some ⟨g, 0, none⟩) (cmpL l).length c) (cmpL l).length ((cmpL l).flatMap ptV) ∧ Only g w w' := by
  obtain ⟨h1, h2, h3⟩ := RowP.own h
  have hm : c ≤ maxLen := by
    obtain ⟨-, ⟨h0, -⟩ | ⟨g', cap, cur, hv, -, -, -, hm, -⟩⟩ := h
    · cases h0
    · injection hv with e1 e2 e3; omega
  refine (Compact_any g c (c * 2) l w hl h2 h1).mono ?_
  rintro e w' ⟨rfl, hr, ho⟩
  exact ⟨rfl, hr.toOwn (Nat.le_trans (cmpL_le l) h2) hm h3, ho⟩

/-- A row of one's own reads as points, in a block below B. -/
theorem own_ptsB {w : World} {b B g n c : Nat} {l : List Pt2} (h : w.ownsRow b 26 2 (.slice (some ⟨g, 0, none⟩) n c) n (l.flatMap ptV)) (hn : n = l.length) (hB : g < B) : PtsB w (.slice (some ⟨g, 0, none⟩) n c) l B := by
  subst hn
  obtain ⟨a, c', hv, h⟩ := own_pts h (Nat.le_refl _)
  injection hv with h1 h2 h3
  subst h1 h3
  refine ⟨_, _, rfl, fun i hi => ?_⟩
  obtain ⟨g', o, cs, ha, -, r⟩ := h i hi
  injection ha with ha
  injection ha with ha1 ha2
  subst ha1 ha2
  exact ⟨g, 0, cs, rfl, hB, r⟩
/-- The points of a hull, sorted, each one once. -/
def hullS (l : List Pt2) : List Pt2 := cmpL (srtL l)
theorem popC_len (p : Pt2) : ∀ s, (popC p s).length ≤ s.length
  | [] => Nat.le_refl _
  | [_] => Nat.le_refl _
  | b :: a :: s => by
    rw [popC]
    split
    · have := popC_len p (a :: s); simp only [List.length_cons] at this ⊢; omega
    · exact Nat.le_refl _
theorem fold_len : ∀ (l s : List Pt2), (l.foldl pushC s).length ≤ s.length + l.length
  | [], s => Nat.le_refl _
  | p :: l, s => by
    rw [List.foldl_cons]
    have h1 := fold_len l (pushC s p)
    have h2 := popC_len p s
    have h3 : (pushC s p).length = (popC p s).length + 1 := rfl
    simp only [List.length_cons]; omega
theorem chain_len (l : List Pt2) : (l.foldl pushC []).length ≤ l.length := by have := fold_len l []; simpa using this
theorem snocC_mem {acc : List Pt2} {p q : Pt2} (h : q ∈ snocC acc p) : q ∈ acc ∨ q = p := by
  unfold snocC at h
  split at h
  · exact .inr (by simpa using h)
  · split at h
    · exact .inl h
    · rcases List.mem_append.1 h with h | h
      · exact .inl h
      · exact .inr (by simpa using h)
theorem cmpL_mem {l : List Pt2} {q : Pt2} (h : q ∈ cmpL l) : q ∈ l := by
  have key : ∀ (l acc : List Pt2), q ∈ l.foldl snocC acc → q ∈ acc ∨ q ∈ l := by
    intro l
    induction l with
    | nil => exact fun acc h => .inl h
    | cons p l ih =>
      intro acc h
      rcases ih _ h with h | h
      · rcases snocC_mem h with h | h
        · exact .inl h
        · exact .inr (by simp [h])
      · exact .inr (by simp [h])
  rcases key l [] h with h | h
  · cases h
  · exact h
def hullV (l : List Pt2) : List Pt2 := hullX (hullS l)

end Go.Proofs.Ytdbknodifpmmoaa
end
section
namespace Go.Proofs.Ytdbknodifpmmoaa
set_option linter.unusedSimpArgs false
set_option linter.unusedVariables false
open Go.RowKit Go.BigFrame Go.Shelf Go.Lib Go.Proofs
def sortPt_ren : Go.Shelf.Ren := ⟨fun | 6 => 53 | 15 => 96 | 14 => 95 | 28 => 118 | 29 => 119 | 20 => 110 | 21 => 111 | 22 => 112 | 23 => 113 | 24 => 114 | 25 => 115 | 26 => 116 | 27 => 117 | 46 => 149 | 47 => 150 | 48 => 151 | 49 => 152 | 50 => 153 | 57 => 169 | n => n, fun | 22 => 33 | 24 => 26 | 25 => 85 | 3 => 3 | 39 => 114 | 0 => 0 | 53 => 141 | 55 => 143 | 4 => 4 | 46 => 134 | 45 => 133 | 50 => 138 | 5 => 5 | 9 => 9 | 66 => 175 | 70 => 179 | 76 => 193 | 77 => 157 | n => n, fun | n => n⟩
theorem sortPt : Go.Proofs.SlLaysF0.n6 Try.prog sortPt_ren := {
  mixed := by kernel_rfl
  f6 := ⟨Try.f53.name, by decide, Try.func53.trans (congrArg some (by kernel_rfl))⟩
  f14 := ⟨Try.f95.name, by decide, Try.func95.trans (congrArg some (by kernel_rfl))⟩
  f15 := Try.func96.trans (congrArg some (by kernel_rfl))
  f20 := ⟨Try.f110.name, by decide, Try.func110.trans (congrArg some (by kernel_rfl))⟩
  f21 := ⟨Try.f111.name, by decide, Try.func111.trans (congrArg some (by kernel_rfl))⟩
  f22 := ⟨Try.f112.name, by decide, Try.func112.trans (congrArg some (by kernel_rfl))⟩
  f23 := ⟨Try.f113.name, by decide, Try.func113.trans (congrArg some (by kernel_rfl))⟩
  f24 := ⟨Try.f114.name, by decide, Try.func114.trans (congrArg some (by kernel_rfl))⟩
  f25 := ⟨Try.f115.name, by decide, Try.func115.trans (congrArg some (by kernel_rfl))⟩
  f26 := ⟨Try.f116.name, by decide, Try.func116.trans (congrArg some (by kernel_rfl))⟩
  f27 := ⟨Try.f117.name, by decide, Try.func117.trans (congrArg some (by kernel_rfl))⟩
  f28 := Try.func118.trans (congrArg some (by kernel_rfl))
  f29 := Try.func119.trans (congrArg some (by kernel_rfl))
  f46 := ⟨Try.f149.name, by decide, Try.func149.trans (congrArg some (by kernel_rfl))⟩
  f47 := Try.func150.trans (congrArg some (by kernel_rfl))
  f48 := Try.func151.trans (congrArg some (by kernel_rfl))
  f49 := ⟨Try.f152.name, by decide, Try.func152.trans (congrArg some (by kernel_rfl))⟩
  f50 := ⟨Try.f153.name, by decide, Try.func153.trans (congrArg some (by kernel_rfl))⟩
  f57 := ⟨Try.f169.name, by decide, Try.func169.trans (congrArg some (by kernel_rfl))⟩
  t0 := Try.underlying0
  a0 := Try.isAgg0
  z0 := Try.sizeOf0
  v0 := Try.zeroValue0
  t3 := Try.underlying3
  a3 := Try.isAgg3
  z3 := Try.sizeOf3
  v3 := Try.zeroValue3
  t4 := Try.underlying4
  a4 := Try.isAgg4
  z4 := Try.sizeOf4
  v4 := Try.zeroValue4
  t5 := Try.underlying5
  a5 := Try.isAgg5
  z5 := Try.sizeOf5
  v5 := Try.zeroValue5
  t9 := Try.underlying9
  a9 := Try.isAgg9
  z9 := Try.sizeOf9
  v9 := Try.zeroValue9
  t22 := Try.underlying33
  a22 := Try.isAgg33
  z22 := Try.sizeOf33
  v22 := Try.zeroValue33
  t25 := Try.underlying85
  a25 := Try.isAgg85
  z25 := Try.sizeOf85
  v25 := Try.zeroValue85
  t39 := Try.underlying114
  a39 := Try.isAgg114
  z39 := Try.sizeOf114
  v39 := Try.zeroValue114
  t45 := Try.underlying133
  a45 := Try.isAgg133
  z45 := Try.sizeOf133
  v45 := Try.zeroValue133
  t46 := Try.underlying134
  a46 := Try.isAgg134
  z46 := Try.sizeOf134
  v46 := Try.zeroValue134
  t50 := Try.underlying138
  a50 := Try.isAgg138
  z50 := Try.sizeOf138
  v50 := Try.zeroValue138
  t53 := Try.underlying141
  a53 := Try.isAgg141
  z53 := Try.sizeOf141
  v53 := Try.zeroValue141
  t55 := Try.underlying143
  a55 := Try.isAgg143
  z55 := Try.sizeOf143
  v55 := Try.zeroValue143
  t66 := Try.underlying175
  a66 := Try.isAgg175
  z66 := Try.sizeOf175
  v66 := Try.zeroValue175
  t70 := Try.underlying179
  a70 := Try.isAgg179
  z70 := Try.sizeOf179
  v70 := Try.zeroValue179
  t76 := Try.underlying193
  a76 := Try.isAgg193
  z76 := Try.sizeOf193
  v76 := Try.zeroValue193
  t77 := Try.underlying157
  a77 := Try.isAgg157
  z77 := Try.sizeOf157
  v77 := Try.zeroValue157 }
theorem lxB_swo : Go.Sort.SWO (ltOf cmpP) where
  irrefl x := by rw [cmpP_lt]; simp [lxB]
  trans x y z h1 h2 := by rw [cmpP_lt] at *; simp only [lxB, Bool.or_eq_true, Bool.and_eq_true, decide_eq_true_eq] at *; omega
  ntrans x y z h1 h2 := by
    rw [cmpP_lt] at *
    simp only [lxB, Bool.or_eq_false_iff, Bool.and_eq_false_iff, decide_eq_false_iff_not] at *; omega
theorem ptV_one (x : Pt2) : ∀ v ∈ ptV x, v.oneCell' = true := by
  intro v hv
  simp only [ptV, List.mem_cons, List.not_mem_nil, or_false] at hv
  rcases hv with rfl | rfl <;> rfl
theorem cmpLays (blk off size : Nat) (w : World) : CmpLays Try.prog 70 #[] ptV 2 cmpP blk off size w := fun _ _ _ _ x y => Cmp_any x y _
theorem sort_spec : SortSpec := by
  intro g c n B l w h hn hlen
  have eg : ∀ args w, (callFunc 70 args).run Try.prog w = .ok (.enter 70 args) w := enters_of Try.func70 (by kernel_rfl) rfl
  have hT : ∀ x y, (ltOf cmpP) x y = false → (ltOf cmpP) y x = false → x = y := fun x y h1 h2 => by
    rw [cmpP_lt] at *
    simp only [lxB, Bool.or_eq_false_iff, Bool.and_eq_false_iff, decide_eq_false_iff_not] at *
    exact Prod.ext (by omega) (by omega)
  have hcon := AnyQ.slices_SortFunc_total sortPt 2 Try.isAgg26 Try.sizeOf26 ptV ptV_len ptV_one cmpP lxB_swo 70 #[] g 0 c l.toArray w eg (cmpLays _ _ _ _) (own_holds h hn) (h.lt g rfl).2 (by simp; omega) hT
  change Calls Try.prog 53 _ _ _ at hcon
  rw [show l.toArray.size = n by simp [hn]] at hcon
  refine hcon.mono ?_
  rintro e w' ⟨rfl, m, os, rfl⟩
  have e1 : (l.toArray.toList.mergeSort fun x y => !(ltOf cmpP) y x).toArray = (srtL l).toArray := by
    unfold srtL
    have : (fun x y => !(ltOf cmpP) y x) = fun x y => !lxB y x := by funext x y; rw [cmpP_lt]
    rw [this]
  rw [e1]
  exact ⟨rfl, own_sort h hn (by unfold srtL; simp), only_sort _ (h.lt g rfl).2⟩
end Go.Proofs.Ytdbknodifpmmoaa
end
section
namespace Go.Proofs.Ytdbknodifpmmoaa
set_option linter.unusedSimpArgs false
set_option linter.unusedVariables false
open Go.RowKit Go.BigFrame
attribute [local go_sem ↓] eqPt neqPt

def allOk (l : List Pt2) : Bool := l.all fun q => okP q.1 q.2
/-- The error of an octagon. -/
def octE (p : Pt2) (b : Int) : Int := if b < 1 ∨ 10000 < b ∨ okP p.1 p.2 = false then 1 else if allOk (crnV p b) = true then 0 else 17
theorem octE_zero {p : Pt2} {b : Int} (h : octE p b = 0) : 1 ≤ b ∧ b ≤ 10000 ∧ okP p.1 p.2 = true ∧ ∀ q ∈ crnV p b, okP q.1 q.2 = true := by
  unfold octE at h
  split at h
  · cases h
  · split at h
    · rename_i h1 h2
      unfold allOk at h2
      rw [List.all_eq_true] at h2
      exact ⟨by omega, by omega, by simpa using fun h => h1 (.inr (.inr h)), h2⟩
    · cases h
theorem crnV_len (p : Pt2) (b : Int) : (crnV p b).length = 8 := crnN_len _ _ _ 2
end Go.Proofs.Ytdbknodifpmmoaa
end
section
namespace Go.Proofs.Ytdbknodifpmmoaa
set_option linter.unusedSimpArgs false
set_option linter.unusedVariables false
open Go.RowKit Go.BigFrame
attribute [local go_sem ↓] eqPt neqPt

/-- The error of a strip. -/
def strE (p q : Pt2) (b : Int) : Int := if octE p b = 0 then octE q b else octE p b
def strL (p q : Pt2) (b : Int) : List Pt2 := crnV p b ++ crnV q b
theorem strL_len (p q : Pt2) (b : Int) : (strL p q b).length = 16 := by unfold strL; rw [List.length_append, crnV_len, crnV_len]
theorem strE_zero {p q : Pt2} {b : Int} (h : strE p q b = 0) : octE p b = 0 ∧ octE q b = 0 := by
  unfold strE at h
  split at h
  · rename_i g; exact ⟨g, h⟩
  · rename_i g; exact absurd h g
def twoP (p q : Pt2) (k : Nat) : Pt2 := if k = 0 then p else q
theorem ptV_ones (l : List Pt2) : ∀ u ∈ l.flatMap ptV, u.oneCell' = true := by
  intro u hu
  rw [List.mem_flatMap] at hu
  obtain ⟨a, -, h⟩ := hu
  exact ptV_one a u h
/-- What is known in a strip's world. -/
def StW (w0 w : World) (p q : Pt2) : Prop := Since w0 w ∧ Blk w w0.heap.size 26 #[.int .i64 p.1, .int .i64 p.2] ∧ Blk w (w0.heap.size + 1) 26 #[.int .i64 q.1, .int .i64 q.2]
theorem StW.since {w0 w w' : World} {p q : Pt2} (h : StW w0 w p q) (hs : Since w w') : StW w0 w' p q := ⟨h.1.trans hs, hs.blk h.2.1, hs.blk h.2.2⟩
theorem StW.cells {w0 w : World} {p q : Pt2} (h : StW w0 w p q) : (w.cell? ⟨w0.heap.size, 0, none⟩ = some (.int .i64 p.1) ∧ w.cell? ⟨w0.heap.size, 1, none⟩ = some (.int .i64 p.2)) ∧ w.cell? ⟨w0.heap.size + 1, 0, none⟩ = some (.int .i64 q.1) ∧ w.cell? ⟨w0.heap.size + 1, 1, none⟩ = some (.int .i64 q.2) :=
  ⟨⟨h.2.1.cell 0, h.2.1.cell 1⟩, h.2.2.cell 0, h.2.2.cell 1⟩
theorem StW.app {w0 w w' : World} {p q : Pt2} (h : StW w0 w p q) {v : Value} {n : Nat} {xs : List Value} (ho : w.ownsRow (w0.heap.size + 2) 26 2 v n xs) (hg : w.grownBy w' v.ownBlock) : StW w0 w' p q :=
  ⟨h.1.app (ho.mono (by omega)) hg, (hg.block _ h.2.1.lt (own_ne ho (by omega))).trans h.2.1, (hg.block _ h.2.2.lt (own_ne ho (by omega))).trans h.2.2⟩

theorem own_some {w : World} {B : Nat} {e : TypeId} {k n : Nat} {v : Value} {xs : List Value} (h : w.ownsRow B e k v n xs) (hn : 0 < n) : ∃ g c, v = .slice (some ⟨g, 0, none⟩) n c := by
  obtain ⟨-, ⟨-, h0⟩ | ⟨g, cap, cur, h, -⟩⟩ := h
  · omega
  · exact ⟨g, cap, h⟩

end Go.Proofs.Ytdbknodifpmmoaa
end
