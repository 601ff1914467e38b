/-
  slices.Compact over points: as a plain function, and its walk. Conditions: bounds of the numbers.
-/
import Derived.Test.YtcckekdfeeghaaaClipL
import Derived.Laws.IdiomCopy
namespace Go.Proofs.Ytcckekdfeeghaaa
set_option linter.unusedSimpArgs false
set_option linter.unusedVariables false
open Go.RowKit Go.BigFrame
attribute [local go_sem ↓] eqPt neqPt

theorem i64wc (n : Int) : IntKind.i64.wrap n = wrap64 n := by unfold wrap64; exact IntKind.wrap_i64 n
/-- Block g reads as the points f 0, f 1, .. f (n - 1); it has N cells. -/
def RowP (w : World) (g n N : Nat) (f : Nat → Pt2) : Prop :=
  ∃ cs, Blk w g 23 cs ∧ cs.size = N ∧ 2 * n ≤ N ∧ ∀ i, i < n → cs[2 * i]? = some (.int .i64 (f i).1) ∧ cs[2 * i + 1]? = some (.int .i64 (f i).2)
section
variable {w w' : World} {g n m N : Nat} {f f' : Nat → Pt2}
theorem RowP.since (h : RowP w g n N f) (k : Since w w') : RowP w' g n N f := by
  obtain ⟨cs, hb, hc⟩ := h
  exact ⟨cs, k.blk hb, hc⟩
theorem RowP.drew (h : RowP w g n N f) : RowP w.drew g n N f := h
theorem RowP.lt (h : RowP w g n N f) : g < w.heap.size := by obtain ⟨cs, hb, -⟩ := h; exact hb.lt
theorem RowP.cells (h : RowP w g n N f) {i : Nat} (hi : i < n) :
    w.cell? ⟨g, i * 2, none⟩ = some (.int .i64 (f i).1) ∧ w.cell? ⟨g, i * 2 + 1, none⟩ = some (.int .i64 (f i).2) := by
  obtain ⟨cs, hb, -, -, hc⟩ := h
  obtain ⟨h1, h2⟩ := hc i hi
  rw [Nat.mul_comm 2 i] at h1 h2
  exact ⟨(hb.cell _).trans h1, (hb.cell _).trans h2⟩
theorem RowP.frozen (h : RowP w g n N f) (j : Nat) : w.frozen? ⟨g, j, none⟩ = false := by obtain ⟨cs, hb, -⟩ := h; exact hb.frozen _
theorem RowP.is (h : RowP w g n N f) {j : Nat} (hj : j < N) : (w.cell? ⟨g, j, none⟩).isSome = true := by
  obtain ⟨cs, hb, hs, -⟩ := h
  rw [hb.cell, Array.getElem?_eq_getElem (by omega)]; rfl
theorem RowP.sub (h : RowP w g n N f) (hm : m ≤ n) (hf : ∀ i, i < m → f' i = f i) : RowP w g m N f' := by
  obtain ⟨cs, hb, hs, hn, hc⟩ := h
  exact ⟨cs, hb, hs, by omega, fun i hi => by rw [hf i hi]; exact hc i (by omega)⟩
theorem RowP.set (h : RowP w g n N f) {j : Nat} (hj : j < n) (p : Pt2) : RowP ((w.setCell ⟨g, j * 2, none⟩ (.int .i64 p.1)).setCell ⟨g, j * 2 + 1, none⟩ (.int .i64 p.2)) g n N (fun i => if i = j then p else f i) := by
  obtain ⟨cs, hb, hs, hn, hc⟩ := h
  refine ⟨_, (hb.set_ _ _).set_ _ _, by simpa using hs, hn, fun i hi => ?_⟩
  simp only [Array.getElem?_setIfInBounds, Array.size_setIfInBounds]
  refine ⟨?_, ?_⟩ <;> (repeat' split) <;> first | (exfalso; omega) | rfl | exact (hc i hi).1 | exact (hc i hi).2
theorem RowP.high (h : RowP w g n N f) {j : Nat} (hj : 2 * n ≤ j) (u : Value) : RowP (w.setCell ⟨g, j, none⟩ u) g n N f := by
  obtain ⟨cs, hb, hs, hn, hc⟩ := h
  refine ⟨_, hb.set_ _ _, by simpa using hs, hn, fun i hi => ?_⟩
  rw [Array.getElem?_setIfInBounds_ne (by omega), Array.getElem?_setIfInBounds_ne (by omega)]
  exact hc i hi
theorem RowP.highs : ∀ (l : List Value) (j : Nat) (w : World), RowP w g n N f → 2 * n ≤ j → RowP (w.setCells g j l) g n N f
  | [], _, _, h, _ => h
  | v :: r, j, w, h, hj => RowP.highs r (j + 1) _ (h.high hj v) (by omega)
end
theorem only_cells {g : Nat} {w0 : World} : ∀ (l : List Value) (j : Nat) (w : World), Only g w0 w → Only g w0 (w.setCells g j l)
  | [], _, _, h => h
  | v :: r, j, w, h => only_cells r (j + 1) _ (h.setCell (.inl rfl) v)

def snocC (acc : List Pt2) (q : Pt2) : List Pt2 := if acc.length = 0 then [q] else if q = lastP acc then acc else acc ++ [q]
/-- Runs of equal points, each one once. -/
def cmpL (l : List Pt2) : List Pt2 := l.foldl snocC []
theorem cmpL_snoc (l : List Pt2) (q : Pt2) : cmpL (l ++ [q]) = snocC (cmpL l) q := by unfold cmpL; rw [List.foldl_append]; rfl
theorem cmpL_take {l : List Pt2} {j : Nat} (hj : j < l.length) : cmpL (l.take (j + 1)) = snocC (cmpL (l.take j)) (pAt l j) := by
  rw [List.take_succ_eq_append_getElem hj, cmpL_snoc]
  simp [pAt, List.getD, hj]
theorem lastP_snoc (l : List Pt2) (q : Pt2) : lastP (l ++ [q]) = q := by unfold lastP pAt; simp [List.getD]
theorem snocC_last (l : List Pt2) (q : Pt2) : lastP (snocC l q) = q ∧ 1 ≤ (snocC l q).length ∧ (snocC l q).length ≤ l.length + 1 := by
  unfold snocC
  split
  · exact ⟨by simp [lastP, pAt, List.getD], by simp, by simp⟩
  · split
    · rename_i h; exact ⟨h.symm, by omega, by omega⟩
    · exact ⟨lastP_snoc _ _, by simp, by simp⟩
theorem cmpL_law {l : List Pt2} : ∀ {j : Nat}, j < l.length → lastP (cmpL (l.take (j + 1))) = pAt l j ∧ 1 ≤ (cmpL (l.take (j + 1))).length ∧ (cmpL (l.take (j + 1))).length ≤ j + 1
  | 0, hj => by
    rw [cmpL_take hj]
    have := snocC_last (cmpL (l.take 0)) (pAt l 0)
    exact ⟨this.1, this.2.1, by simpa [cmpL] using this.2.2⟩
  | j + 1, hj => by
    rw [cmpL_take hj]
    have := snocC_last (cmpL (l.take (j + 1))) (pAt l (j + 1))
    have h2 := (cmpL_law (l := l) (j := j) (by omega)).2.2
    exact ⟨this.1, this.2.1, by omega⟩
theorem cmpL_same {l : List Pt2} {j : Nat} (hj : j + 1 < l.length) (h : pAt l (j + 1) = pAt l j) : cmpL (l.take (j + 1 + 1)) = cmpL (l.take (j + 1)) := by
  have h1 := cmpL_law (l := l) (j := j) (by omega)
  rw [cmpL_take hj, snocC, if_neg (by omega), if_pos (by rw [h1.1, h])]
theorem cmpL_new {l : List Pt2} {j : Nat} (hj : j + 1 < l.length) (h : ¬ pAt l (j + 1) = pAt l j) : cmpL (l.take (j + 1 + 1)) = cmpL (l.take (j + 1)) ++ [pAt l (j + 1)] := by
  have h1 := cmpL_law (l := l) (j := j) (by omega)
  rw [cmpL_take hj, snocC, if_neg (by omega), if_neg (by rw [h1.1]; exact h)]
theorem cmpL_le (l : List Pt2) : (cmpL l).length ≤ l.length := by
  rcases hl : l.length with _ | n
  · rw [List.length_eq_zero_iff.1 hl]; simp [cmpL]
  · have := (cmpL_law (l := l) (j := n) (by omega)).2.2
    rw [List.take_of_length_le (by omega)] at this
    omega
theorem pAt_app_lt {l m : List Pt2} {i : Nat} (h : i < l.length) : pAt (l ++ m) i = pAt l i := by unfold pAt; simp [List.getD, List.getElem?_append_left h]
theorem pAt_app_at (l : List Pt2) (q : Pt2) : pAt (l ++ [q]) l.length = q := by unfold pAt; simp [List.getD]
theorem pAt_take {l : List Pt2} {i j : Nat} (h : i < j) : pAt (l.take j) i = pAt l i := by unfold pAt; simp [List.getD, List.getElem?_take, h]

theorem zeroPt (n : Nat) : ∀ u ∈ (Builtin.zeroCells #[Value.int .i64 0, Value.int .i64 0] n).toList, u.oneCell' = true := by
  intro u hu
  simp only [Builtin.zeroCells, Array.toList_map, List.mem_map] at hu
  obtain ⟨i, -, rfl⟩ := hu
  have : i % 2 = 0 ∨ i % 2 = 1 := by omega
  simp only [List.size_toArray, List.length_cons, List.length_nil]
  rcases this with h | h <;> rw [h] <;> rfl
theorem zeroPt_len (n : Nat) : (Builtin.zeroCells #[Value.int .i64 0, Value.int .i64 0] n).toList.length = n * 2 := by simp [Builtin.zeroCells]
theorem clear_pt (w : World) (g m n c N : Nat) (f : Nat → Pt2) (ty : TypeId) (h : RowP w g m N f) (hn : 0 < n) (hN : 2 * (m + n) ≤ N) :
    (Builtin.clear_ #[32] ty #[.slice (some ⟨g, m * 2, none⟩) n c]).run Try.prog w = .ok (.tuple #[]) (w.setCells g (m * 2) (Builtin.zeroCells #[Value.int .i64 0, Value.int .i64 0] n).toList) := by
  obtain ⟨k, rfl⟩ : ∃ k, n = k + 1 := ⟨n - 1, by omega⟩
  have hst := run_storeCells_cells (P := Try.prog) g (m * 2) (Builtin.zeroCells #[Value.int .i64 0, Value.int .i64 0] (k + 1)).toList 0 w
    (fun j hj => h.is (by rw [zeroPt_len] at hj; omega)) (fun j hj => h.frozen _) (zeroPt (k + 1))
  simp only [Nat.add_zero] at hst
  obtain ⟨i0, hi, hz0, hz1, hz2⟩ := info_parts infoPt
  unfold Builtin.clear_
  simp [go_sem, Try.underlying32]
  rw [hst]; rfl

/-- What the second loop has done: k2 points of the rest are read, kk are kept. -/
def CmpInv (l : List Pt2) (f : Nat → Pt2) (j kk : Nat) : Prop :=
  kk = (cmpL (l.take j)).length ∧ kk < j ∧ (∀ i, i < kk → f i = pAt (cmpL (l.take j)) i) ∧ ∀ i, j ≤ i + 1 → f i = pAt l i
theorem CmpInv.same {l : List Pt2} {f : Nat → Pt2} {j kk : Nat} (h : CmpInv l f j kk) (hj : j < l.length) (h1 : 1 ≤ j) (e : pAt l j = pAt l (j - 1)) : CmpInv l f (j + 1) kk := by
  obtain ⟨a, b, c, d⟩ := h
  obtain ⟨j, rfl⟩ : ∃ i, j = i + 1 := ⟨j - 1, by omega⟩
  have := cmpL_same hj e
  exact ⟨by rw [this]; exact a, by omega, by rw [this]; exact c, fun i hi => d i (by omega)⟩
theorem CmpInv.new {l : List Pt2} {f : Nat → Pt2} {j kk : Nat} (h : CmpInv l f j kk) (hj : j < l.length) (h1 : 1 ≤ j) (e : ¬ pAt l j = pAt l (j - 1)) : CmpInv l (fun i => if i = kk then pAt l j else f i) (j + 1) (kk + 1) := by
  obtain ⟨a, b, c, d⟩ := h
  obtain ⟨j, rfl⟩ : ∃ i, j = i + 1 := ⟨j - 1, by omega⟩
  have := cmpL_new hj e
  refine ⟨by rw [this, List.length_append, ← a]; rfl, by omega, fun i hi => ?_, fun i hi => ?_⟩
  · rw [this]
    dsimp only
    by_cases g : i = kk
    · rw [if_pos g, g, a, pAt_app_at]
    · rw [if_neg g, c i (by omega), pAt_app_lt (by omega)]
  · dsimp only; rw [if_neg (by omega)]; exact d i (by omega)
theorem CmpInv.start {l : List Pt2} {k : Nat} (hk : k + 1 < l.length) (hall : ∀ i, 1 ≤ i → i < k + 1 → pAt l i ≠ pAt l (i - 1)) (e : pAt l (k + 1) = pAt l k) : CmpInv l (pAt l) (k + 1 + 1) (k + 1) := by
  have key : ∀ j, j < k + 1 → cmpL (l.take (j + 1)) = l.take (j + 1) := by
    intro j
    induction j with
    | zero => intro _; rw [cmpL_take (by omega)]; simp [cmpL, snocC, pAt, List.take_one, List.getD]; cases l <;> simp_all
    | succ j ih =>
      intro hj
      rw [cmpL_new (by omega) (by have := hall (j + 1) (by omega) hj; simpa using this), ih (by omega), List.take_succ_eq_append_getElem (show j + 1 < l.length by omega)]
      simp [pAt, List.getD, show j + 1 < l.length by omega]
  have h2 := cmpL_same hk e
  rw [key k (by omega)] at h2
  refine ⟨by rw [h2]; simp; omega, by omega, fun i hi => ?_, fun i hi => rfl⟩
  rw [h2, pAt_take hi]
theorem cmpL_id {l : List Pt2} (hall : ∀ i, 1 ≤ i → i < l.length → pAt l i ≠ pAt l (i - 1)) : cmpL l = l := by
  rcases hl : l.length with _ | n
  · rw [List.length_eq_zero_iff.1 hl]; rfl
  · have key : ∀ j, j < l.length → cmpL (l.take (j + 1)) = l.take (j + 1) := by
      intro j
      induction j with
      | zero => intro _; rw [cmpL_take (by omega)]; simp [cmpL, snocC, pAt, List.take_one, List.getD]; cases l <;> simp_all
      | succ j ih =>
        intro hj
        rw [cmpL_new (by omega) (by have := hall (j + 1) (by omega) hj; simpa using this), ih (by omega), List.take_succ_eq_append_getElem (show j + 1 < l.length by omega)]
        simp [pAt, List.getD, show j + 1 < l.length by omega]
    have := key n (by omega)
    rwa [List.take_of_length_le (by omega)] at this

set_option maxRecDepth 100000 in
set_option maxHeartbeats 4000000 in
theorem Compact_any (g c N : Nat) (l : List Pt2) (w : World) (hl : l.length ≤ 1000000000000) (hc : l.length ≤ c) (hr : RowP w g l.length N (pAt l)) :
    Calls Try.prog 84 #[.slice (some ⟨g, 0, none⟩) l.length c] w fun e w' => e = .returned (.slice (some ⟨g, 0, none⟩) (cmpL l).length c) ∧ RowP w' g (cmpL l).length N (pAt (cmpL l)) ∧ Only g w w' := by
  have HR := Lib.hid hr
  clear hr
  by_cases h2 : l.length < 2
  · have HC : Hid (cmpL l = l) := by
      show _ = _
      exact cmpL_id fun i h1 h2 => by omega
    have hz : decide ((l.length : Int) < 2) = true := by rw [decide_eq_true_eq]; omega
    go_enter Try.func84, Try.ntmps84
    go_wp2
    go_ret
    rw [HC.out]
    exact ⟨rfl, HR.out, (Since.rfl_ w).only g⟩
  · have hz : decide ((l.length : Int) < 2) = false := by rw [decide_eq_false_iff_not]; omega
    go_enter Try.func84, Try.ntmps84
    go_wp2_with fail
    go_loopw [3] (fun v wr => ∃ k : Nat, 1 ≤ k ∧ k ≤ l.length ∧ v = .int .i64 k ∧ Hid (∀ i, 1 ≤ i → i < k → pAt l i ≠ pAt l (i - 1)) ∧ Hid (Since w wr)) (fun v _ => l.length - (intOf v).toNat)
    case atStart => exact ⟨1, by omega, by omega, rfl, fun i h1 h2 => by omega, Since.rfl_ w⟩
    case round =>
      obtain ⟨k, hk1, hk, rfl, HA, HS⟩ := hrel
      rcases Nat.lt_or_ge k l.length with hlt | hge
      · obtain ⟨m, hkm⟩ : ∃ m, k = m + 1 := ⟨k - 1, by omega⟩
        have HK := Lib.hid hkm
        have HRr := Lib.hid (HR.out.since HS.out)
        have iw : IntKind.i64.wrap ((k : Int) - 1) = (m : Int) := by
          rw [i64wc, show (k : Int) - 1 = m by omega]
          exact wrap_id (by omega)
        have i1 : (0 : Int) ≤ (m : Int) := Int.natCast_nonneg m
        have i2 : (m : Int) < (l.length : Int) := by omega
        have i3 : (k : Int) < (l.length : Int) := by omega
        have i4 : (0 : Int) ≤ (k : Int) := by omega
        have i5 : m < l.length := by omega
        obtain ⟨c0, c1⟩ := HRr.out.cells hlt
        obtain ⟨d0, d1⟩ := HRr.out.cells i5
        clear hkm
        go_upto_region 6 with fail
        refine region_cls (fun w' => w'.cell? ⟨g, k * 2, none⟩ = some (.int .i64 (pAt l k).1) ∧ w'.cell? ⟨g, k * 2 + 1, none⟩ = some (.int .i64 (pAt l k).2) ∧ w'.cell? ⟨g, m * 2, none⟩ = some (.int .i64 (pAt l m).1) ∧ w'.cell? ⟨g, m * 2 + 1, none⟩ = some (.int .i64 (pAt l m).2) ∧ Since wr w') (by kernel_rfl) (by kernel_rfl) (by (repeat' refine And.intro ?_ ?_) <;> first | (simp (maxDischargeDepth := 9) [c0, c1, d0, d1,  cSetS, cSetO, cellNew, World.cell?_alloc_some, cellDrew]; done) | (repeat (first | with_reducible assumption | with_reducible exact Since.rfl_ _ | refine Since.setCell ?_ (by (try dsimp only); omega) _ | refine Since.alloc ?_ _ | refine Since.drew ?_))) ?_
        repeat (go_big_quiet_step ((first | (intro hC; have hC := hC.out; (try simp only [hC, Result.andThen]); first | exact ⟨True.intro, rfl⟩ | exact ⟨rfl, rfl⟩ | rfl))))
        refine cls_end ?_
        clear c0 c1 d0 d1
        rintro w1 ⟨-, -, -, -, hs⟩
        have HS1 := Lib.hid (HS.out.trans hs)
        have HR1 := Lib.hid (HRr.out.since hs)
        clear hs HRr HS
        by_cases hb : pAt l k = pAt l m
        · have hx : ((pAt l k).1 == (pAt l m).1 && (pAt l k).2 == (pAt l m).2) = true := by rw [hb]; simp
          have HI : Hid (CmpInv l (pAt l) (k + 1) k) := by
            show CmpInv _ _ _ _
            have h1 := HK.out
            subst h1
            exact CmpInv.start hlt HA.out hb
          have HX : Hid (¬ (((pAt l k).fst == (pAt l m).fst) = false ∨ ((pAt l k).snd == (pAt l m).snd) = false)) := by show ¬ _; rw [hb]; simp
          clear hb HA hx
          have kc : k < c := by omega
          have e1 : (k : Int) ≤ (c : Int) := by omega
          have e2 : ¬ c = k := by omega
          go_wp2_with fail
          all_goals (first | (refine absurd ?_ HX.out; assumption; done) | skip)
          clear i1 i2 i3 i4 i5 iw
          have h1w := HR1.out.lt
          go_loopw [3, 5] (fun v3 v5 wr => ∃ (kk k2 : Nat) (f : Nat → Pt2), v3 = .int .i64 kk ∧ v5 = .int .i64 k2 ∧ 1 ≤ k2 ∧ k + k2 ≤ l.length ∧ Hid (CmpInv l f (k + k2) kk) ∧ Hid (RowP wr g l.length N f) ∧ Hid (Only g w wr)) (fun _ v _ => l.length - k - (intOf v).toNat)
          case atStart => exact ⟨k, 1, pAt l, by go_num, by go_num, by omega, by omega, HI, HR1, HS1.out.only g⟩
          case round =>
            clear HR1 HS1 HI
            obtain ⟨kk, k2, f, rfl, rfl, g1, g2, HI, HR2, HO⟩ := hrel
            have hkk := HI.out.2.1
            rcases Nat.lt_or_ge (k + k2) l.length with hlt2 | hge2
            · obtain ⟨m2, hkm2⟩ : ∃ m2, k2 = m2 + 1 := ⟨k2 - 1, by omega⟩
              have HK2 := Lib.hid hkm2
              have jw : IntKind.i64.wrap ((k2 : Int) - 1) = (m2 : Int) := by
                rw [i64wc, show (k2 : Int) - 1 = m2 by omega]
                exact wrap_id (by omega)
              have j1 : (0 : Int) ≤ (m2 : Int) := Int.natCast_nonneg m2
              have j2 : (m2 : Int) < ((l.length - k : Nat) : Int) := by omega
              have j3 : (k2 : Int) < ((l.length - k : Nat) : Int) := by omega
              have j4 : (0 : Int) ≤ (k2 : Int) := by omega
              have j5 : m2 < l.length - k := by omega
              have j6 : k2 < l.length - k := by omega
              have j7 : (kk : Int) < (l.length : Int) := by omega
              have j8 : (0 : Int) ≤ (kk : Int) := by omega
              have j9 : kk < l.length := by omega
              obtain ⟨c0, c1⟩ := HR2.out.cells hlt2
              obtain ⟨d0, d1⟩ := HR2.out.cells (i := k + m2) (by omega)
              rw [HI.out.2.2.2 _ (by omega), Nat.add_mul] at c0 c1 d0 d1
              clear hkm2
              have j10 : decide (k2 < l.length - k) = true := by rw [decide_eq_true_eq]; omega
              by_cases hb : pAt l (k + k2) = pAt l (k + m2)
              · have HI2 : Hid (CmpInv l f (k + k2 + 1) kk) := HI.out.same hlt2 (by omega) (by rw [hb, show k + k2 - 1 = k + m2 by have := HK2.out; omega])
                have hx : ((pAt l (k + k2)).1 == (pAt l (k + m2)).1) = true := by rw [hb]; simp
                have hy : ((pAt l (k + k2)).2 == (pAt l (k + m2)).2) = true := by rw [hb]; simp
                clear hb HI
                go_upto_region 11 with fail
                refine region_cls (fun w' => w'.cell? ⟨g, k * 2 + k2 * 2, none⟩ = some (.int .i64 (pAt l (k + k2)).1) ∧ w'.cell? ⟨g, k * 2 + k2 * 2 + 1, none⟩ = some (.int .i64 (pAt l (k + k2)).2) ∧ w'.cell? ⟨g, k * 2 + m2 * 2, none⟩ = some (.int .i64 (pAt l (k + m2)).1) ∧ w'.cell? ⟨g, k * 2 + m2 * 2 + 1, none⟩ = some (.int .i64 (pAt l (k + m2)).2) ∧ Since wr w') (by kernel_rfl) (by kernel_rfl) (by (repeat' refine And.intro ?_ ?_) <;> first | (simp (maxDischargeDepth := 9) [c0, c1, d0, d1,  cSetS, cSetO, cellNew, World.cell?_alloc_some, cellDrew]; done) | (repeat (first | with_reducible assumption | with_reducible exact Since.rfl_ _ | refine Since.setCell ?_ (by (try dsimp only); omega) _ | refine Since.alloc ?_ _ | refine Since.drew ?_))) ?_
                repeat (go_big_quiet_step ((first | (intro hC; have hC := hC.out; (try simp only [hC, Result.andThen]); first | exact ⟨True.intro, rfl⟩ | exact ⟨rfl, rfl⟩ | rfl))))
                refine cls_end ?_
                clear d0 d1 c0 c1
                rintro w2 ⟨c0, c1, -, -, hs⟩
                have HO2 := Lib.hid (HO.out.trans (hs.only g))
                have HR3 := Lib.hid (HR2.out.since hs)
                clear hs HR2 HO hx
                go_wp2_with fail
                go_roundw
                case rel => exact ⟨kk, k2 + 1, f, rfl, by go_num, by omega, by omega, HI2, HR3, HO2⟩
                case measure => simp [intOf]; omega
              · have HI2 : Hid (CmpInv l (fun i => if i = kk then pAt l (k + k2) else f i) (k + k2 + 1) (kk + 1)) := HI.out.new hlt2 (by omega) (by rw [show k + k2 - 1 = k + m2 by have := HK2.out; omega]; exact hb)
                have HB := Lib.hid hb
                clear hb HI
                cases hx : ((pAt l (k + k2)).1 == (pAt l (k + m2)).1)
                · go_upto_region 11 with fail
                  refine region_cls (fun w' => w'.cell? ⟨g, k * 2 + k2 * 2, none⟩ = some (.int .i64 (pAt l (k + k2)).1) ∧ w'.cell? ⟨g, k * 2 + k2 * 2 + 1, none⟩ = some (.int .i64 (pAt l (k + k2)).2) ∧ w'.cell? ⟨g, k * 2 + m2 * 2, none⟩ = some (.int .i64 (pAt l (k + m2)).1) ∧ w'.cell? ⟨g, k * 2 + m2 * 2 + 1, none⟩ = some (.int .i64 (pAt l (k + m2)).2) ∧ Since wr w') (by kernel_rfl) (by kernel_rfl) (by (repeat' refine And.intro ?_ ?_) <;> first | (simp (maxDischargeDepth := 9) [c0, c1, d0, d1,  cSetS, cSetO, cellNew, World.cell?_alloc_some, cellDrew]; done) | (repeat (first | with_reducible assumption | with_reducible exact Since.rfl_ _ | refine Since.setCell ?_ (by (try dsimp only); omega) _ | refine Since.alloc ?_ _ | refine Since.drew ?_))) ?_
                  repeat (go_big_quiet_step ((first | (intro hC; have hC := hC.out; (try simp only [hC, Result.andThen]); first | exact ⟨True.intro, rfl⟩ | exact ⟨rfl, rfl⟩ | rfl))))
                  refine cls_end ?_
                  clear d0 d1 c0 c1
                  rintro w2 ⟨c0, c1, -, -, hs⟩
                  have HO2 := Lib.hid (HO.out.trans (hs.only g))
                  have HR3 := Lib.hid (HR2.out.since hs)
                  clear hs HR2 HO hx
                  have HR4 := Lib.hid (HR3.out.set j9 (pAt l (k + k2)))
                  have HO4 := Lib.hid ((HO2.out.setCell (p := ⟨g, kk * 2, none⟩) (.inl rfl) (.int .i64 (pAt l (k + k2)).1)).setCell (p := ⟨g, kk * 2 + 1, none⟩) (.inl rfl) (.int .i64 (pAt l (k + k2)).2))
                  obtain ⟨q0, q1⟩ := HR3.out.cells j9
                  have f0 := HR3.out.frozen (kk * 2)
                  have f1 := HR3.out.frozen (kk * 2 + 1)
                  go_wp2_with fail
                  go_roundw
                  case rel => exact ⟨kk + 1, k2 + 1, _, by go_num, by go_num, by omega, by omega, HI2, HR4, HO4⟩
                  case measure => simp [intOf]; omega
                · cases hy : ((pAt l (k + k2)).2 == (pAt l (k + m2)).2)
                  · go_upto_region 11 with fail
                    refine region_cls (fun w' => w'.cell? ⟨g, k * 2 + k2 * 2, none⟩ = some (.int .i64 (pAt l (k + k2)).1) ∧ w'.cell? ⟨g, k * 2 + k2 * 2 + 1, none⟩ = some (.int .i64 (pAt l (k + k2)).2) ∧ w'.cell? ⟨g, k * 2 + m2 * 2, none⟩ = some (.int .i64 (pAt l (k + m2)).1) ∧ w'.cell? ⟨g, k * 2 + m2 * 2 + 1, none⟩ = some (.int .i64 (pAt l (k + m2)).2) ∧ Since wr w') (by kernel_rfl) (by kernel_rfl) (by (repeat' refine And.intro ?_ ?_) <;> first | (simp (maxDischargeDepth := 9) [c0, c1, d0, d1,  cSetS, cSetO, cellNew, World.cell?_alloc_some, cellDrew]; done) | (repeat (first | with_reducible assumption | with_reducible exact Since.rfl_ _ | refine Since.setCell ?_ (by (try dsimp only); omega) _ | refine Since.alloc ?_ _ | refine Since.drew ?_))) ?_
                    repeat (go_big_quiet_step ((first | (intro hC; have hC := hC.out; (try simp only [hC, Result.andThen]); first | exact ⟨True.intro, rfl⟩ | exact ⟨rfl, rfl⟩ | rfl))))
                    refine cls_end ?_
                    clear d0 d1 c0 c1
                    rintro w2 ⟨c0, c1, -, -, hs⟩
                    have HO2 := Lib.hid (HO.out.trans (hs.only g))
                    have HR3 := Lib.hid (HR2.out.since hs)
                    clear hs HR2 HO hx
                    have HR4 := Lib.hid (HR3.out.set j9 (pAt l (k + k2)))
                    have HO4 := Lib.hid ((HO2.out.setCell (p := ⟨g, kk * 2, none⟩) (.inl rfl) (.int .i64 (pAt l (k + k2)).1)).setCell (p := ⟨g, kk * 2 + 1, none⟩) (.inl rfl) (.int .i64 (pAt l (k + k2)).2))
                    obtain ⟨q0, q1⟩ := HR3.out.cells j9
                    have f0 := HR3.out.frozen (kk * 2)
                    have f1 := HR3.out.frozen (kk * 2 + 1)
                    go_wp2_with fail
                    go_roundw
                    case rel => exact ⟨kk + 1, k2 + 1, _, by go_num, by go_num, by omega, by omega, HI2, HR4, HO4⟩
                    case measure => simp [intOf]; omega
                  · exact absurd (Prod.ext (beq_iff_eq.1 hx) (beq_iff_eq.1 hy)) HB.out
            · obtain ⟨ke, hke⟩ : ∃ ke, Hid (ke = l.length - k) := ⟨_, rfl⟩
              have h3 : k + k2 = l.length := by omega
              have HI3 := HI.out
              rw [h3, CmpInv, List.take_length] at HI3
              obtain ⟨a1, a2, a3, a4⟩ := HI3
              have HN := Lib.hid a1
              have HRm := Lib.hid (HR2.out.sub (m := kk) (f' := pAt (cmpL l)) (by omega) (fun i hi => (a3 i hi).symm))
              have hN : 2 * l.length ≤ N := by obtain ⟨cs, -, -, h, -⟩ := HR2.out; exact h
              have hcl := fun ty => clear_pt wr g kk (l.length - kk) (c - kk) N _ ty HRm.out (by omega) (by omega)
              have HRe := Lib.hid (RowP.highs (Builtin.zeroCells #[Value.int .i64 0, Value.int .i64 0] (l.length - kk)).toList (kk * 2) wr HRm.out (by omega))
              have HOe := Lib.hid (only_cells (Builtin.zeroCells #[Value.int .i64 0, Value.int .i64 0] (l.length - kk)).toList (kk * 2) wr HO.out)
              generalize (Builtin.zeroCells #[Value.int .i64 0, Value.int .i64 0] (l.length - kk)).toList = zs at *
              clear a1 a3 a4 HI HR2 HO HRm
              have b1 : (kk : Int) ≤ (l.length : Int) := by omega
              have b2 : (kk : Int) ≤ (c : Int) := by omega
              have b3 : ¬ c = kk := by omega
              have b4 : (0 : Int) ≤ (kk : Int) := by omega
              have b5 : kk < c := by omega
              have b6 : decide (k2 < l.length - k) = false := by rw [decide_eq_false_iff_not]; omega
              go_wp2
              go_ret
              rw [← HN.out]
              exact ⟨rfl, HRe.out, HOe.out⟩
        · have HB : Hid (∀ i, 1 ≤ i → i < k + 1 → pAt l i ≠ pAt l (i - 1)) := fun i h1 h2 => by
            rcases Nat.lt_succ_iff_lt_or_eq.1 h2 with h | h
            · exact HA.out i h1 h
            · rw [h, show k - 1 = m by have := HK.out; omega]; exact hb
          have HX : Hid (¬ (((pAt l k).fst == (pAt l m).fst) = true ∧ ((pAt l k).snd == (pAt l m).snd) = true)) := fun h => hb (Prod.ext (beq_iff_eq.1 h.1) (beq_iff_eq.1 h.2))
          clear hb HA
          go_wp2_with fail
          all_goals (first | (refine absurd ?_ HX.out; assumption; done) | skip)

          go_roundw
          case rel => exact ⟨k + 1, by omega, by omega, by go_num, HB, HS1⟩
          case measure => simp [intOf]; omega
      · have HC : Hid (cmpL l = l) := by
          show _ = _
          exact cmpL_id fun i h1 h2 => HA.out i h1 (by omega)
        have hz3 : decide ((k : Int) < (l.length : Int)) = false := by rw [decide_eq_false_iff_not]; omega
        clear HA
        go_wp2
        go_ret
        rw [HC.out]
        exact ⟨rfl, HR.out.since HS.out, HS.out.only g⟩
end Go.Proofs.Ytcckekdfeeghaaa
