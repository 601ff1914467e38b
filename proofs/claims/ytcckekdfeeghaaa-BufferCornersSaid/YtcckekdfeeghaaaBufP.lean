/-
  The walk of terrlaw3.BufferCorners. Conditions: none.
-/
import Derived.Test.YtcckekdfeeghaaaBufO
import Derived.Test.YtcckekdfeeghaaaClipU
namespace Go.Proofs.Ytcckekdfeeghaaa
set_option linter.unusedSimpArgs false
set_option linter.unusedVariables false
open Go.RowKit Go.BigFrame
attribute [local go_sem ↓] eqPt neqPt

/-- An append that stands behind a guard. -/
theorem step_app_g {P : Program} (w : World) {ops : Array Oper} {o : Oper} {a : Act} {K : Act → World → Prop} {Q : Exit → Act → World → Prop} {E : Prop} (hw : Region.wanted o (yielded ops a.tmps) = true) (s x : Operand) (t : TypeId)
    (ho : o.op = .call { callee := .builtin .append, args := #[s, x], argTypes := #[t, t] })
    (base : Nat) (e : TypeId) (i : TypeInfo) (z : Value) (size bytes : Nat) (ht : P.underlying t = some (.slice e)) (hi : P.info? e = some i) (hz : i.zero = some z)
    (hsize : i.size = size) (hby : i.bytes = bytes) (hzs : z.cells.size = size) (hsz : 0 < size)
    (v : Value) (n : Nat) (xs : List Value) (hs : a.eval s = v) (hown : w.ownsRow base e size v n xs)
    (ad : Addr) (m c : Nat) (news : List Value) (hx : a.eval x = .slice (some ad) m c) (hl : news.length = m * size) (hnews : ∀ j u, news[j]? = some u → w.cell? (ad.add j) = some u) (h1 : ∀ u ∈ news, u.oneCell' = true)
    (hm : 0 < m) (h63 : n + m ≤ maxLen) (hbytes : (n + m) * bytes ≤ 140737488355328) (hbase : base ≤ w.heap.size) (H : Nat) (hH : w.heap.size = H)
    (h : ∀ g cap w', w'.ownsRow base e size (.slice (some ⟨g, 0, none⟩) (n + m) cap) (n + m) (xs ++ news) → w.grownBy w' v.ownBlock → (v.ownBlock = some g ∨ g = H) → g < w'.heap.size → K (a.put o.dst (.slice (some ⟨g, 0, none⟩) (n + m) cap)) w') :
    if Region.wanted o (yielded ops a.tmps) = true then Oper.wp P o a w K Q else E := by
  rw [if_pos hw]
  exact wp_append_lies w s x t ho base e i z size bytes ht hi hz hsize hby hzs hsz v n xs hs hown ad m c news hx hl hnews h1 hm h63 hbytes hbase H hH h
theorem Equal_yes (v v' : Value) (l : List Pt2) (w : World) (hl : l.length ≤ 1000000000000000) (hv : PtsS w v l) (hv' : PtsS w v' l) :
    Calls Try.prog 45 #[v, v'] w fun e w' => e = .returned (.bool true) ∧ Since w w' := by
  have := Equal_any v v' l l w hl hl hv hv'
  rwa [decide_eq_true rfl] at this
theorem oct_oks {p : Pt2} {b : Int} (h : octE p b = 0) : ∀ q ∈ arL p b, okP q.1 q.2 = true := fun q hq => (octE_zero h).2.2.2 q (arL_mem.1 hq)
theorem ring_ar {p : Pt2} {b : Int} (h : octE p b = 0) : Ring3 (arL p b) (hullV (crnV p b)) := (oct_ring (octE_zero h).1).ext fun q => arL_mem
theorem ring_ar2 {p q : Pt2} {b : Int} (h : octE p b = 0) : Ring3 (arL p b ++ arL q b) (hullV (strL p q b)) := (str_ring (octE_zero h).1).ext fun x => by
  unfold strL
  rw [List.mem_append, List.mem_append, arL_mem, arL_mem]
theorem hull8 (p : Pt2) (b : Int) : (hullV (crnV p b)).length ≤ 1000000 := by have := hullV_len (crnV p b); rw [crnV_len] at this; omega
theorem hull16 (p q : Pt2) (b : Int) : (hullV (strL p q b)).length ≤ 1000000 := by have := hullV_len (strL p q b); rw [strL_len] at this; omega

set_option maxRecDepth 100000 in
set_option maxHeartbeats 4000000 in
theorem Corners_walk (px py qx qy b : Int) (w : World) :
    Calls Try.prog 10 #[.agg #[.int .i64 px, .int .i64 py], .agg #[.int .i64 qx, .int .i64 qy], .int .i64 b] w fun e w' => e = .returned (.bool true) ∧ Since w w' := by
  obtain ⟨p, hp1, hp2⟩ : ∃ p : Pt2, p.1 = px ∧ p.2 = py := ⟨(px, py), rfl, rfl⟩
  obtain ⟨q, hq1, hq2⟩ : ∃ q : Pt2, q.1 = qx ∧ q.2 = qy := ⟨(qx, qy), rfl, rfl⟩
  subst hp1 hp2 hq1 hq2
  have HO : Hid (octE (0, 0) 12 = 0 ∧ hullV (crnV (0, 0) 12) = [(-12, -5), (-5, -12), (5, -12), (12, -5), (12, 5), (5, 12), (-5, 12), (-12, 5)]) := ⟨oct12_err, oct12_hull⟩
  have HC := fun w => Octagon_any (0, 0) 12 w
  rw [HO.out.1, HO.out.2] at HC
  clear HO
  go_enter Try.func10, Try.ntmps10
  go_upto_region 1 with fail
  refine atW (fun w' => StW w w' p q) ⟨((Since.rfl_ w).alloc _).alloc _, (Blk.new _ _ _).alloc _, Blk.new' (by simp)⟩ ?_
  intro w0 h0
  have HW0 := Lib.hid h0
  clear h0
  go_wp2_with fail
  refine (ptL_any _ _ _).mono ?_
  rintro e w1 ⟨rfl, hs⟩
  have HW1 := Lib.hid (HW0.out.since hs)
  clear hs HW0
  go_wp2_with fail
  refine (HC _).mono ?_
  rintro e w2 ⟨v, rfl, ho, -, hs⟩
  have ho := ho (by trivial)
  obtain ⟨g, c, rfl⟩ := own_some ho (by decide)
  have HW2 := Lib.hid (HW1.out.since hs)
  have x0 : w2.cell? ⟨g, 0, none⟩ = some (.int .i64 (-12)) := ho.cellAt 0 (by decide)
  have x1 : w2.cell? ⟨g, 1, none⟩ = some (.int .i64 (-5)) := ho.cellAt 1 (by decide)
  clear ho hs HC HW1
  go_upto_region 2 with fail
  refine region_cls (fun w' => w'.cell? ⟨g, 0, none⟩ = some (.int .i64 (-12)) ∧ w'.cell? ⟨g, 1, none⟩ = some (.int .i64 (-5)) ∧ Since w2 w') (by kernel_rfl) (by kernel_rfl) (by (repeat' refine And.intro ?_ ?_) <;> first | (simp (maxDischargeDepth := 9) [x0, x1,  cSetS, cSetO, cellNew, World.cell?_alloc_some, cellDrew]; done) | (repeat (first | with_reducible assumption | with_reducible exact Since.rfl_ _ | refine Since.setCell ?_ (by (try dsimp only); omega) _ | refine Since.alloc ?_ _ | refine Since.drew ?_))) ?_
  repeat (go_big_quiet_step ((first | (intro hC; go_at_call 14; refine (ptL_any _ _ _).mono ?_; rintro e w' ⟨rfl, hb⟩; refine ⟨rfl, ?_⟩; have k1 := keepC hb; have k2 := keepS hb; have hC := hC.out; (try dsimp only at hC); simp [Cls, hC, k1, k2]) | (intro hC; have hC := hC.out; (try simp only [hC, Result.andThen]); first | exact ⟨True.intro, rfl⟩ | exact ⟨rfl, rfl⟩ | rfl))))
  refine cls_end ?_
  rintro w3 ⟨-, -, hs⟩
  have HW3 := Lib.hid (HW2.out.since hs)
  clear hs x0 x1 HW2
  obtain ⟨⟨a0, a1⟩, c0, c1⟩ := HW3.out.cells
  go_wp2_with fail
  refine (Octagon_any p b _).mono ?_
  rintro e w4 ⟨v1, rfl, h1o, h1n, hs⟩
  have HV1 : Hid (octE p b = 0 → PtsS w4 v1 (hullV (crnV p b))) := fun h => (own_pts (h1o h) (Nat.le_refl _)).pts
  have HN1 := Lib.hid h1n
  have HW4 := Lib.hid (HW3.out.since hs)
  clear hs HW3 a0 a1 c0 c1 h1o h1n
  obtain ⟨⟨a0, a1⟩, c0, c1⟩ := HW4.out.cells
  go_wp2_with fail
  refine (Strip_any p q b _).mono ?_
  rintro e w5 ⟨v2, rfl, h2o, h2n, hs⟩
  have HV2 : Hid (strE p q b = 0 → PtsS w5 v2 (hullV (strL p q b))) := fun h => (own_pts (h2o h) (Nat.le_refl _)).pts
  have HN2 := Lib.hid h2n
  have HV1' : Hid (octE p b = 0 → PtsS w5 v1 (hullV (crnV p b))) := fun h => (HV1.out h).since hs
  have HW5 := Lib.hid (HW4.out.since hs)
  clear hs HW4 a0 a1 c0 c1 h2o h2n HV1
  obtain ⟨⟨a0, a1⟩, c0, c1⟩ := HW5.out.cells
  go_wp2_with fail
  refine (Fault_any p b _).mono ?_
  rintro e w6 ⟨rfl, hs⟩
  have HW6 := Lib.hid (HW5.out.since hs)
  have HV1 : Hid (octE p b = 0 → PtsS w6 v1 (hullV (crnV p b))) := fun h => (HV1'.out h).since hs
  have HV2' : Hid (strE p q b = 0 → PtsS w6 v2 (hullV (strL p q b))) := fun h => (HV2.out h).since hs
  clear hs HW5 a0 a1 c0 c1 HV2 HV1'
  by_cases hz : octE p b = 0
  · rw [hz]
    obtain ⟨b1, b2, b3, b4⟩ := octE_zero hz
    have HS : Hid (strE p q b = octE q b) := by show _ = _; unfold strE; rw [if_pos hz]
    have HAp := Lib.hid (fun w => Around_ok (p := p) (b := b) b1 b2 b3 w)
    have hv1 := Lib.hid (HV1.out hz)
    have HRp := Lib.hid (ring_ar hz)
    have HOp := Lib.hid (oct_oks hz)
    obtain ⟨⟨a0, a1⟩, c0, c1⟩ := HW6.out.cells
    go_wp2_with fail
    refine (HAp.out _).mono ?_
    rintro e w7 ⟨v3, rfl, ho, hs⟩
    have HW7 := Lib.hid (HW6.out.since hs)
    have hv3 := Lib.hid (own_pts (l := arL p b) ho (Nat.le_refl _)).pts
    have hv1' := Lib.hid (hv1.out.since hs)
    have HV2 : Hid (strE p q b = 0 → PtsS w7 v2 (hullV (strL p q b))) := fun h => (HV2'.out h).since hs
    clear hs ho HW6 a0 a1 c0 c1 HV2' hv1 HV1
    go_wp2_with fail
    refine (Wrapped_any v3 (arL p b) (hullV (crnV p b)) _ hv3.out (by rw [arL_len]; decide) HOp.out HRp.out (hull8 p b)).mono ?_
    rintro e w8 ⟨v4, rfl, ho, hs⟩
    have HW8 := Lib.hid (HW7.out.since hs)
    have hv4 := Lib.hid (own_pts ho (Nat.le_refl _)).pts
    have hv1 := Lib.hid (hv1'.out.since hs)
    have HV2' : Hid (strE p q b = 0 → PtsS w8 v2 (hullV (strL p q b))) := fun h => (HV2.out h).since hs
    clear hs ho HW7 HV2 hv1' hv3
    go_wp2_with fail
    refine (Equal_yes v1 v4 _ _ (Nat.le_trans (hull8 p b) (by decide)) hv1.out hv4.out).mono ?_
    rintro e w9 ⟨rfl, hs⟩
    have HW9 := Lib.hid (HW8.out.since hs)
    have HV2 : Hid (strE p q b = 0 → PtsS w9 v2 (hullV (strL p q b))) := fun h => (HV2'.out h).since hs
    clear hs HW8 HV2' hv1 hv4
    obtain ⟨⟨a0, a1⟩, c0, c1⟩ := HW9.out.cells
    go_wp2_with fail
    refine (Fault_any q b _).mono ?_
    rintro e wa ⟨rfl, hs⟩
    have HWa := Lib.hid (HW9.out.since hs)
    have HV2' : Hid (strE p q b = 0 → PtsS wa v2 (hullV (strL p q b))) := fun h => (HV2.out h).since hs
    clear hs HW9 HV2 a0 a1 c0 c1
    by_cases hy : octE q b = 0
    · rw [HS.out, hy]
      have hs0 : strE p q b = 0 := HS.out.trans hy
      obtain ⟨-, -, b5, b6⟩ := octE_zero hy
      have HAq := Lib.hid (fun w => Around_ok (p := q) (b := b) b1 b2 b5 w)
      have hv2 := Lib.hid (HV2'.out hs0)
      have HRs := Lib.hid (ring_ar2 (q := q) hz)
      have HOs : Hid (∀ x ∈ arL p b ++ arL q b, okP x.1 x.2 = true) := fun x hx => by
        rcases List.mem_append.1 hx with h | h
        · exact oct_oks hz x h
        · exact oct_oks hy x h
      have hll : (arL p b ++ arL q b).length = 8 + 8 := by rw [List.length_append, arL_len, arL_len]
      have HH16 := hull16 p q b
      clear HV2' HOp HRp HN1 HN2 b3 b4 b5 b6 hz hy hs0 HS
      generalize hullV (strL p q b) = H2 at *
      have HW := Lib.hid (HWa.out.since (Since.rfl_ wa).drew)
      have hv2a := Lib.hid (hv2.out.since (Since.rfl_ wa).drew)
      have hv2 := hv2a
      obtain ⟨⟨a0, a1⟩, c0, c1⟩ := HW.out.cells
      rw [cellDrew] at a0 a1 c0 c1
      obtain ⟨i0, hi, hz0, hz1, hz2⟩ := info_parts infoPt
      have HI := Lib.hid hi
      have HZ := Lib.hid (And.intro hz0 (And.intro hz1 hz2))
      have hw2 := HW.out.2.2.lt
      have HX := Lib.hid (Since.rfl_ wa.drew)
      clear hi hz0 hz1 hz2 HWa
      obtain ⟨N, hN⟩ : ∃ N, N = wa.drew.heap.size := ⟨_, rfl⟩
      have hNw : N ≤ wa.drew.heap.size := by omega
      have hNN : w.heap.size + 2 ≤ N := by omega
      have HNN := Lib.hid hN
      clear hN
      go_upto_region 14 with fail
      go_region_held3 (fun w' => w'.cell? ⟨w.heap.size, 0, none⟩ = some (.int .i64 p.1) ∧ w'.cell? ⟨w.heap.size, 1, none⟩ = some (.int .i64 p.2) ∧ w'.cell? ⟨w.heap.size + 1, 0, none⟩ = some (.int .i64 q.1) ∧ w'.cell? ⟨w.heap.size + 1, 1, none⟩ = some (.int .i64 q.2)) ((simp (maxDischargeDepth := 9) [*, World.cell?_alloc_some, cSetO, cellDrew])) (first
        | (go_at_call 47; (with_reducible refine (HAp.out _).mono ?_); rintro e w5 ⟨vp, rfl, ho, hs⟩; have HRp := Lib.hid (ho.mono (base' := N) hNw); (first | have HRq := Lib.hid (own_since hs HRq.out) | skip); have HW := Lib.hid (HW.out.since hs); have HX := Lib.hid (HX.out.trans hs); have hNw := Nat.le_trans hNw hs.size; have hv2 := Lib.hid (hv2.out.since hs); obtain ⟨⟨a0, a1⟩, c0, c1⟩ := HW.out.cells; obtain ⟨gp, cp, rfl⟩ := own_some ho (by decide); clear ho hs)
        | (go_at_call 47; (with_reducible refine (HAq.out _).mono ?_); rintro e w5 ⟨vq, rfl, ho, hs⟩; have HRq := Lib.hid (ho.mono (base' := N) hNw); (first | have HRp := Lib.hid (own_since hs HRp.out) | skip); have HW := Lib.hid (HW.out.since hs); have HX := Lib.hid (HX.out.trans hs); have hNw := Nat.le_trans hNw hs.size; have hv2 := Lib.hid (hv2.out.since hs); obtain ⟨⟨a0, a1⟩, c0, c1⟩ := HW.out.cells; obtain ⟨gq, cq, rfl⟩ := own_some ho (by decide); clear ho hs)
        | (go_at_call 46; (with_reducible refine (Wrapped_any _ (arL p b ++ arL q b) H2 _ (HRs9.out) (by rw [hll]; decide) HOs.out HRs.out HH16).mono ?_); rintro e w8 ⟨vh, rfl, ho, hs⟩; have hv4 := Lib.hid (own_pts ho (Nat.le_refl _)).pts; have HW := Lib.hid (HW.out.since hs); have hv2 := Lib.hid (hv2.out.since hs); obtain ⟨⟨a0, a1⟩, c0, c1⟩ := HW.out.cells; clear ho hs)
        | (go_at_call 45; (with_reducible refine (Equal_yes _ _ _ _ (Nat.le_trans HH16 (by decide)) hv2.out hv4.out).mono ?_); rintro e w9 ⟨rfl, hs⟩; have HW := Lib.hid (HW.out.since hs); obtain ⟨⟨a0, a1⟩, c0, c1⟩ := HW.out.cells; clear hs)
        | (refine step_app_g _ (by rfl) _ _ _ (by rfl) N 23 i0 _ 2 16 Try.underlying32 HI.out HZ.out.1 HZ.out.2.1 HZ.out.2.2 rfl (by decide) _ 8 _ (by rfl) HRp.out _ 8 _ _ (by rfl) (by rw [flatP_len, arL_len]) (HRq.out.cells rfl) (ptV_ones _) (by decide) (by unfold maxLen; decide) (by decide) hNw _ rfl ?_; intro ga ca w7 hown hgrow _ _; have HW := Lib.hid (HW.out.app (HRp.out.mono hNN) hgrow); have hs7 := Since.app HX.out (HRp.out.mono (Nat.le_of_eq HNN.out.symm)) hgrow; have hv2 := Lib.hid (hv2a.out.since hs7); obtain ⟨⟨a0, a1⟩, c0, c1⟩ := HW.out.cells; have HRs9 : Hid (PtsS w7 (.slice (some ⟨ga, 0, none⟩) (8 + 8) ca) (arL p b ++ arL q b)) := (by have h9 : w7.ownsRow N 23 2 (.slice (some ⟨ga, 0, none⟩) (8 + 8) ca) (8 + 8) ((arL p b ++ arL q b).flatMap ptV) := (by rw [List.flatMap_append]; exact hown); exact (own_ptsB h9 hll.symm (h9.lt ga rfl).2).pts); clear hown hgrow hs7))
      go_wp2_with fail
      go_ret
      exact ⟨rfl, HW.out.1⟩
    · have hs0 : strE p q b ≠ 0 := by rw [HS.out]; exact hy
      have e2 : v2 = .slice none 0 0 := HN2.out hs0
      subst e2
      rw [HS.out]
      have hb0 : (octE q b != 0) = true := by simpa [bne] using hy
      clear HN1 HN2 HV2' hs0 HS HRp HOp
      generalize octE q b = n at *
      go_wp2_with fail
      go_ret
      exact ⟨rfl, HWa.out.1⟩
  · have HS : Hid (strE p q b = octE p b) := by show _ = _; unfold strE; rw [if_neg hz]
    have e1 : v1 = .slice none 0 0 := HN1.out hz
    have e2 : v2 = .slice none 0 0 := HN2.out (by rw [HS.out]; exact hz)
    subst e1 e2
    rw [HS.out]
    have hb0 : (octE p b != 0) = true := by simpa [bne] using hz
    clear HN1 HN2 HV2' HV1 HS
    generalize octE p b = n at *
    go_wp2_with fail
    go_ret
    exact ⟨rfl, HW6.out.1⟩
theorem Corners_walkB (px py qx qy b : Int) (w : World) (_ : -9223372036854775808 ≤ b ∧ b ≤ 9223372036854775807) :
    Calls Try.prog 10 #[.agg #[.int .i64 px, .int .i64 py], .agg #[.int .i64 qx, .int .i64 qy], .int .i64 b] w fun e w' => e = .returned (.bool true) ∧ Since w w' := Corners_walk px py qx qy b w
end Go.Proofs.Ytcckekdfeeghaaa
