/-
  slices.Equal over segments; the fact builds() of terrlaw3: a triangle; The walk of terrref3.SegsOf; The walk of arr's Build for no segments; The subdivision of a triangle: six half-edges, two faces; The walk of the law ArrLines: the segments of a subdivision, read by two roads; The arguments of laws, read as data: lists of numbers, points, boxes, numbers. Conditions: those that each lemma names.
-/
import Derived.Test.YtdnccjdlmepafaaK23
import Derived.Test.YtdnccjdlmepafaaK09
import Derived.Test.YtdnccjdlmepafaaRows
import Derived.Test.YtdnccjdlmepafaaK02
import Derived.ProofKit
import Derived.OpenShut
import Derived.ChangeOld
import Derived.SizedLaws
import Derived.Lib.SmallJoins
import Derived.Deep.SlicePairs
section
namespace Go.Proofs.Ytdnccjdlmepafaa
set_option linter.unusedSimpArgs false
set_option linter.unusedVariables false
open Go.RowKit Go.BigFrame
attribute [local go_sem ↓] neqSgP
/-- v reads as the segments l. -/
def RdSg (w : World) (v : Value) (l : List Sg) : Prop :=
  ∃ a c, v = .slice a l.length c ∧ ∀ i, i < l.length → ∃ g o : Nat, a = some ⟨g, o, none⟩ ∧ w.cell? ⟨g, o + i * 4, none⟩ = some (.int .i64 (sgAt l i).1.1) ∧ w.cell? ⟨g, o + i * 4 + 1, none⟩ = some (.int .i64 (sgAt l i).1.2) ∧ w.cell? ⟨g, o + i * 4 + 2, none⟩ = some (.int .i64 (sgAt l i).2.1) ∧ w.cell? ⟨g, o + i * 4 + 3, none⟩ = some (.int .i64 (sgAt l i).2.2)
theorem RdSg.since {w w' : World} {v : Value} {l : List Sg} (h : RdSg w v l) (k : Since w w') : RdSg w' v l := by
  obtain ⟨a, c, hv, h⟩ := h
  refine ⟨a, c, hv, fun i hi => ?_⟩
  obtain ⟨g, o, ha, h1, h2, h3, h4⟩ := h i hi
  exact ⟨g, o, ha, keepC k _ _ h1, keepC k _ _ h2, keepC k _ _ h3, keepC k _ _ h4⟩
theorem own_rdSg {w : World} {B : Nat} {v : Value} {l : List Sg} (h : w.ownsRow B 35 4 v l.length (l.flatMap sgV)) : RdSg w v l := by
  obtain ⟨a, c, e⟩ := own_slice h
  refine ⟨a, c, e, fun i hi => ?_⟩
  obtain ⟨g, c', e'⟩ := own_gc h (by omega)
  rw [e] at e'
  injection e' with e1 _ e3
  subst e1 e3
  rw [e] at h
  have ee : sgAt l i = l[i] := by simp [sgAt, List.getD, hi]
  rw [ee]
  refine ⟨g, 0, rfl, ?_, ?_, ?_, ?_⟩ <;> rw [Nat.zero_add]
  · rw [h.cellAt _ (by omega)]; have := flat_at sgV_len l i 0 hi (by decide); simpa [sgV] using this
  · rw [h.cellAt _ (by omega), flat_at sgV_len l i 1 hi (by decide)]; rfl
  · rw [h.cellAt _ (by omega), flat_at sgV_len l i 2 hi (by decide)]; rfl
  · rw [h.cellAt _ (by omega), flat_at sgV_len l i 3 hi (by decide)]; rfl
set_option maxRecDepth 100000 in
set_option maxHeartbeats 4000000 in
theorem EqualSg_any (v v' : Value) (l l' : List Sg) (w : World) (hl : l.length ≤ 1000000000000000) (hl' : l'.length ≤ 1000000000000000) (hv : RdSg w v l) (hv' : RdSg w v' l') :
    Calls Try.prog 7 #[v, v'] w fun e w' => e = .returned (.bool (decide (l = l'))) ∧ Since w w' := by
  obtain ⟨a, c, rfl, hc⟩ := hv
  obtain ⟨a', c', rfl, hc'⟩ := hv'
  have HV := Lib.hid hc
  have HV' := Lib.hid hc'
  obtain ⟨n, HN⟩ : ∃ n, Hid (n = l.length) := ⟨_, rfl⟩
  obtain ⟨n', HN'⟩ : ∃ n, Hid (n = l'.length) := ⟨_, rfl⟩
  rw [← HN.out] at hl ⊢
  rw [← HN'.out] at hl' ⊢
  clear hc hc'
  go_enter Try.func7, Try.ntmps7
  by_cases hnn : n = n'
  · have hb : ((n : Int) == (n' : Int)) = true := by rw [hnn]; simp
    have hb' : ((n : Int) != (n' : Int)) = false := by rw [hnn]; simp
    have HLL : Hid (l.length = l'.length) := by show _ = _; rw [← HN.out, ← HN'.out, hnn]
    clear HN'
    subst hnn
    go_wp2_with fail
    go_loopw [13] (fun v wr => ∃ k : Nat, k ≤ n ∧ v = .int .i64 k ∧ Hid (Since w wr) ∧ Hid (∀ i, i < k → sgAt l i = sgAt l' i)) (fun v _ => n - (intOf v).toNat)
    case atStart => exact ⟨0, Nat.zero_le _, rfl, Since.rfl_ w, fun i hi => absurd hi (Nat.not_lt_zero _)⟩
    case round =>
      obtain ⟨k, hk, rfl, HS, HE⟩ := hrel
      rcases Nat.lt_or_ge k n with hlt | hge
      · obtain ⟨g, o, rfl, c0, c1, c2, c3⟩ := HV.out k (by rw [← HN.out]; exact hlt)
        obtain ⟨g', o', rfl, d0, d1, d2, d3⟩ := HV'.out k (by rw [← HLL.out, ← HN.out]; exact hlt)
        replace c0 := keepC HS.out _ _ c0
        replace c1 := keepC HS.out _ _ c1
        replace c2 := keepC HS.out _ _ c2
        replace c3 := keepC HS.out _ _ c3
        replace d0 := keepC HS.out _ _ d0
        replace d1 := keepC HS.out _ _ d1
        replace d2 := keepC HS.out _ _ d2
        replace d3 := keepC HS.out _ _ d3
        have i1 : (0 : Int) ≤ (k : Int) := by omega
        have i2 : (k : Int) < (n : Int) := by omega
        go_upto_region 6 with fail
        refine region_cls (fun w' => w'.cell? ⟨g, o + k * 4, none⟩ = some (.int .i64 (sgAt l k).1.1) ∧ w'.cell? ⟨g, o + k * 4 + 1, none⟩ = some (.int .i64 (sgAt l k).1.2) ∧ w'.cell? ⟨g, o + k * 4 + 2, none⟩ = some (.int .i64 (sgAt l k).2.1) ∧ w'.cell? ⟨g, o + k * 4 + 3, none⟩ = some (.int .i64 (sgAt l k).2.2) ∧ w'.cell? ⟨g', o' + k * 4, none⟩ = some (.int .i64 (sgAt l' k).1.1) ∧ w'.cell? ⟨g', o' + k * 4 + 1, none⟩ = some (.int .i64 (sgAt l' k).1.2) ∧ w'.cell? ⟨g', o' + k * 4 + 2, none⟩ = some (.int .i64 (sgAt l' k).2.1) ∧ w'.cell? ⟨g', o' + k * 4 + 3, none⟩ = some (.int .i64 (sgAt l' k).2.2) ∧ Since wr w') (by kernel_rfl) (by kernel_rfl) (by (repeat' refine And.intro ?_ ?_) <;> first | (simp (maxDischargeDepth := 9) [c0, c1, c2, c3, d0, d1, d2, d3,  cSetS, cSetO, cellNew, World.cell?_alloc_some, cellDrew]; done) | (repeat (first | with_reducible assumption | with_reducible exact Since.rfl_ _ | refine Since.setCell ?_ (by (try dsimp only); omega) _ | refine Since.alloc ?_ _ | refine Since.drew ?_))) ?_
        repeat (go_big_quiet_step ((first | (intro hC; have hC := hC.out; (try simp only [hC, Result.andThen]); first | exact ⟨True.intro, rfl⟩ | exact ⟨rfl, rfl⟩ | rfl))))
        refine cls_end ?_
        clear c0 c1 c2 c3 d0 d1 d2 d3
        rintro w1 ⟨-, -, -, -, -, -, -, -, hs⟩
        have HS1 := Lib.hid (HS.out.trans hs)
        clear hs HS
        by_cases he : sgAt l k = sgAt l' k
        · have hx : eqG (sgAt l k) (sgAt l' k) = true := by unfold eqG; rw [decide_eq_true_eq]; exact he
          have HE2 : Hid (∀ i, i < k + 1 → sgAt l i = sgAt l' i) := fun i hi => by
            rcases Nat.lt_or_ge i k with q | q
            · exact HE.out i q
            · obtain rfl : i = k := by omega
              exact he
          clear he
          rw [hx]
          go_wp2_with fail
          go_roundw
          case rel => exact ⟨k + 1, by omega, by go_num, HS1, HE2⟩
          case measure => simp [intOf]; omega
        · have hx : eqG (sgAt l k) (sgAt l' k) = false := by unfold eqG; rw [decide_eq_false_iff_not]; exact he
          rw [hx]
          go_wp2_with fail
          go_ret
          exact ⟨by rw [decide_eq_false (fun e => he (by rw [e]))]; rfl, HS1.out⟩
      · obtain rfl : n = k := by omega
        go_wp2_with fail
        go_ret
        refine ⟨?_, HS.out⟩
        rw [decide_eq_true (List.ext_getElem HLL.out (fun i h1 h2 => by
          have := HE.out i (by rw [HN.out]; exact h1)
          simpa [sgAt, List.getD, h1, h2] using this))]
        rfl
  · have hb : ((n : Int) == (n' : Int)) = false := by rw [beq_eq_false_iff_ne]; omega
    have hb' : ((n : Int) != (n' : Int)) = true := by rw [bne_iff_ne]; omega
    go_wp2_with fail
    go_ret
    exact ⟨by rw [decide_eq_false (fun e => hnn (by rw [HN.out, HN'.out, e]))]; rfl, Since.rfl_ w⟩
end Go.Proofs.Ytdnccjdlmepafaa
end
section
namespace Go.Proofs.Ytdnccjdlmepafaa
set_option linter.unusedSimpArgs false
set_option linter.unusedVariables false
open Go.RowKit Go.BigFrame
attribute [local go_sem ↓] eqPt neqPt
def sgC (p q : Pt2) : Nat → Array Value
  | 0 => #[.int .i64 0, .int .i64 0, .int .i64 0, .int .i64 0]
  | 1 => #[.int .i64 p.1, .int .i64 p.2, .int .i64 0, .int .i64 0]
  | _ => #[.int .i64 p.1, .int .i64 p.2, .int .i64 q.1, .int .i64 q.2]
def sgJ : Nat → Int
  | 0 => 0
  | 1 => 1
  | _ => 2
theorem own_far2 {w : World} {B B2 : Nat} {t : TypeId} {k n : Nat} {v : Value} {xs : List Value} (hne : ∀ ad, v.ownBlock = some ad → ad < B2) (h : w.ownsRow B t k v n xs) (i j : Nat) (a b : Value) : ((w.setCell ⟨B2, i, none⟩ a).setCell ⟨B2, j, none⟩ b).ownsRow B t k v n xs :=
  own_far (own_far h (p := ⟨B2, i, none⟩) (fun e => by have := hne B2 e.symm; omega) a) (p := ⟨B2, j, none⟩) (fun e => by have := hne B2 e.symm; omega) b
theorem linB_bad {P : List Pt2} {H : List Hf} {k : Nat} (hk : k < H.length / 2) (h : ¬ linB P H k) : ¬ (∀ i, i < H.length / 2 → linB P H i) := fun q => h (q k hk)
set_option maxRecDepth 100000 in
set_option maxHeartbeats 4000000 in
theorem SegsOf_any (vP vH vF : Value) (P : List Pt2) (H : List Hf) (F : List Int) (w : World) (hm : MapR w vP vH vF P H F) (hH : H.length ≤ 4398046510976) (hP : P.length ≤ 1000000000000000) :
    Calls Try.prog 5 #[.agg #[vP, vH, vF]] w fun e w' => LinR w w' P H e ∧ Since w w' := by
  obtain ⟨i0, hi0, hz0, hz1, hz3⟩ := info_parts infoSg
  have HI := Lib.hid (And.intro hi0 (And.intro hz0 (And.intro hz1 hz3)))
  obtain ⟨aP, cP, hvP, hpP⟩ := hm.p
  obtain ⟨aH, cH, hvH, hpH⟩ := hm.h
  obtain ⟨aF, cF, hvF, -⟩ := hm.f
  subst hvP hvH hvF
  have HPP := Lib.hid hpP
  have HPH := Lib.hid hpH
  clear hm hpP hpH hi0 hz0 hz1 hz3
  obtain ⟨nP, HNP⟩ : ∃ n, Hid (n = P.length) := ⟨_, rfl⟩
  obtain ⟨nH, HNH⟩ : ∃ n, Hid (n = H.length) := ⟨_, rfl⟩
  obtain ⟨nF, HNF⟩ : ∃ n, Hid (n = F.length) := ⟨_, rfl⟩
  obtain ⟨nE, HNE⟩ : ∃ n, Hid (n = nH / 2) := ⟨_, rfl⟩
  have ht : Int.tdiv (nH : Int) 2 = (nE : Int) := by rw [HNE.out]; simp
  have hwE : wrap64 (nE : Int) = (nE : Int) := wrap_id (by have := HNE.out; rw [← HNH.out] at hH; omega)
  rw [← HNH.out] at hH
  rw [← HNP.out] at hP
  rw [← HNP.out, ← HNH.out, ← HNF.out]
  obtain ⟨B, HB⟩ : ∃ B, Hid (B = w.heap.size) := ⟨_, rfl⟩
  go_enter Try.func5, Try.ntmps5
  go_upto_region 1 with fail
  rw [← HB.out]
  refine atW (fun w' => Hid (Since w w' ∧ Blk w' B 26 #[.slice aP nP cP, .slice aH nH cH, .slice aF nF cF])) ⟨(Since.rfl_ w).alloc _, Blk.new' HB.out⟩ ?_
  rintro w1 HW1
  have m1 : w1.cell? ⟨B, 1, none⟩ = some (.slice aH nH cH) := HW1.out.2.cell 1
  go_wp2_with fail
  clear m1
  try rw [ht]
  try rw [hwE]
  clear ht hwE
  go_loopg [4, 13] nE (fun gk v4 v13 wr => ∃ k : Nat, k + gk = nE ∧ v13 = .int .i64 k ∧ Hid (Since w wr) ∧ Hid (Blk wr B 26 #[.slice aP nP cP, .slice aH nH cH, .slice aF nF cF]) ∧ Hid (wr.ownsRow (B + 1) 35 4 v4 k ((linK P H k).flatMap sgV)) ∧ Hid (∀ i, i < k → linB P H i))
  case atStart => exact ⟨0, by omega, by go_num, HW1.out.1, HW1.out.2, World.ownsRow_nil _ _ _ _, fun i hi => absurd hi (Nat.not_lt_zero _)⟩
  case round =>
    clear HW1
    obtain ⟨k, hk, rfl, HS, HBM, HO, HG⟩ := hrel
    obtain ⟨w2, rfl⟩ : ∃ w2, w2 = wr := ⟨_, rfl⟩
    rcases Nat.lt_or_ge k nE with hlt | hge
    · have hz : decide ((k : Int) < (nE : Int)) = true := by rw [decide_eq_true_eq]; omega
      obtain ⟨h, HHK⟩ : ∃ h : Nat, Hid (h = 2 * k) := ⟨_, rfl⟩
      have hh1 : h + 1 < nH := by have := HHK.out; have := HNE.out; omega
      have i1 : (0 : Int) ≤ (h : Int) := by omega
      have i2 : (h : Int) < (nH : Int) := by omega
      have i3 : (0 : Int) ≤ (h : Int) + 1 := by omega
      have i4 : (h : Int) + 1 < (nH : Int) := by omega
      have HWm : Hid (wrap64 (2 * (k : Int)) = (h : Int)) := (wrap_id (x := 2 * (k : Int)) (by have := HHK.out; omega)).trans (by have := HHK.out; omega)
      have HW0 : Hid (wrap64 (h : Int) = (h : Int)) := wrap_id (by omega)
      have HWw : Hid (wrap64 ((h : Int) + 1) = (h : Int) + 1) := wrap_id (by omega)
      obtain ⟨g, o, haH0, e1, -⟩ := HPH.out h (by rw [← HNH.out]; exact Nat.lt_of_succ_lt hh1)
      obtain ⟨g', o', e', e2, -⟩ := HPH.out (h + 1) (by rw [← HNH.out]; exact hh1)
      have haH := Lib.hid haH0
      clear haH0
      rw [haH.out] at e'
      injection e' with e'
      injection e' with q1 q2
      subst q1 q2
      obtain ⟨x, hx⟩ : ∃ x, Hid (x = (hAt H h).1) := ⟨_, rfl⟩
      obtain ⟨y, hy⟩ : ∃ y, Hid (y = (hAt H (h + 1)).1) := ⟨_, rfl⟩
      rw [← hx.out] at e1
      rw [← hy.out] at e2
      have HBAD : Hid (¬ (vtxB P x ∧ vtxB P y) → ¬ (∀ i, i < H.length / 2 → linB P H i)) := fun hb => linB_bad (k := k) (by rw [← HNH.out, ← HNE.out]; exact hlt) (fun q => hb (by unfold linB at q; rw [← HHK.out, ← hx.out, ← hy.out] at q; exact q))
      go_upto_region 6 with fail
      obtain ⟨B2, HB2⟩ : ∃ b, Hid (b = w2.heap.size) := ⟨_, rfl⟩
      rw [← HB2.out]
      have hBB : B < B2 := by rw [HB2.out]; exact HBM.out.lt
      have hgB : g < B2 := by rw [HB2.out]; exact World.block_lt_of_cell? w2 _ (keepC HS.out _ _ e1)
      have hwB : w.heap.size ≤ B2 := by rw [HB2.out]; exact HS.out.size
      obtain ⟨p, hp⟩ : ∃ p, Hid (p = pAt P x.toNat) := ⟨_, rfl⟩
      obtain ⟨q, hq⟩ : ∃ q, Hid (q = pAt P y.toNat) := ⟨_, rfl⟩
      have HO2 : Hid (∀ ad, u4.ownBlock = some ad → ad < B2) := fun ad e => by rw [HB2.out]; exact (HO.out.lt ad e).2
      refine atW (fun w' => Hid (Since w w' ∧ Blk w' B 26 #[.slice aP nP cP, .slice (some ⟨g, o, none⟩) nH cH, .slice aF nF cF] ∧ w'.ownsRow (B + 1) 35 4 u4 k ((linK P H k).flatMap sgV) ∧ Blk w' B2 35 (sgC p q 0) ∧ B2 < w'.heap.size)) ⟨HS.out.alloc _, by rw [← haH.out]; exact HBM.out.alloc _, own_since ((Since.rfl_ w2).alloc _) HO.out, Blk.new' HB2.out, by rw [World.size_alloc, HB2.out]; omega⟩ ?_
      clear HS HBM HO
      rintro w3 HW3
      go_wp2_with fail
      go_loopg [16] 2 (fun gj v16 wr => ∃ j, j + gj = 2 ∧ v16 = .int .i64 (sgJ j) ∧ (fun w' => Hid (Since w w' ∧ Blk w' B 26 #[.slice aP nP cP, .slice (some ⟨g, o, none⟩) nH cH, .slice aF nF cF] ∧ w'.ownsRow (B + 1) 35 4 u4 k ((linK P H k).flatMap sgV) ∧ Blk w' B2 35 (sgC p q j) ∧ B2 < w'.heap.size)) wr ∧ Hid (0 < j → vtxB P x) ∧ Hid (1 < j → vtxB P y))
      case atStart => exact ⟨0, by omega, by go_num, HW3, fun h => absurd h (by omega), fun h => absurd h (by omega)⟩
      case round =>
        clear HW3
        obtain ⟨j, hj, hv, HW3, HV1, HV2⟩ := hrel
        obtain ⟨w3, rfl⟩ : ∃ w3, w3 = wr := ⟨_, rfl⟩
        rcases j with _ | _ | _ | j
        · skip
          replace hv := hv.trans (show Value.int .i64 (sgJ 0) = .int .i64 0 from rfl)
          subst hv
          have m0 : w3.cell? ⟨B, 0, none⟩ = some (.slice aP nP cP) := HW3.out.2.1.cell 0
          have m1 : w3.cell? ⟨B, 1, none⟩ = some (.slice (some ⟨g, o, none⟩) nH cH) := HW3.out.2.1.cell 1
          have f1 := keepC HW3.out.1 _ _ e1
          have hwm := HWm.out
          have hw0 := HW0.out
          go_upto_region 10 with fail
          clear hwm hw0 f1
          by_cases hx0 : x < 0
          · have b1 : decide (x < 0) = true := decide_eq_true hx0
            go_wp2_with fail
            go_ret2
            exact ⟨.inr ⟨HBAD.out (fun k => by have := k.1.1; omega), rfl⟩, HW3.out.1⟩
          have b1 : decide (x < 0) = false := decide_eq_false hx0
          by_cases hx1 : (nP : Int) ≤ x
          · have b2 : decide ((nP : Int) ≤ x) = true := decide_eq_true hx1
            go_wp2_with fail
            go_ret2
            exact ⟨.inr ⟨HBAD.out (fun k => by have := k.1.2; have := HNP.out; omega), rfl⟩, HW3.out.1⟩
          have b2 : decide ((nP : Int) ≤ x) = false := decide_eq_false hx1
          obtain ⟨u, hxu⟩ : ∃ u : Nat, Hid (x = (u : Int)) := ⟨x.toNat, by show x = _; omega⟩
          have HVX : Hid (vtxB P x) := ⟨by omega, by have := HNP.out; omega⟩
          rw [hxu.out] at b1 b2 hx0 hx1 ⊢
          have hu : u < P.length := by rw [← HNP.out]; omega
          obtain ⟨gP, oP, haP0, pu0, pu1⟩ := HPP.out u hu
          have hpu : pAt P u = p := by rw [hp.out, hxu.out, Int.toNat_natCast]
          rw [hpu] at pu0 pu1
          have pu0 := keepC HW3.out.1 _ _ pu0
          have pu1 := keepC HW3.out.1 _ _ pu1
          rw [haP0] at m0
          clear haP0
          have u1 : (0 : Int) ≤ (u : Int) := by omega
          have u2 : (u : Int) < (nP : Int) := by omega
          have c0 : w3.cell? ⟨B2, 0, none⟩ = some (.int .i64 0) := HW3.out.2.2.2.1.cell 0
          have c1 : w3.cell? ⟨B2, 1, none⟩ = some (.int .i64 0) := HW3.out.2.2.2.1.cell 1
          have f0 := HW3.out.2.2.2.1.frozen 0
          have f1 := HW3.out.2.2.2.1.frozen 1
          have HW4 : (fun w' => Hid (Since w w' ∧ Blk w' B 26 #[.slice aP nP cP, .slice (some ⟨g, o, none⟩) nH cH, .slice aF nF cF] ∧ w'.ownsRow (B + 1) 35 4 u4 k ((linK P H k).flatMap sgV) ∧ Blk w' B2 35 (sgC p q 1) ∧ B2 < w'.heap.size)) ((w3.setCell ⟨B2, 0, none⟩ (.int .i64 p.1)).setCell ⟨B2, 1, none⟩ (.int .i64 p.2)) :=
            ⟨(HW3.out.1.setCell (p := ⟨B2, 0, none⟩) hwB _).setCell (p := ⟨B2, 1, none⟩) hwB _, (HW3.out.2.1.far (by dsimp only; omega) _).far (by dsimp only; omega) _,
              own_far2 HO2.out HW3.out.2.2.1 _ _ _ _, (HW3.out.2.2.2.1.set_ 0 _).set_ 1 _, by simpa using HW3.out.2.2.2.2⟩
          go_upto_region 13 with fail
          refine atW (fun w' => Hid (Since w w' ∧ Blk w' B 26 #[.slice aP nP cP, .slice (some ⟨g, o, none⟩) nH cH, .slice aF nF cF] ∧ w'.ownsRow (B + 1) 35 4 u4 k ((linK P H k).flatMap sgV) ∧ Blk w' B2 35 (sgC p q 1) ∧ B2 < w'.heap.size)) HW4 ?_
          clear HW4 c0 c1 f0 f1 b1 b2 u1 u2 pu0 pu1 m0 m1 hx0 hx1 HW3 hu
          rintro w4 HW4
          go_wp2_with fail
          go_roundg 1
          case measure => omega
          case rel => exact ⟨1, by omega, rfl, HW4, fun _ => HVX.out, fun h => absurd h (by omega)⟩
        · skip
          replace hv := hv.trans (show Value.int .i64 (sgJ 1) = .int .i64 1 from rfl)
          subst hv
          have m0 : w3.cell? ⟨B, 0, none⟩ = some (.slice aP nP cP) := HW3.out.2.1.cell 0
          have m1 : w3.cell? ⟨B, 1, none⟩ = some (.slice (some ⟨g, o, none⟩) nH cH) := HW3.out.2.1.cell 1
          have f1 := keepC HW3.out.1 _ _ e2
          have hwm := HWm.out
          have hw0 := HWw.out
          go_upto_region 10 with fail
          clear hwm hw0 f1
          by_cases hx0 : y < 0
          · have b1 : decide (y < 0) = true := decide_eq_true hx0
            go_wp2_with fail
            go_ret2
            exact ⟨.inr ⟨HBAD.out (fun k => by have := k.2.1; omega), rfl⟩, HW3.out.1⟩
          have b1 : decide (y < 0) = false := decide_eq_false hx0
          by_cases hx1 : (nP : Int) ≤ y
          · have b2 : decide ((nP : Int) ≤ y) = true := decide_eq_true hx1
            go_wp2_with fail
            go_ret2
            exact ⟨.inr ⟨HBAD.out (fun k => by have := k.2.2; have := HNP.out; omega), rfl⟩, HW3.out.1⟩
          have b2 : decide ((nP : Int) ≤ y) = false := decide_eq_false hx1
          obtain ⟨u, hxu⟩ : ∃ u : Nat, Hid (y = (u : Int)) := ⟨y.toNat, by show y = _; omega⟩
          have HVX : Hid (vtxB P y) := ⟨by omega, by have := HNP.out; omega⟩
          rw [hxu.out] at b1 b2 hx0 hx1 ⊢
          have hu : u < P.length := by rw [← HNP.out]; omega
          obtain ⟨gP, oP, haP0, pu0, pu1⟩ := HPP.out u hu
          have hpu : pAt P u = q := by rw [hq.out, hxu.out, Int.toNat_natCast]
          rw [hpu] at pu0 pu1
          have pu0 := keepC HW3.out.1 _ _ pu0
          have pu1 := keepC HW3.out.1 _ _ pu1
          rw [haP0] at m0
          clear haP0
          have u1 : (0 : Int) ≤ (u : Int) := by omega
          have u2 : (u : Int) < (nP : Int) := by omega
          have c0 : w3.cell? ⟨B2, 2, none⟩ = some (.int .i64 0) := HW3.out.2.2.2.1.cell 2
          have c1 : w3.cell? ⟨B2, 3, none⟩ = some (.int .i64 0) := HW3.out.2.2.2.1.cell 3
          have f0 := HW3.out.2.2.2.1.frozen 2
          have f1 := HW3.out.2.2.2.1.frozen 3
          have HW4 : (fun w' => Hid (Since w w' ∧ Blk w' B 26 #[.slice aP nP cP, .slice (some ⟨g, o, none⟩) nH cH, .slice aF nF cF] ∧ w'.ownsRow (B + 1) 35 4 u4 k ((linK P H k).flatMap sgV) ∧ Blk w' B2 35 (sgC p q 2) ∧ B2 < w'.heap.size)) ((w3.setCell ⟨B2, 2, none⟩ (.int .i64 q.1)).setCell ⟨B2, 3, none⟩ (.int .i64 q.2)) :=
            ⟨(HW3.out.1.setCell (p := ⟨B2, 2, none⟩) hwB _).setCell (p := ⟨B2, 3, none⟩) hwB _, (HW3.out.2.1.far (by dsimp only; omega) _).far (by dsimp only; omega) _,
              own_far2 HO2.out HW3.out.2.2.1 _ _ _ _, (HW3.out.2.2.2.1.set_ 2 _).set_ 3 _, by simpa using HW3.out.2.2.2.2⟩
          go_upto_region 13 with fail
          refine atW (fun w' => Hid (Since w w' ∧ Blk w' B 26 #[.slice aP nP cP, .slice (some ⟨g, o, none⟩) nH cH, .slice aF nF cF] ∧ w'.ownsRow (B + 1) 35 4 u4 k ((linK P H k).flatMap sgV) ∧ Blk w' B2 35 (sgC p q 2) ∧ B2 < w'.heap.size)) HW4 ?_
          clear HW4 c0 c1 f0 f1 b1 b2 u1 u2 pu0 pu1 m0 m1 hx0 hx1 HW3 hu
          rintro w4 HW4
          go_wp2_with fail
          go_roundg 0
          case measure => omega
          case rel => exact ⟨2, by omega, rfl, HW4, fun _ => HV1.out (by omega), fun _ => HVX.out⟩
        · replace hv := hv.trans (show Value.int .i64 (sgJ 2) = .int .i64 2 from rfl)
          subst hv
          have HVX : Hid (vtxB P x) := HV1.out (by omega)
          have HVY : Hid (vtxB P y) := HV2.out (by omega)
          obtain ⟨w5, rfl⟩ : ∃ w5, w5 = w3 := ⟨_, rfl⟩
          have HLK : Hid (linK P H (k + 1) = linK P H k ++ [(p, q)]) := by
            show _ = _
            rw [linK_succ]
            unfold linV
            rw [← HHK.out, ← hx.out, ← hy.out, hp.out, hq.out]
          have HLB : Hid (linB P H k) := by
            show linB _ _ _
            unfold linB
            rw [← HHK.out, ← hx.out, ← hy.out]
            exact ⟨HVX.out, HVY.out⟩
          have c0 : w5.cell? ⟨B2, 0, none⟩ = some (.int .i64 p.1) := HW3.out.2.2.2.1.cell 0
          have c1 : w5.cell? ⟨B2, 1, none⟩ = some (.int .i64 p.2) := HW3.out.2.2.2.1.cell 1
          have c2 : w5.cell? ⟨B2, 2, none⟩ = some (.int .i64 q.1) := HW3.out.2.2.2.1.cell 2
          have c3 : w5.cell? ⟨B2, 3, none⟩ = some (.int .i64 q.2) := HW3.out.2.2.2.1.cell 3
          have hkn : k ≤ 2199023255488 := by have := HNE.out; omega
          have hB5 : B + 1 ≤ w5.heap.size := by have := HW3.out.2.2.2.2; omega
          go_wp2_with (at_builtin; refine wpList_append_own _ rfl _ _ 27 rfl (B + 1) 35 i0 _ 4 32 Try.underlying27 HI.out.1 HI.out.2.1 HI.out.2.2.1 HI.out.2.2.2 rfl (by decide) _ _ _ rfl (own_since ((Since.rfl_ w5).alloc _) HW3.out.2.2.1) _ _ _ [.int .i64 p.1, .int .i64 p.2, .int .i64 q.1, .int .i64 q.2] rfl rfl (cell4_new _ _ _ _ _ _) (one4 _ _ _ _ _ _ _ _) (by unfold maxLen; omega) (by omega) (by simp only [World.size_alloc]; omega) ?_)
          intro v' w6 hown hgrow _
          clear c0 c1 c2 c3
          have hne2 : ∀ ad, u4.ownBlock = some ad → B + 1 ≤ ad := fun ad e => (HW3.out.2.2.1.lt ad e).1
          have HS6 : Hid (Since w w6) := (HW3.out.1.alloc _).grown hgrow (by have := HW3.out.1.size; rw [World.size_alloc]; omega) fun k hk => by have := hne2 k hk; have := HB.out; omega
          have HB6 : Hid (Blk w6 B 26 #[.slice aP nP cP, .slice aH nH cH, .slice aF nF cF]) := by
            rw [haH.out]
            exact (HW3.out.2.1.alloc _).grown hgrow (fun e => by have := hne2 B e.symm; omega)
          have HO6 : Hid (w6.ownsRow (B + 1) 35 4 v' (k + 1) ((linK P H (k + 1)).flatMap sgV)) := by
            show World.ownsRow _ _ _ _ _ _ _
            rw [HLK.out, List.flatMap_append]
            exact hown
          clear hown hgrow HW3 hne2
          go_wp2_with fail
          go_roundg (nE - (k + 1))
          case measure => omega
          case rel => exact ⟨k + 1, by omega, by go_num, HS6, HB6, HO6, fun i hi => by
            rcases Nat.lt_or_ge i k with q | q
            · exact HG.out i q
            · obtain rfl : i = k := by omega
              exact HLB.out⟩
        · omega
    · obtain rfl : k = nE := by omega
      have hz : decide ((k : Int) < (k : Int)) = false := by rw [decide_eq_false_iff_not]; omega
      have HKH : Hid (k = H.length / 2) := by show _ = _; rw [← HNH.out]; exact HNE.out
      go_wp2_with fail
      go_ret2
      refine ⟨.inl ⟨by rw [← HKH.out]; exact HG.out, _, rfl, ?_⟩, HS.out⟩
      rw [← HKH.out]
      exact HO.out.mono (by rw [HB.out]; omega)
end Go.Proofs.Ytdnccjdlmepafaa
end
section
namespace Go.Proofs.Ytdnccjdlmepafaa
set_option linter.unusedSimpArgs false
set_option linter.unusedVariables false
open Go.RowKit Go.BigFrame Go.Shelf Go.Lib Go.Proofs Go.Maps
attribute [local go_sem ↓] eqPt neqPt
theorem pts_none (p : Option Addr) (cap : Nat) (fv : Value) (w : World) : Calls Try.prog 19 #[.slice p 0 cap, fv] w fun e w' => e = .returned (.tuple #[]) ∧ w' = w :=
  AnyF.slices_SortFunc_none (P := Try.prog) (ρ := sortPt_ren) { sortPt with } p cap fv w
set_option maxRecDepth 100000 in
theorem compact_none (w : World) : Calls Try.prog 20 #[.slice none 0 0] w fun e w' => e = .returned (.slice none 0 0) ∧ w' = w := by
  go_enter Try.func20, Try.ntmps20
  go_wp2_with fail
  go_ret
  exact ⟨rfl, rfl⟩
set_option maxRecDepth 100000 in
set_option maxHeartbeats 1000000 in
theorem repeat_none {w : World} {g : Nat} {x : Int} (hg : Blk w g 3 #[.int .i64 x]) :
    Calls Try.prog 27 #[.slice (some ⟨g, 0, none⟩) 1 1, .int .i64 0] w fun e w' => ∃ g', e = .returned (.slice (some ⟨g', 0, none⟩) 0 0) ∧ Since w w' := by
  have HG := Lib.hid hg
  have HM := Lib.hid (fun w => MulB 1 0 (by omega) (by omega) (by omega) w)
  rw [Nat.mul_zero] at HM
  obtain ⟨i2, hi2, hy0, hy1, hy3⟩ := info_parts infoI
  have HI2 := Lib.hid (And.intro hi2 (And.intro hy0 (And.intro hy1 hy3)))
  have HSZ : Hid ((Try.prog.info? 3).map (·.size) = some 1) := by show _ = _; rw [hi2]; show some i2.size = _; rw [hy1]
  clear hi2 hy0 hy1 hy3
  obtain ⟨B, HB⟩ : ∃ B, Hid (B = w.heap.size) := ⟨_, rfl⟩
  clear hg
  go_enter Try.func27, Try.ntmps27
  go_upto_region 6 with (go_at_call 36; refine (HM.out _).mono ?_; rintro e w' ⟨rfl, rfl⟩)
  go_upto_region 7 with (at_make; refine wpList_make_full _ rfl _ _ 24 rfl w.heap.size 3 i2 _ 1 Try.underlying24 HI2.out.1 HI2.out.2.1 HI2.out.2.2.1 .i64 .i64 _ _ 0 rfl rfl rfl rfl (by rw [HI2.out.2.2.2]; omega) (by unfold maxLen; omega) (Nat.le_refl _) ?_; intro w2 hown hgrow)
  rw [← HB.out] at hown ⊢
  have hs2 : Since w w2 := ⟨hgrow.os, hgrow.tape, hgrow.output, hgrow.size, fun i hi => hgrow.block i hi (by simp)⟩
  have hcp0 := run_copy_cells (P := Try.prog) w2 24 24 3 3 B 0 0 0 ⟨g, 0, none⟩ 1 1 [] Try.underlying24 HSZ.out rfl (fun j v hv => by simp at hv) (fun j hj => by simp at hj) (fun j hj => by simp at hj) (fun v hv => by simp at hv)
  have hcp : (Builtin.copy_ #[24, 24] 3 #[.slice (some ⟨B, 0, none⟩) 0 0, .slice (some ⟨g, 0, none⟩) 1 1]).run Try.prog w2 = .ok (.int .i64 0) w2 := hcp0
  have HS2 := Lib.hid hs2
  clear hcp0 hown hgrow hs2
  go_wp2_with fail
  clear hcp
  go_loopw [8] (fun v wr => v = .int .i64 0 ∧ Hid (Since w wr)) (fun _ _ => 0)
  case atStart => exact ⟨by go_num, HS2⟩
  case round =>
    clear HS2
    obtain ⟨rfl, HS⟩ := hrel
    go_wp2_with fail
    go_ret
    exact ⟨B, rfl, HS.out⟩
/-- A maker without segments. -/
def Mk0 (w : World) (G : Nat) (vF vC vA vO : Value) : Prop := Blk w G 46 #[nilV, nilV, vF, vC, nilV, nilV, vA, vO]
set_option maxRecDepth 100000 in
set_option maxHeartbeats 4000000 in
theorem Begin_nil (a : Option Addr) (c G : Nat) (w0 w : World) (hs0 : Since w0 w) (hG : w0.heap.size ≤ G) (hM : Mk0 w G nilV nilV nilV nilV) :
    Calls Try.prog 11 #[.pointer (some ⟨G, 0, none⟩), .slice a 0 c] w fun e w' => e = .returned (.tuple #[]) ∧ Since w0 w' ∧ ∃ g, Mk0 w' G nilV nilV nilV (.slice (some ⟨g, 0, none⟩) 0 0) := by
  obtain ⟨i2, hi2, hy0, hy1, hy3⟩ := info_parts infoIs
  have HI2 := Lib.hid (And.intro hi2 (And.intro hy0 (And.intro hy1 hy3)))
  clear hi2 hy0 hy1 hy3
  have hGw : G < w.heap.size := Blk.lt hM
  go_enter Try.func11, Try.ntmps11
  go_upto_region 2 with fail
  obtain ⟨Gb, HGb⟩ : ∃ Gb, Gb = w.heap.size := ⟨_, rfl⟩
  rw [← HGb]
  refine atW (fun w' => Hid (Since w0 w') ∧ Hid (Blk w' Gb 43 #[.pointer (some ⟨G, 0, none⟩)]) ∧ Hid (Mk0 w' G nilV nilV nilV nilV)) ⟨hs0.alloc _, Blk.new' HGb, Blk.alloc hM _⟩ ?_
  have hGb : G < Gb := by omega
  clear hs0 hM HGb hGw
  rintro w1 ⟨HS1, HB1, HM1⟩
  go_loopw [16] (fun v wr => v = .int .i64 0 ∧ Hid (Since w0 wr) ∧ Hid (Blk wr Gb 43 #[.pointer (some ⟨G, 0, none⟩)]) ∧ Hid (Mk0 wr G nilV nilV nilV nilV)) (fun _ _ => 0)
  case atStart => exact ⟨by go_num, HS1, HB1, HM1⟩
  case round =>
    clear HS1 HB1 HM1
    obtain ⟨rfl, HS, HB, HM⟩ := hrel
    obtain ⟨w2, rfl⟩ : ∃ w2, w2 = wr := ⟨_, rfl⟩
    have b0 : w2.cell? ⟨Gb, 0, none⟩ = some (.pointer (some ⟨G, 0, none⟩)) := HB.out.cell 0
    have m0 : w2.cell? ⟨G, 0, none⟩ = some (.slice none 0 0) := Blk.cell HM.out 0
    have f0 := Blk.frozen HM.out 0
    have HSP := Lib.hid (fun fv w' => pts_none none 0 fv w')
    go_upto_region 7 with (go_at_call 19; refine (HSP.out _ _).mono ?_; rintro e w2' ⟨rfl, rfl⟩)
    clear HSP
    have KF := Lib.hid (fun w' (k : Since w2' w') => (show w'.cell? ⟨Gb, 0, none⟩ = some (.pointer (some ⟨G, 0, none⟩)) ∧ w'.cell? ⟨G, 0, none⟩ = some (.slice none 0 0) from ⟨keepC k _ _ b0, keepC k _ _ m0⟩))
    clear b0 m0
    apply region_facts 10 (fun w' => Since w2' w')
    case hm => kernel_rfl
    case hB => kernel_rfl
    case hS => exact (Since.rfl_ w2').drew
    case h =>
    simp only [List.take_succ_cons, List.take_zero, List.drop_succ_cons, List.drop_zero]
    apply wpO_det
    case hw => rfl
    case h =>
      intro hFm wx hS_ hF_ K hK
      go_big_quiet_op
      first
        | exact hK _ rfl
        | (apply Exists.intro; refine ⟨fun _ => ?_, ?_⟩; (focus (first | (intro hC; have hC := KF.out _ hC.out.1; (try simp only [hC, Result.andThen]); first | exact ⟨True.intro, rfl⟩ | exact ⟨rfl, rfl⟩ | rfl))); exact hK _ rfl)
    case k =>
    simp only [Act.put, List.setIfInBounds_toArray, List.set_cons_succ, List.set_cons_zero, List.cons_append, List.nil_append]
    apply wpO_det
    case hw => rfl
    case h =>
      intro hFm wx hS_ hF_ K hK
      go_big_quiet_op
      first
        | exact hK _ rfl
        | (apply Exists.intro; refine ⟨fun _ => ?_, ?_⟩; (focus (first | (intro hC; have hC := KF.out _ hC.out.1; (try simp only [hC, Result.andThen]); first | exact ⟨True.intro, rfl⟩ | exact ⟨rfl, rfl⟩ | rfl))); exact hK _ rfl)
    case k =>
    simp only [Act.put, List.setIfInBounds_toArray, List.set_cons_succ, List.set_cons_zero, List.cons_append, List.nil_append]
    apply wpO_det
    case hw => rfl
    case h =>
      intro hFm wx hS_ hF_ K hK
      go_big_quiet_op
      first
        | exact hK _ rfl
        | (apply Exists.intro; refine ⟨fun _ => ?_, ?_⟩; (focus (first | (intro hC; have hC := hC.out; (try simp only [hC, Result.andThen]); first | exact ⟨True.intro, rfl⟩ | exact ⟨rfl, rfl⟩ | rfl))); exact hK _ rfl)
    case k =>
    simp only [Act.put, List.setIfInBounds_toArray, List.set_cons_succ, List.set_cons_zero, List.cons_append, List.nil_append]
    apply wpO_det
    case hw => rfl
    case h =>
      intro hFm wx hS_ hF_ K hK
      go_big_quiet_op
      first
        | exact hK _ rfl
        | (apply Exists.intro; refine ⟨fun _ => ?_, ?_⟩; (focus (first | (intro hC; have hC := hC.out; (try simp only [hC, Result.andThen]); first | exact ⟨True.intro, rfl⟩ | exact ⟨rfl, rfl⟩ | rfl))); exact hK _ rfl)
    case k =>
    simp only [Act.put, List.setIfInBounds_toArray, List.set_cons_succ, List.set_cons_zero, List.cons_append, List.nil_append]
    apply wpO_det
    case hw => rfl
    case h =>
      intro hFm wx hS_ hF_ K hK
      go_big_quiet_op
      first
        | exact hK _ rfl
        | (apply Exists.intro; refine ⟨fun _ => ?_, ?_⟩; (focus (first | (intro hC; have hC := hC.out; (try simp only [hC, Result.andThen]); first | exact ⟨True.intro, rfl⟩ | exact ⟨rfl, rfl⟩ | rfl))); exact hK _ rfl)
    case k =>
    simp only [Act.put, List.setIfInBounds_toArray, List.set_cons_succ, List.set_cons_zero, List.cons_append, List.nil_append]
    apply wpO_det
    case hw => rfl
    case h =>
      intro hFm wx hS_ hF_ K hK
      go_big_quiet_op
      first
        | exact hK _ rfl
        | (apply Exists.intro; refine ⟨fun _ => ?_, ?_⟩; (focus (first | (intro hC; have hC := KF.out _ hC.out.1; (try simp only [hC, Result.andThen]); first | exact ⟨True.intro, rfl⟩ | exact ⟨rfl, rfl⟩ | rfl))); exact hK _ rfl)
    case k =>
    simp only [Act.put, List.setIfInBounds_toArray, List.set_cons_succ, List.set_cons_zero, List.cons_append, List.nil_append]
    apply wpO_det
    case hw => rfl
    case h =>
      intro hFm wx hS_ hF_ K hK
      go_big_quiet_op
      first
        | exact hK _ rfl
        | (apply Exists.intro; refine ⟨fun _ => ?_, ?_⟩; (focus (first | (intro hC; go_at_call 20; refine (compact_none _).mono ?_; rintro e w' ⟨rfl, rfl⟩; exact ⟨rfl, hC⟩))); exact hK _ rfl)
    case k =>
    simp only [Act.put, List.setIfInBounds_toArray, List.set_cons_succ, List.set_cons_zero, List.cons_append, List.nil_append]
    apply wpO_det
    case hw => rfl
    case h =>
      intro hFm wx hS_ hF_ K hK
      go_big_quiet_op
      first
        | exact hK _ rfl
        | (apply Exists.intro; refine ⟨fun _ => ?_, ?_⟩; (focus (first | (intro hC; have hC := hC.out; (try simp only [hC, Result.andThen]); first | exact ⟨True.intro, rfl⟩ | exact ⟨rfl, rfl⟩ | rfl))); exact hK _ rfl)
    case k =>
    simp only [Act.put, List.setIfInBounds_toArray, List.set_cons_succ, List.set_cons_zero, List.cons_append, List.nil_append]
    apply wpO_det
    case hw => rfl
    case h =>
      intro hFm wx hS_ hF_ K hK
      go_big_quiet_op
      first
        | exact hK _ rfl
        | (apply Exists.intro; refine ⟨fun _ => ?_, ?_⟩; (focus (first | (intro hC; have hC := hC.out; (try simp only [hC, Result.andThen]); first | exact ⟨True.intro, rfl⟩ | exact ⟨rfl, rfl⟩ | rfl))); exact hK _ rfl)
    case k =>
    simp only [Act.put, List.setIfInBounds_toArray, List.set_cons_succ, List.set_cons_zero, List.cons_append, List.nil_append]
    apply wpO_det
    case hw => rfl
    case h =>
      intro hFm wx hS_ hF_ K hK
      go_big_quiet_op
      first
        | exact hK _ rfl
        | (apply Exists.intro; refine ⟨fun _ => ?_, ?_⟩; (focus (first | (intro hC; have hC := hC.out; (try simp only [hC, Result.andThen]); first | exact ⟨True.intro, rfl⟩ | exact ⟨rfl, rfl⟩ | rfl))); exact hK _ rfl)
    case k =>
    simp only [Act.put, List.setIfInBounds_toArray, List.set_cons_succ, List.set_cons_zero, List.cons_append, List.nil_append]
    refine wpO_nil ?_
    intro w3 hS hF hB
    (try simp [allF] at hF)
    (try simp [List.pairwise_cons] at hB)
    clear hF hB KF
    have HS3 := HS.out.trans hS
    have HB3 := hS.blk HB.out
    have HM3 : Mk0 w3 G nilV nilV nilV nilV := hS.blk HM.out
    have m0 : w3.cell? ⟨G, 0, none⟩ = some (.slice none 0 0) := Blk.cell HM3 0
    have f0 := Blk.frozen HM3 0
    have HW3 : Hid (Since w0 (w3.setCell ⟨G, 0, none⟩ nilV)) ∧ Hid (Blk (w3.setCell ⟨G, 0, none⟩ nilV) Gb 43 #[.pointer (some ⟨G, 0, none⟩)]) ∧ Hid (Mk0 (w3.setCell ⟨G, 0, none⟩ nilV) G nilV nilV nilV nilV) :=
      ⟨HS3.setCell hG nilV, HB3.far (by dsimp only; omega) nilV, Blk.set_ HM3 0 nilV⟩
    clear HS HB HM hS HS3 HB3 HM3
    go_upto_region 8 with fail
    refine atW (fun w' => Hid (Since w0 w') ∧ Hid (Blk w' Gb 43 #[.pointer (some ⟨G, 0, none⟩)]) ∧ Hid (Mk0 w' G nilV nilV nilV nilV)) HW3 ?_
    clear HW3 m0 f0
    rintro w4 ⟨HS4, HB4, HM4⟩
    have hmm := @run_makeMap Try.prog
    go_upto_region 9 with fail
    clear hmm
    refine atW (fun w' => Hid (Since w0 w') ∧ Hid (Blk w' Gb 43 #[.pointer (some ⟨G, 0, none⟩)]) ∧ Hid (Mk0 w' G nilV nilV nilV nilV)) ⟨HS4.out.alloc _, HB4.out.alloc _, Blk.alloc HM4.out _⟩ ?_
    clear HS4 HB4 HM4
    rintro w5 ⟨HS5, HB5, HM5⟩
    have b0 : w5.cell? ⟨Gb, 0, none⟩ = some (.pointer (some ⟨G, 0, none⟩)) := HB5.out.cell 0
    have m0 : w5.cell? ⟨G, 0, none⟩ = some (.slice none 0 0) := Blk.cell HM5.out 0
    go_wp2_with fail
    clear b0 m0
    go_loopw [59] (fun v wr => v = .int .i64 0 ∧ Hid (Since w0 wr) ∧ Hid (Blk wr Gb 43 #[.pointer (some ⟨G, 0, none⟩)]) ∧ Hid (Mk0 wr G nilV nilV nilV nilV)) (fun _ _ => 0)
    case atStart => exact ⟨by go_num, HS5, HB5, HM5⟩
    case round =>
      clear HS5 HB5 HM5
      obtain ⟨rfl, HS, HB, HM⟩ := hrel
      obtain ⟨w6, rfl⟩ : ∃ w6, w6 = wr := ⟨_, rfl⟩
      go_upto_region 14 with fail
      letI RG : RegG := sinceRG
      have KF := Lib.hid (fun w' (h : SinceG w6 w') => (show w'.cell? ⟨Gb, 0, none⟩ = some (.pointer (some ⟨G, 0, none⟩)) ∧ w'.cell? ⟨G, 0, none⟩ = some (.slice none 0 0) from ⟨keepC h _ _ (HB.out.cell 0), keepC h _ _ (Blk.cell HM.out 0)⟩))
      apply region_factsG 8 (fun w' => SinceG w6 w')
      case hm => kernel_rfl
      case hB => kernel_rfl
      case hS => exact (SinceG.rfl_ w6).drew
      case hmono => exact (fun _ _ h k => h.trans k)
      case hTb => exact (fun g hg => Nat.zero_le _)
      case h =>
      simp only [List.take_succ_cons, List.take_zero, List.drop_succ_cons, List.drop_zero]
      apply wpO_detG
      case hw => rfl
      case h =>
        intro hFm wx hS_ hF_ K hK
        go_big_quiet_op
        first
          | exact hK _ rfl
          | (apply Exists.intro; refine ⟨fun _ => ?_, ?_⟩; (focus (first | (intro hC; have hC := KF.out _ hC.out.1; (try simp only [hC, Result.andThen]); first | exact ⟨True.intro, rfl⟩ | exact ⟨rfl, rfl⟩ | rfl))); exact hK _ rfl)
      case k =>
      simp only [Act.put, List.setIfInBounds_toArray, List.set_cons_succ, List.set_cons_zero, List.cons_append, List.nil_append]
      apply wpO_detG
      case hw => rfl
      case h =>
        intro hFm wx hS_ hF_ K hK
        go_big_quiet_op
        first
          | exact hK _ rfl
          | (apply Exists.intro; refine ⟨fun _ => ?_, ?_⟩; (focus (first | (intro hC; have hC := KF.out _ hC.out.1; (try simp only [hC, Result.andThen]); first | exact ⟨True.intro, rfl⟩ | exact ⟨rfl, rfl⟩ | rfl))); exact hK _ rfl)
      case k =>
      simp only [Act.put, List.setIfInBounds_toArray, List.set_cons_succ, List.set_cons_zero, List.cons_append, List.nil_append]
      apply wpO_detG
      case hw => rfl
      case h =>
        intro hFm wx hS_ hF_ K hK
        go_big_quiet_op
        first
          | exact hK _ rfl
          | (apply Exists.intro; refine ⟨fun _ => ?_, ?_⟩; (focus (first | (intro hC; have hC := hC.out; (try simp only [hC, Result.andThen]); first | exact ⟨True.intro, rfl⟩ | exact ⟨rfl, rfl⟩ | rfl))); exact hK _ rfl)
      case k =>
      simp only [Act.put, List.setIfInBounds_toArray, List.set_cons_succ, List.set_cons_zero, List.cons_append, List.nil_append]
      apply wpO_detG
      case hw => rfl
      case h =>
        intro hFm wx hS_ hF_ K hK
        go_big_quiet_op
        first
          | exact hK _ rfl
          | (apply Exists.intro; refine ⟨fun _ => ?_, ?_⟩; (focus (first | (intro hC; have hC := hC.out; (try simp only [hC, Result.andThen]); first | exact ⟨True.intro, rfl⟩ | exact ⟨rfl, rfl⟩ | rfl))); exact hK _ rfl)
      case k =>
      simp only [Act.put, List.setIfInBounds_toArray, List.set_cons_succ, List.set_cons_zero, List.cons_append, List.nil_append]
      apply wpO_detG
      case hw => rfl
      case h =>
        intro hFm wx hS_ hF_ K hK
        go_big_quiet_op
        first
          | exact hK _ rfl
          | (apply Exists.intro; refine ⟨fun _ => ?_, ?_⟩; (focus (first | (intro hC; have hC := hC.out; (try simp only [hC, Result.andThen]); first | exact ⟨True.intro, rfl⟩ | exact ⟨rfl, rfl⟩ | rfl))); exact hK _ rfl)
      case k =>
      simp only [Act.put, List.setIfInBounds_toArray, List.set_cons_succ, List.set_cons_zero, List.cons_append, List.nil_append]
      apply wpO_detG
      case hw => rfl
      case h =>
        intro hFm wx hS_ hF_ K hK
        go_big_quiet_op
        first
          | exact hK _ rfl
          | (apply Exists.intro; refine ⟨fun _ => ?_, ?_⟩; (focus (first | (intro hC; have hC := KF.out _ hC.out.1; (try simp only [hC, Result.andThen]); first | exact ⟨True.intro, rfl⟩ | exact ⟨rfl, rfl⟩ | rfl))); exact hK _ rfl)
      case k =>
      simp only [Act.put, List.setIfInBounds_toArray, List.set_cons_succ, List.set_cons_zero, List.cons_append, List.nil_append]
      apply wpO_detG
      case hw => rfl
      case h =>
        intro hFm wx hS_ hF_ K hK
        go_big_quiet_op
        first
          | exact hK _ rfl
          | (apply Exists.intro; refine ⟨fun _ => ?_, ?_⟩; (focus (first | (intro hC; have hC := hC.out; (try simp only [hC, Result.andThen]); first | exact ⟨True.intro, rfl⟩ | exact ⟨rfl, rfl⟩ | rfl))); exact hK _ rfl)
      case k =>
      simp only [Act.put, List.setIfInBounds_toArray, List.set_cons_succ, List.set_cons_zero, List.cons_append, List.nil_append]
      apply wpO_anyG (R := (MadeR w6.heap.size 24 1 0 (madeCells (Value.slice none 0 0).cells (0 * 1)).toList))
      case hR => exact (fun v' w' w'' h k => by obtain ⟨g, e, ho⟩ := h; exact ⟨g, e, own_since k ho⟩)
      case hw => rfl
      case h =>
        intro wx hS_ hF_
        obtain ⟨w', h1, h2, h3⟩ := run_make_full (P := Try.prog) wx w6.heap.size 44 24 i2 _ 1 Try.underlying44 HI2.out.1 HI2.out.2.1 HI2.out.2.2.1 .i64 .i64 0 (by rw [HI2.out.2.2.2]; omega) (by unfold maxLen; omega) (SinceG.size hS_)
        have h1 : (Instr.makeSlice 44 (.int .i64 0) (.int .i64 0)).run Try.prog wx = .ok (.slice (some ⟨wx.heap.size, 0, none⟩) 0 0) w' := h1
        exact runVG_make _ _ _ rfl rfl rfl ⟨w', h1, ⟨_, rfl, h2⟩, ⟨h3.os, h3.tape, h3.output, h3.size, fun i hi => h3.block i hi (by simp)⟩⟩
      case k =>
      intro v0
      simp only [Act.put, List.setIfInBounds_toArray, List.set_cons_succ, List.set_cons_zero, List.cons_append, List.nil_append]
      refine wpO_nilG ?_
      intro w7 hS hF hB
      (try simp [allF] at hF)
      (try simp [List.pairwise_cons] at hB)
      obtain ⟨gO, rfl, ho⟩ := hF
      replace hS : Since w6 w7 := hS
      have HM7 : Mk0 w7 G nilV nilV nilV nilV := hS.blk HM.out
      have HMo : w7.cell? ⟨G, 7, none⟩ = some (.slice none 0 0) := Blk.cell HM7 7
      have HMf := Blk.frozen HM7 7
      have HW7 : Hid (Since w0 (w7.setCell ⟨G, 7, none⟩ (.slice (some ⟨gO, 0, none⟩) 0 0))) ∧ Hid (Blk (w7.setCell ⟨G, 7, none⟩ (.slice (some ⟨gO, 0, none⟩) 0 0)) Gb 43 #[.pointer (some ⟨G, 0, none⟩)]) ∧ Hid (Mk0 (w7.setCell ⟨G, 7, none⟩ (.slice (some ⟨gO, 0, none⟩) 0 0)) G nilV nilV nilV (.slice (some ⟨gO, 0, none⟩) 0 0)) :=
        ⟨(HS.out.trans hS).setCell hG _, (hS.blk HB.out).far (by dsimp only; omega) _, Blk.set_ HM7 7 _⟩
      clear ho hS hB KF RG HS HB HM HM7
      go_upto_region 15 with fail
      refine atW (fun w' => Hid (Since w0 w') ∧ Hid (Blk w' Gb 43 #[.pointer (some ⟨G, 0, none⟩)]) ∧ Hid (Mk0 w' G nilV nilV nilV (.slice (some ⟨gO, 0, none⟩) 0 0))) HW7 ?_
      clear HW7 HMo HMf
      rintro w8 ⟨HS8, HB8, HM8⟩
      go_upto_region 16 with fail
      go_loopw [80] (fun v wr => v = .int .i64 0 ∧ Hid (Since w0 wr) ∧ Hid (Blk wr Gb 43 #[.pointer (some ⟨G, 0, none⟩)]) ∧ Hid (Mk0 wr G nilV nilV nilV (.slice (some ⟨gO, 0, none⟩) 0 0))) (fun _ _ => 0)
      case atStart => exact ⟨by go_num, HS8, HB8, HM8⟩
      case round =>
        clear HS8 HB8 HM8
        obtain ⟨rfl, HS, HB, HM⟩ := hrel
        obtain ⟨w9, rfl⟩ : ∃ w9, w9 = wr := ⟨_, rfl⟩
        have b0 : w9.cell? ⟨Gb, 0, none⟩ = some (.pointer (some ⟨G, 0, none⟩)) := HB.out.cell 0
        have m7 : w9.cell? ⟨G, 7, none⟩ = some (.slice (some ⟨gO, 0, none⟩) 0 0) := Blk.cell HM.out 7
        go_wp2_with fail
        clear b0 m7
        go_loopw [137] (fun v wr => v = .int .i64 0 ∧ Hid (Since w0 wr) ∧ Hid (Blk wr Gb 43 #[.pointer (some ⟨G, 0, none⟩)]) ∧ Hid (Mk0 wr G nilV nilV nilV (.slice (some ⟨gO, 0, none⟩) 0 0))) (fun _ _ => 0)
        case atStart => exact ⟨by go_num, HS, HB, HM⟩
        case round =>
          clear HS HB HM
          obtain ⟨rfl, HS, HB, HM⟩ := hrel
          go_wp2_with fail
          go_end0
          exact ⟨rfl, HS.out, gO, HM.out⟩
set_option maxRecDepth 100000 in
set_option maxHeartbeats 4000000 in
theorem Link_nil (G gO : Nat) (w0 w : World) (hs0 : Since w0 w) (hG : w0.heap.size ≤ G) (hM : Mk0 w G nilV nilV nilV (.slice (some ⟨gO, 0, none⟩) 0 0)) :
    Calls Try.prog 12 #[.pointer (some ⟨G, 0, none⟩)] w fun e w' => e = .returned (.tuple #[]) ∧ Since w0 w' ∧ ∃ gC, Mk0 w' G nilV (.slice (some ⟨gC, 0, none⟩) 0 0) nilV (.slice (some ⟨gO, 0, none⟩) 0 0) := by
  have HS0 := Lib.hid hs0
  have HM0 := Lib.hid hM
  have c1 : w.cell? ⟨G, 1, none⟩ = some (.slice none 0 0) := Blk.cell hM 1
  clear hs0 hM
  go_enter Try.func12, Try.ntmps12
  go_wp2_with fail
  clear c1
  go_loopw [16] (fun v wr => v = .int .i64 0 ∧ Hid (Since w0 wr) ∧ Hid (Mk0 wr G nilV nilV nilV (.slice (some ⟨gO, 0, none⟩) 0 0))) (fun _ _ => 0)
  case atStart => exact ⟨by go_num, HS0, HM0⟩
  case round =>
    clear HS0 HM0
    obtain ⟨rfl, HS, HM⟩ := hrel
    obtain ⟨w1, rfl⟩ : ∃ w1, w1 = wr := ⟨_, rfl⟩
    have c1 : w1.cell? ⟨G, 1, none⟩ = some (.slice none 0 0) := Blk.cell HM.out 1
    have c11 := keepC ((Since.rfl_ w1).alloc (.cells #[.int .i64 (-1)] 3)) _ _ c1
    have HRP : Hid (∀ w', Blk w' w1.heap.size 3 #[.int .i64 (-1)] → Calls Try.prog 27 #[.slice (some ⟨w1.heap.size, 0, none⟩) 1 1, .int .i64 0] w' fun e w'' => ∃ g', e = .returned (.slice (some ⟨g', 0, none⟩) 0 0) ∧ Since w' w'') := fun w' hb => repeat_none hb
    have HBL : Hid (Blk (w1.alloc (.cells #[.int .i64 (-1)] 3)) w1.heap.size 3 #[.int .i64 (-1)]) := Blk.new w1 _ _
    have HM1 : Hid (Mk0 (w1.alloc (.cells #[.int .i64 (-1)] 3)) G nilV nilV nilV (.slice (some ⟨gO, 0, none⟩) 0 0)) := Blk.alloc HM.out _
    have HS1 : Hid (Since w0 (w1.alloc (.cells #[.int .i64 (-1)] 3))) := HS.out.alloc _
    clear HS HM c1
    go_upto_region 8 with (go_at_call 27; refine (HRP.out _ HBL.out).mono ?_; rintro e w8 ⟨gC, rfl, hs8⟩; have HW8 := Lib.hid hs8; have hm8 := hs8.blk HM1.out; have HM8 := Lib.hid hm8; have c3 := hm8.cell 3; have f3 := hm8.frozen 3; simp only [List.getElem?_toArray, List.getElem?_cons_zero, List.getElem?_cons_succ] at c3; clear hs8 hm8 c11)
    have HW9 : Hid (Since w0 (w8.setCell ⟨G, 3, none⟩ (.slice (some ⟨gC, 0, none⟩) 0 0))) ∧ Hid (Mk0 (w8.setCell ⟨G, 3, none⟩ (.slice (some ⟨gC, 0, none⟩) 0 0)) G nilV (.slice (some ⟨gC, 0, none⟩) 0 0) nilV (.slice (some ⟨gO, 0, none⟩) 0 0)) := ⟨(HS1.out.trans HW8.out).setCell hG _, Blk.set_ HM8.out 3 _⟩
    refine atW (fun w' => Hid (Since w0 w') ∧ Hid (Mk0 w' G nilV (.slice (some ⟨gC, 0, none⟩) 0 0) nilV (.slice (some ⟨gO, 0, none⟩) 0 0))) HW9 ?_
    clear HW9 HW8 HM8 HS1 HM1 HRP HBL c3 f3
    rintro w9 ⟨HS9, HM9⟩
    have c1 : w9.cell? ⟨G, 1, none⟩ = some (.slice none 0 0) := Blk.cell HM9.out 1
    go_wp2_with fail
    clear c1
    go_loopw [69] (fun v wr => v = .int .i64 0 ∧ Hid (Since w0 wr) ∧ Hid (Mk0 wr G nilV (.slice (some ⟨gC, 0, none⟩) 0 0) nilV (.slice (some ⟨gO, 0, none⟩) 0 0))) (fun _ _ => 0)
    case atStart => exact ⟨by go_num, HS9, HM9⟩
    case round =>
      clear HS9 HM9
      obtain ⟨rfl, HS, HM⟩ := hrel
      go_wp2_with fail
      go_end0
      exact ⟨rfl, HS.out, gC, HM.out⟩
set_option maxRecDepth 100000 in
set_option maxHeartbeats 4000000 in
theorem Parts_nil (G gO gC : Nat) (w0 w : World) (hs0 : Since w0 w) (hG : w0.heap.size ≤ G) (hM : Mk0 w G nilV (.slice (some ⟨gC, 0, none⟩) 0 0) nilV (.slice (some ⟨gO, 0, none⟩) 0 0)) :
    Calls Try.prog 13 #[.pointer (some ⟨G, 0, none⟩)] w fun e w' => e = .returned (.tuple #[]) ∧ Since w0 w' ∧ ∃ gA, Mk0 w' G nilV (.slice (some ⟨gC, 0, none⟩) 0 0) (.slice (some ⟨gA, 0, none⟩) 0 0) (.slice (some ⟨gO, 0, none⟩) 0 0) := by
  have c0 : w.cell? ⟨G, 0, none⟩ = some (.slice none 0 0) := Blk.cell hM 0
  have c01 := keepC ((Since.rfl_ w).alloc (.cells #[.int .i64 (-1)] 3)) _ _ c0
  have HRP : Hid (∀ w', Blk w' w.heap.size 3 #[.int .i64 (-1)] → Calls Try.prog 27 #[.slice (some ⟨w.heap.size, 0, none⟩) 1 1, .int .i64 0] w' fun e w'' => ∃ g', e = .returned (.slice (some ⟨g', 0, none⟩) 0 0) ∧ Since w' w'') := fun w' hb => repeat_none hb
  have HBL : Hid (Blk (w.alloc (.cells #[.int .i64 (-1)] 3)) w.heap.size 3 #[.int .i64 (-1)]) := Blk.new w _ _
  have HM1 : Hid (Mk0 (w.alloc (.cells #[.int .i64 (-1)] 3)) G nilV (.slice (some ⟨gC, 0, none⟩) 0 0) nilV (.slice (some ⟨gO, 0, none⟩) 0 0)) := Blk.alloc hM _
  have HS1 : Hid (Since w0 (w.alloc (.cells #[.int .i64 (-1)] 3))) := hs0.alloc _
  clear hs0 hM c0
  go_enter Try.func13, Try.ntmps13
  go_upto_region 1 with (go_at_call 27; refine (HRP.out _ HBL.out).mono ?_; rintro e w8 ⟨gA, rfl, hs8⟩; have HW8 := Lib.hid hs8; have hm8 := hs8.blk HM1.out; have HM8 := Lib.hid hm8; have c6 := hm8.cell 6; have f6 := hm8.frozen 6; simp only [List.getElem?_toArray, List.getElem?_cons_zero, List.getElem?_cons_succ] at c6; clear hs8 hm8 c01)
  have HW9 : Hid (Since w0 (w8.setCell ⟨G, 6, none⟩ (.slice (some ⟨gA, 0, none⟩) 0 0))) ∧ Hid (Mk0 (w8.setCell ⟨G, 6, none⟩ (.slice (some ⟨gA, 0, none⟩) 0 0)) G nilV (.slice (some ⟨gC, 0, none⟩) 0 0) (.slice (some ⟨gA, 0, none⟩) 0 0) (.slice (some ⟨gO, 0, none⟩) 0 0)) := ⟨(HS1.out.trans HW8.out).setCell hG _, Blk.set_ HM8.out 6 _⟩
  refine atW (fun w' => Hid (Since w0 w') ∧ Hid (Mk0 w' G nilV (.slice (some ⟨gC, 0, none⟩) 0 0) (.slice (some ⟨gA, 0, none⟩) 0 0) (.slice (some ⟨gO, 0, none⟩) 0 0))) HW9 ?_
  clear HW9 HW8 HM8 HS1 HM1 HRP HBL c6 f6
  rintro w9 ⟨HS9, HM9⟩
  have c6 : w9.cell? ⟨G, 6, none⟩ = some (.slice (some ⟨gA, 0, none⟩) 0 0) := Blk.cell HM9.out 6
  go_wp2_with fail
  clear c6
  go_loopw [23] (fun v wr => v = .int .i64 0 ∧ Hid (Since w0 wr) ∧ Hid (Mk0 wr G nilV (.slice (some ⟨gC, 0, none⟩) 0 0) (.slice (some ⟨gA, 0, none⟩) 0 0) (.slice (some ⟨gO, 0, none⟩) 0 0))) (fun _ _ => 0)
  case atStart => exact ⟨by go_num, HS9, HM9⟩
  case round =>
    clear HS9 HM9
    obtain ⟨rfl, HS, HM⟩ := hrel
    go_wp2_with fail
    go_end0
    exact ⟨rfl, HS.out, gA, HM.out⟩
set_option maxRecDepth 100000 in
set_option maxHeartbeats 4000000 in
theorem Faces_nil (G gO gC gA : Nat) (w0 w : World) (hs0 : Since w0 w) (hG : w0.heap.size ≤ G) (hM : Mk0 w G nilV (.slice (some ⟨gC, 0, none⟩) 0 0) (.slice (some ⟨gA, 0, none⟩) 0 0) (.slice (some ⟨gO, 0, none⟩) 0 0)) :
    Calls Try.prog 14 #[.pointer (some ⟨G, 0, none⟩)] w fun e w' => e = .returned (.tuple #[]) ∧ Since w0 w' ∧ ∃ gF, Mk0 w' G (.slice (some ⟨gF, 0, none⟩) 1 1) (.slice (some ⟨gC, 0, none⟩) 0 0) (.slice (some ⟨gA, 0, none⟩) 0 0) (.slice (some ⟨gO, 0, none⟩) 0 0) ∧ G < gF ∧ Blk w' gF 3 #[.int .i64 (-1)] := by
  obtain ⟨i2, hi2, hy0, hy1, hy3⟩ := info_parts infoI
  have HI2 := Lib.hid (And.intro hi2 (And.intro hy0 (And.intro hy1 hy3)))
  have hGw : G < w.heap.size := Blk.lt hM
  have HM0 := Lib.hid hM
  have HS0 := Lib.hid hs0
  have c2 : (w.alloc (.cells #[.int .i64 (-1)] 3)).cell? ⟨G, 2, none⟩ = some (.slice none 0 0) := Blk.cell (Blk.alloc hM _) 2
  have f2 := Blk.frozen (Blk.alloc hM (.cells #[.int .i64 (-1)] 3)) 2
  have c2w : w.cell? ⟨G, 2, none⟩ = some (.slice none 0 0) := Blk.cell hM 2
  have f2w := Blk.frozen hM 2
  clear hi2 hy0 hy1 hy3 hs0 hM
  obtain ⟨gF, HGF⟩ : ∃ gF, Hid (gF = w.heap.size) := ⟨_, rfl⟩
  go_enter Try.func14, Try.ntmps14
  go_upto_region 1 with fail
  rw [← HGF.out]
  have hGF : G < gF := by rw [HGF.out]; exact hGw
  refine atW (fun w' => Hid (Since w0 w') ∧ Hid (Mk0 w' G (.slice (some ⟨gF, 0, none⟩) 1 1) (.slice (some ⟨gC, 0, none⟩) 0 0) (.slice (some ⟨gA, 0, none⟩) 0 0) (.slice (some ⟨gO, 0, none⟩) 0 0)) ∧ Hid (Blk w' gF 3 #[.int .i64 (-1)])) (by
    first
      | exact ⟨(HS0.out.setCell (p := ⟨G, 2, none⟩) hG _).alloc _, Blk.alloc (Blk.set_ HM0.out 2 _) _, Blk.new' (by simp [HGF.out])⟩
      | exact ⟨(HS0.out.alloc _).setCell (p := ⟨G, 2, none⟩) hG _, Blk.set_ (Blk.alloc HM0.out _) 2 _, (Blk.new' HGF.out).far (by dsimp only; omega) _⟩) ?_
  clear HM0 HS0 c2 f2 c2w f2w
  rintro w1 ⟨HS1, HM1, HF1⟩
  have c4 : w1.cell? ⟨G, 4, none⟩ = some (.slice none 0 0) := Blk.cell HM1.out 4
  go_upto_region 2 with (at_make; refine wpList_make_full _ rfl _ _ 24 rfl w1.heap.size 3 i2 _ 1 Try.underlying24 HI2.out.1 HI2.out.2.1 HI2.out.2.2.1 .i64 .i64 _ _ 0 rfl rfl rfl rfl (by rw [HI2.out.2.2.2]; omega) (by unfold maxLen; omega) (Nat.le_refl _) ?_; intro w2 hown hgrow)
  have hs12 : Since w1 w2 := ⟨hgrow.os, hgrow.tape, hgrow.output, hgrow.size, fun i hi => hgrow.block i hi (by simp)⟩
  have HW2 : Hid (Since w0 w2) ∧ Hid (Mk0 w2 G (.slice (some ⟨gF, 0, none⟩) 1 1) (.slice (some ⟨gC, 0, none⟩) 0 0) (.slice (some ⟨gA, 0, none⟩) 0 0) (.slice (some ⟨gO, 0, none⟩) 0 0)) ∧ Hid (Blk w2 gF 3 #[.int .i64 (-1)]) := ⟨HS1.out.trans hs12, hs12.blk HM1.out, hs12.blk HF1.out⟩
  obtain ⟨HS2, HM2, HF2⟩ := HW2
  have c4 : w2.cell? ⟨G, 4, none⟩ = some (.slice none 0 0) := Blk.cell HM2.out 4
  clear hs12 hgrow hown HS1 HM1 HF1
  go_wp2_with fail
  clear c4
  go_loopw [27] (fun v wr => v = .int .i64 0 ∧ Hid (Since w0 wr) ∧ Hid (Mk0 wr G (.slice (some ⟨gF, 0, none⟩) 1 1) (.slice (some ⟨gC, 0, none⟩) 0 0) (.slice (some ⟨gA, 0, none⟩) 0 0) (.slice (some ⟨gO, 0, none⟩) 0 0)) ∧ Hid (Blk wr gF 3 #[.int .i64 (-1)])) (fun _ _ => 0)
  case atStart => exact ⟨by go_num, HS2, HM2, HF2⟩
  case round =>
    clear HS2 HM2 HF2
    obtain ⟨rfl, HS, HM, HF⟩ := hrel
    obtain ⟨w3, rfl⟩ : ∃ w3, w3 = wr := ⟨_, rfl⟩
    have c4 : w3.cell? ⟨G, 4, none⟩ = some (.slice none 0 0) := Blk.cell HM.out 4
    go_wp2_with fail
    clear c4
    go_loopw [71] (fun v wr => v = .int .i64 0 ∧ Hid (Since w0 wr) ∧ Hid (Mk0 wr G (.slice (some ⟨gF, 0, none⟩) 1 1) (.slice (some ⟨gC, 0, none⟩) 0 0) (.slice (some ⟨gA, 0, none⟩) 0 0) (.slice (some ⟨gO, 0, none⟩) 0 0)) ∧ Hid (Blk wr gF 3 #[.int .i64 (-1)])) (fun _ _ => 0)
    case atStart => exact ⟨by go_num, HS, HM, HF⟩
    case round =>
      clear HS HM HF
      obtain ⟨rfl, HS, HM, HF⟩ := hrel
      obtain ⟨w4, rfl⟩ : ∃ w4, w4 = wr := ⟨_, rfl⟩
      have c1 : w4.cell? ⟨G, 1, none⟩ = some (.slice none 0 0) := Blk.cell HM.out 1
      go_wp2_with fail
      clear c1
      go_loopw [197] (fun v wr => v = .int .i64 0 ∧ Hid (Since w0 wr) ∧ Hid (Mk0 wr G (.slice (some ⟨gF, 0, none⟩) 1 1) (.slice (some ⟨gC, 0, none⟩) 0 0) (.slice (some ⟨gA, 0, none⟩) 0 0) (.slice (some ⟨gO, 0, none⟩) 0 0)) ∧ Hid (Blk wr gF 3 #[.int .i64 (-1)])) (fun _ _ => 0)
      case atStart => exact ⟨by go_num, HS, HM, HF⟩
      case round =>
        clear HS HM HF
        obtain ⟨rfl, HS, HM, HF⟩ := hrel
        go_wp2_with fail
        go_end0
        exact ⟨rfl, HS.out, gF, HM.out, hGF, HF.out⟩
theorem BldR.none : BldR [] [] [] [-1] := by
  refine ⟨[], [], [], [], (List.eq_nil_iff_forall_not_mem.2 fun x hx => by have := hullS_mem.1 hx; simp [ptsK] at this).symm, rfl, fun v hv => absurd hv (Nat.not_lt_zero _), ⟨rfl, rfl, Nat.le_refl _, fun g hg => absurd hg (Nat.not_lt_zero _), fun g hg => absurd hg (Nat.not_lt_zero _), fun g hg => absurd hg (Nat.not_lt_zero _), fun c hc => absurd hc (Nat.not_lt_zero _), fun c d _ hd => absurd hd (Nat.not_lt_zero _), fun c hc => absurd hc (Nat.not_lt_zero _), fun g hg => absurd hg (Nat.not_lt_zero _)⟩, rfl, rfl⟩
theorem Build_nil (a : Option Addr) (c : Nat) (w : World) (hv : SegsN w (.slice a 0 c) []) :
    Calls Try.prog 8 #[.slice a 0 c] w fun e w' => ∃ (vP vH vF : Value) (P : List Pt2) (H : List Hf) (F : List Int), e = .returned (.tuple #[.agg #[vP, vH, vF], .int .i64 0]) ∧ Since w w' ∧ MapS w' w.heap.size vP vH vF P H F ∧ BldR [] P H F :=
  BuildS_any a c [] w hv ⟨by simp, by unfold SrtG; simp, by simp, by simp⟩ (by simp) fun G w0 w' hs hG hM hv' => by
    refine (Begin_nil a c G w0 w' hs hG hM.blk).mono ?_
    rintro e1 w1 ⟨rfl, hs1, gO, hM1⟩
    refine ⟨rfl, hs1, (Link_nil G gO w0 w1 hs1 hG hM1).mono ?_⟩
    rintro e2 w2 ⟨rfl, hs2, gC, hM2⟩
    refine ⟨rfl, hs2, (Parts_nil G gO gC w0 w2 hs2 hG hM2).mono ?_⟩
    rintro e3 w3 ⟨rfl, hs3, gA, hM3⟩
    refine ⟨rfl, hs3, (Faces_nil G gO gC gA w0 w3 hs3 hG hM3).mono ?_⟩
    rintro e4 w4 ⟨rfl, hs4, gF, hM4, hGF, hF4⟩
    refine ⟨rfl, hs4, nilV, nilV, .slice (some ⟨gF, 0, none⟩) 1 1, [], [], [-1], _, hM4, ?_, BldR.none⟩
    have h0 : Rws w4 (G + 1) [⟨nilV, 34, 2, 0, []⟩, ⟨nilV, 38, 4, 0, []⟩, ⟨nilV, 3, 1, 0, []⟩] :=
      Rws.more (L := []) ⟨fun i r hi => (by simp at hi), fun i j r s _ hi => (by simp at hi)⟩ _ (fun r hr => by
        simp only [List.mem_cons, List.not_mem_nil, or_false] at hr
        rcases hr with rfl | rfl | rfl <;> exact ⟨rfl, rfl, rfl⟩)
    have ho : w4.ownsRow (G + 1) 3 1 (.slice (some ⟨gF, 0, none⟩) 1 1) 1 ([(-1 : Int)].map iV) := ⟨rfl, .inr ⟨gF, 1, _, rfl, hGF, hF4, Nat.le_refl _, by unfold maxLen; omega, rfl, rfl⟩⟩
    refine ⟨fun i r hi => ?_, fun i j r s hij hi hj => ?_⟩
    · rcases i with _ | _ | _ | i
      · exact h0.ok 0 r hi
      · exact h0.ok 1 r hi
      · injection hi with hi; rw [← hi]; exact ho
      · simp at hi
    · rcases i with _ | _ | _ | i <;> rcases j with _ | _ | _ | j <;> first
        | (simp at hij; done)
        | (simp at hi; done)
        | (simp at hj; done)
        | (injection hi with hi; rw [← hi]; intro g h1 _; cases h1; done)
        | (injection hj with hj; rw [← hj]; intro g _ h1; cases h1; done)
/-- Build, for whatever rounded segments. -/
theorem Build_any (v : Value) (E : List Sg) (w : World) (hv : SegsN w v E) (hE : RndOk E) (hl : E.length ≤ 3000) :
    Calls Try.prog 8 #[v] w fun e w' => ∃ (vP vH vF : Value) (P : List Pt2) (H : List Hf) (F : List Int), e = .returned (.tuple #[.agg #[vP, vH, vF], .int .i64 0]) ∧ Since w w' ∧ MapS w' w.heap.size vP vH vF P H F ∧ BldR E P H F := by
  obtain ⟨a, c, rfl⟩ := hv.slice
  rcases Nat.eq_zero_or_pos E.length with h | h
  · have e : E = [] := List.eq_nil_of_length_eq_zero h
    subst e
    exact Build_nil a c w hv
  · exact Build_some a c E w hv hE hl h
end Go.Proofs.Ytdnccjdlmepafaa
end
section
namespace Go.Proofs.Ytdnccjdlmepafaa
set_option linter.unusedSimpArgs false
set_option linter.unusedVariables false
def triE : List Sg := [((0,0),(0,2)),((0,0),(2,0)),((0,2),(2,0))]
def triP : List Pt2 := [(0,0),(0,2),(2,0)]
def triO : List (Value × List Int) := [(nilV, [2,0]),(nilV, [1,4]),(nilV, [5,3])]
def triC : List Int := [0,1,1,0,0,1]
def triI : List Int := [0,1]
def triT : List Int := [-4,4]
set_option maxRecDepth 100000 in
theorem tri_ok : RndOk triE where
  ok := by unfold SgOk; decide
  srt := by unfold SrtG; decide
  lt := by unfold lx; decide
  meet := by decide +kernel
set_option maxRecDepth 100000 in
theorem tri_pts : triP = hullS (ptsK triE triE.length) := by
  rw [show ptsK triE triE.length = [(0,0),(0,2),(0,0),(2,0),(0,2),(2,0)] from by decide]
  unfold hullS srtL
  simp [List.mergeSort, List.MergeSort.Internal.splitInTwo, List.merge, lxB]
  decide
set_option maxRecDepth 100000 in
theorem tri_bld : ∃ H F, BldR triE triP H F ∧ H.length = 6 ∧ F.length = 2 := by
  refine ⟨_, _, ⟨triO, triC, triI, triT, tri_pts, rfl, ?_, ?_, rfl, rfl⟩, ?_, ?_⟩
  · intro v hv
    rcases v with _ | _ | _ | v
    · exact ⟨by decide +kernel, by decide +kernel⟩
    · exact ⟨by decide +kernel, by decide +kernel⟩
    · exact ⟨by decide +kernel, by decide +kernel⟩
    · exact absurd hv (by show ¬ v + 3 < 3; omega)
  · have e0 : ∀ c, c < triI.length → c = 0 ∨ c = 1 := fun c h => by
      have : c < 2 := h
      omega
    refine ⟨rfl, rfl, by decide, by decide +kernel, by decide +kernel, by decide +kernel, ?_, ?_, by decide +kernel, ?_⟩
    · intro c hc
      rcases e0 c hc with rfl | rfl
      · exact ⟨0, rfl, by decide, by decide, rfl, fun g' _ _ => Nat.zero_le _⟩
      · exact ⟨1, rfl, by decide, by decide, rfl, by decide +kernel⟩
    · intro c d h hd
      rcases e0 d hd with rfl | rfl
      · omega
      · obtain rfl : c = 0 := by omega
        decide
    · have k : ∀ g, g < 2 * triE.length → 0 ≤ iAt triC g → ∃ i, i < 3 ∧ itN (nxN (frH triE triP) (rowO triO)) (iAt triI (iAt triC g).toNat).toNat i = g := by decide +kernel
      intro g hg h0
      obtain ⟨i, -, hi⟩ := k g hg h0
      exact ⟨i, hi⟩
  · rw [mkH_len]; rfl
  · rw [fac3_len]; decide +kernel
theorem tri_len {P : List Pt2} {H : List Hf} {F : List Int} (h : BldR triE P H F) : H.length = 6 ∧ F.length = 2 := by
  obtain ⟨H', F', k, h1, h2⟩ := tri_bld
  obtain ⟨-, rfl, rfl⟩ := BldR.uniq tri_ok (by decide) h k
  exact ⟨h1, h2⟩
end Go.Proofs.Ytdnccjdlmepafaa
end
section
namespace Go.Proofs.Ytdnccjdlmepafaa
set_option linter.unusedSimpArgs false
set_option linter.unusedVariables false
open Go.RowKit Go.BigFrame
attribute [local go_sem ↓] eqPt neqPt
theorem tri_segs (w : World) : SegsN (w.alloc (.cells #[.int .i64 0, .int .i64 0, .int .i64 0, .int .i64 2, .int .i64 0, .int .i64 0, .int .i64 2, .int .i64 0, .int .i64 0, .int .i64 2, .int .i64 2, .int .i64 0] 35)) (.slice (some ⟨w.heap.size, 0, none⟩) 3 3) triE := by
  have hb := Blk.new w 35 #[.int .i64 0, .int .i64 0, .int .i64 0, .int .i64 2, .int .i64 0, .int .i64 0, .int .i64 2, .int .i64 0, .int .i64 0, .int .i64 2, .int .i64 2, .int .i64 0]
  refine ⟨fun h => (by cases h), fun _ => ⟨_, 3, rfl, Nat.le_refl _, fun i hi => ⟨_, 0, rfl, ?_⟩⟩⟩
  have hi3 : i < 3 := hi
  rcases i with _ | _ | _ | i
  · exact ⟨hb.cell 0, hb.cell 1, hb.cell 2, hb.cell 3⟩
  · exact ⟨hb.cell 4, hb.cell 5, hb.cell 6, hb.cell 7⟩
  · exact ⟨hb.cell 8, hb.cell 9, hb.cell 10, hb.cell 11⟩
  · omega
set_option maxRecDepth 100000 in
set_option maxHeartbeats 4000000 in
theorem builds_any (w : World) : Calls Try.prog 6 #[] w fun e w' => e = .returned (.bool true) ∧ Since w w' := by
  have HPT : Hid (∀ x y w', Since w w' → Calls Try.prog 9 #[.int .i64 x, .int .i64 y] w' fun e w2 => e = .returned (.agg #[.int .i64 x, .int .i64 y]) ∧ Since w w2) := fun x y w' h => (ptL_any x y w').mono fun e w2 k => ⟨k.1, h.trans k.2⟩
  have HB := Lib.hid (fun w => Build_any _ triE _ (tri_segs w) tri_ok (by decide))
  have HS : Hid (Since w w) := Since.rfl_ w
  obtain ⟨w0, HW0⟩ : ∃ w0, Hid (w0 = w) := ⟨_, rfl⟩
  rw [← HW0.out] at HPT HS ⊢
  go_enter Try.func6, Try.ntmps6
  rw [HW0.out] at HPT HS ⊢
  clear HW0
  go_wp2_with (go_at_call 9; refine (HPT.out _ _ _ HS.out).mono ?_; clear HS; rintro e w' ⟨rfl, hs⟩; have HS := Lib.hid hs; clear hs)
  refine (HB.out _).mono ?_
  rintro e w2 ⟨vP, vH, vF, P, H, F, rfl, hs2, hms, hb⟩
  obtain ⟨l1, l2⟩ := tri_len hb
  obtain ⟨⟨aP, cP, rfl, -⟩, ⟨aH, cH, rfl, -⟩, ⟨aF, cF, rfl, -⟩⟩ := hms.read
  rw [l1, l2]
  have HS2 : Hid (Since w w2) := (HS.out.alloc _).trans hs2
  clear hs2 hms hb l1 l2 HS
  go_wp2_with fail
  go_ret
  exact ⟨rfl, by have := HS2.out; simp [this]⟩
set_option maxRecDepth 100000 in
set_option maxHeartbeats 4000000 in
theorem ArrLines_walk (vP vH vF : Value) (P : List Pt2) (H : List Hf) (F : List Int) (w : World) (hP : P.length ≤ 1000000000000000) (hH : H.length ≤ 4398046510976) (hF : F.length ≤ maxLen) (hm : MapR w vP vH vF P H F) :
    Calls Try.prog 3 #[.agg #[vP, vH, vF]] w fun e w' => e = .returned (.bool true) ∧ Since w w' := by
  have HL : Hid (∀ w', Since w w' → Calls Try.prog 4 #[.agg #[vP, vH, vF]] w' fun e w2 => LinR w' w2 P H e ∧ Since w' w2) := fun w' k => Lines_any vP vH vF P H F w' (hm.since k) hH hP
  have HSG : Hid (∀ w', Since w w' → Calls Try.prog 5 #[.agg #[vP, vH, vF]] w' fun e w2 => LinR w' w2 P H e ∧ Since w' w2) := fun w' k => SegsOf_any vP vH vF P H F w' (hm.since k) hH hP
  have HBL : Hid (∀ w, Calls Try.prog 6 #[] w fun e w' => e = .returned (.bool true) ∧ Since w w') := builds_any
  have HLEN : Hid ((linK P H (H.length / 2)).length = H.length / 2) := linK_len P H _
  have HEQ : Hid (∀ (x y : Value) (b b' : Nat) (w' : World), w'.ownsRow b 35 4 x (H.length / 2) ((linK P H (H.length / 2)).flatMap sgV) → w'.ownsRow b' 35 4 y (H.length / 2) ((linK P H (H.length / 2)).flatMap sgV) →
      Calls Try.prog 7 #[x, y] w' fun e w2 => e = .returned (.bool true) ∧ Since w' w2) := fun x y b b' w' h h' => by
    rw [← HLEN.out] at h h'
    have := EqualSg_any x y (linK P H (linK P H (H.length / 2)).length) (linK P H (linK P H (H.length / 2)).length) w' (by rw [linK_len, HLEN.out]; omega) (by rw [linK_len, HLEN.out]; omega) (own_rdSg (by rw [linK_len]; exact h)) (own_rdSg (by rw [linK_len]; exact h'))
    rw [decide_eq_true rfl] at this
    exact this
  clear hm hP hH hF HLEN
  go_enter Try.func3, Try.ntmps3
  go_upto_region 1 with fail
  obtain ⟨B, HB⟩ : ∃ B, Hid (B = w.heap.size) := ⟨_, rfl⟩
  rw [← HB.out]
  refine atW (fun w' => Hid (Since w w') ∧ Hid (Blk w' B 26 #[vP, vH, vF])) ⟨(Since.rfl_ w).alloc _, Blk.new' HB.out⟩ ?_
  rintro w1 ⟨HS1, HB1⟩
  have m0 : w1.cell? ⟨B, 0, none⟩ = some vP := HB1.out.cell 0
  have m1 : w1.cell? ⟨B, 1, none⟩ = some vH := HB1.out.cell 1
  have m2 : w1.cell? ⟨B, 2, none⟩ = some vF := HB1.out.cell 2
  go_wp2_with fail
  clear m0 m1 m2
  refine (HL.out w1 HS1.out).mono ?_
  rintro e w2 ⟨hl, hs⟩
  have HS2 : Hid (Since w w2) := HS1.out.trans hs
  have HB2 : Hid (Blk w2 B 26 #[vP, vH, vF]) := hs.blk HB1.out
  have m0 : w2.cell? ⟨B, 0, none⟩ = some vP := HB2.out.cell 0
  have m1 : w2.cell? ⟨B, 1, none⟩ = some vH := HB2.out.cell 1
  have m2 : w2.cell? ⟨B, 2, none⟩ = some vF := HB2.out.cell 2
  clear hs HS1 HB1 HB2
  rcases hl with ⟨hg, x, rfl, ho⟩ | ⟨hn, rfl⟩
  · have HG := Lib.hid hg
    have HO := Lib.hid ho
    clear hg ho
    go_wp2_with fail
    clear m0 m1 m2
    refine (HSG.out w2 HS2.out).mono ?_
    rintro e w3 ⟨hl, hs⟩
    rcases hl with ⟨-, y, rfl, ho⟩ | ⟨hn, rfl⟩
    · have HS3 : Hid (Since w w3) := HS2.out.trans hs
      have HO3 := Lib.hid (own_since hs HO.out)
      have HY3 := Lib.hid ho
      clear hs ho HO HS2
      go_wp2_with fail
      refine (HBL.out w3).mono ?_
      rintro e w4 ⟨rfl, hs⟩
      have HS4 : Hid (Since w w4) := HS3.out.trans hs
      have HO4 := Lib.hid (own_since hs HO3.out)
      have HY4 := Lib.hid (own_since hs HY3.out)
      clear hs HO3 HY3 HS3
      go_wp2_with fail
      refine (HEQ.out _ _ _ _ w4 HO4.out HY4.out).mono ?_
      rintro e w5 ⟨rfl, hs⟩
      have HS5 : Hid (Since w w5) := HS4.out.trans hs
      clear hs
      go_wp2_with fail
      go_ret
      exact ⟨rfl, HS5.out⟩
    · exact absurd HG.out hn
  · have HN := Lib.hid hn
    clear hn
    go_wp2_with fail
    clear m0 m1 m2
    refine (HSG.out w2 HS2.out).mono ?_
    rintro e w3 ⟨hl, hs⟩
    rcases hl with ⟨hg, y, rfl, ho⟩ | ⟨-, rfl⟩
    · exact absurd hg HN.out
    · have HS3 : Hid (Since w w3) := HS2.out.trans hs
      clear hs HS2
      go_wp2_with fail
      refine (HBL.out w3).mono ?_
      rintro e w4 ⟨rfl, hs⟩
      have HS4 : Hid (Since w w4) := HS3.out.trans hs
      clear hs HS3
      go_wp2_with fail
      go_ret
      exact ⟨rfl, HS4.out⟩
end Go.Proofs.Ytdnccjdlmepafaa
end
section
namespace Go.Proofs.Ytdnccjdlmepafaa
set_option linter.unusedSimpArgs false
set_option linter.unusedVariables false
set_option linter.constructorNameAsVariable false
open Go.RowKit Go.BigFrame
open Go.ChangeShapes Go.WideShapes Go.ChangeAt Go.RowKit Go.Joins

theorem ownK : ownKnob Try.prog.godebug = none := by kernel_rfl
theorem laidOutK : laidOutB Try.prog = true := by kernel_rfl
theorem cellsPK : Try.prog.cellsOf 34 = 2 := by kernel_rfl

section
variable {H : Type} {enc : TypeId × Value → H} {W : World} {v : Value} {d : DataW H} {p : List MemPlace}
theorem cellsIK : Try.prog.cellsOf 3 = 1 := by kernel_rfl
theorem pt_open {m : Nat} {c0 c1 : Value} {y : DataW H × List MemPlace} (h : DataW.trod enc Try.prog W 0 (fun _ => true) true m 34 [c0, c1] = some y) : ∃ a b, c0 = .int .i64 a ∧ c1 = .int .i64 b := by
  obtain ⟨y0, y1, n, -, -, h0, h1⟩ := trod_struct2 Try.underlying34 h
  obtain ⟨a, e0, -, -⟩ := DataW.trod_int Try.underlying3 h0
  obtain ⟨b, e1, -, -⟩ := DataW.trod_int Try.underlying3 h1
  rw [cellsIK] at e0 e1
  simp at e0 e1
  exact ⟨a, b, e0, e1⟩
theorem addr_add (b o k : Nat) : (⟨b, o, none⟩ : Addr).add k = ⟨b, o + k, none⟩ := by unfold Addr.add; split <;> simp_all
end
end Go.Proofs.Ytdnccjdlmepafaa
end
