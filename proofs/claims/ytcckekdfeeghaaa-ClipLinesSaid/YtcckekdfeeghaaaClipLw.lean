/-
  The walk of terrlaw3.ClipLines. Conditions: what clip.Segment and clip.Line return.
-/
import Derived.Test.YtcckekdfeeghaaaClipCw
import Derived.Test.YtcckekdfeeghaaaClipQ
import Derived.Test.YtcckekdfeeghaaaClipU
namespace Go.Proofs.Ytcckekdfeeghaaa
set_option linter.unusedSimpArgs false
set_option linter.unusedVariables false
open Go.RowKit Go.BigFrame
attribute [local go_sem ↓] eqPt neqPt

/-- The text's line and the reference's. -/
theorem clip_ref {l : List Pt2} {lx ly hx hy : Int} (h1 : lineB l = true) (h2 : okB lx ly hx hy = true) : clipLine l lx ly hx hy = clippedV l lx ly hx hy := by
  unfold clipLine clippedV
  rw [if_pos (by rw [h1, h2]; rfl)]
  have shift : ∀ (k i : Nat) (o : List (List Pt2)) (n : List Pt2), lineRun (segAt l lx ly hx hy) k (i + 1) o n = lineRun (fun i => segAt l lx ly hx hy (i + 1)) k i o n := by
    intro k
    induction k with
    | zero => intro i o n; rfl
    | succ k ih => intro i o n; rw [lineRun, lineRun, ih]
  rw [shift _ 0, line_same]
theorem clip_none {l : List Pt2} {lx ly hx hy : Int} (h : (lineB l && okB lx ly hx hy) = false) : clipLine l lx ly hx hy = [] := by
  unfold clipLine; rw [if_neg (by rw [h]; simp)]

set_option maxRecDepth 100000 in
set_option maxHeartbeats 4000000 in
theorem Lines_walk (hLine : LineSpec) (v : Value) (l : List Pt2) (lx ly hx hy : Int) (w : World) (hl : l.length ≤ 1000000000000000) (hv : PtsS w v l) :
    Calls Try.prog 8 #[v, .agg #[.int .i64 lx, .int .i64 ly, .int .i64 hx, .int .i64 hy]] w fun e w' => e = .returned (.bool true) ∧ Since w w' := by
  have HV := Lib.hid hv
  obtain ⟨a, c, rfl, hv0⟩ := hv
  have HV0 := Lib.hid hv0
  clear hv0
  go_enter Try.func8, Try.ntmps8
  go_wp2_with fail
  refine (cutsL_any hLine _).mono ?_
  rintro e w1 ⟨rfl, hs⟩
  have hA := (Since.rfl_ w).alloc (.cells #[.int .i64 lx, .int .i64 ly, .int .i64 hx, .int .i64 hy] 28)
  have HB1 := Lib.hid (hs.blk (Blk.new w 28 #[.int .i64 lx, .int .i64 ly, .int .i64 hx, .int .i64 hy]))
  have HS1 := Lib.hid (hA.trans hs)
  clear hA hs
  clear HV
  have HV1 := Lib.hid (PtsS.since (w' := w1) ⟨a, c, rfl, HV0.out⟩ HS1.out)
  have HVc := Lib.hid (fun (w' : World) (k : Since w w') => (PtsS.since ⟨a, c, rfl, HV0.out⟩ k : PtsS w' (.slice a l.length c) l))
  obtain ⟨b0, HB0⟩ : ∃ b0, Hid (b0 = (decide (2 ≤ l.length) && decide (l.length ≤ 200))) := ⟨_, rfl⟩
  go_upto_region 3 with fail
  go_cut [5] (fun v5 w' => v5 = .bool b0 ∧ w1 = w')
  case first =>
    as_aux_lemma =>
    cases h1 : decide ((1 : Int) < l.length) <;> cases h2 : decide ((l.length : Int) ≤ 200)
    all_goals
      go_wp2_with fail
      go_meet
      refine ⟨?_, rfl⟩
      rw [HB0.out]
      simp only [decide_eq_true_eq, decide_eq_false_iff_not] at h1 h2
      congr 1
      first
        | rw [decide_eq_true (show 2 ≤ l.length by omega), decide_eq_true (show l.length ≤ 200 by omega)]; rfl
        | rw [decide_eq_true (show 2 ≤ l.length by omega), decide_eq_false (show ¬ l.length ≤ 200 by omega)]; rfl
        | rw [decide_eq_false (show ¬ 2 ≤ l.length by omega)]; rfl
  case rest =>
  obtain ⟨rfl, rfl⟩ := hcut
  go_wp2_with fail
  go_loopw [20, 5] (fun v20 v5 wr => ∃ (k : Nat) (b : Bool), k ≤ l.length ∧ v20 = .int .i64 k ∧ v5 = .bool b ∧ Hid (b = (b0 && (List.range k).all (goodAt l))) ∧ Hid (Since w1 wr)) (fun v _ _ => l.length - (intOf v).toNat)
  case atStart => exact ⟨0, b0, Nat.zero_le _, rfl, rfl, by show _ = _; simp, Since.rfl_ w1⟩
  case round =>
    obtain ⟨k, b, hk, rfl, rfl, HG, HS⟩ := hrel
    rcases Nat.lt_or_ge k l.length with hlt | hge
    · obtain ⟨g, o, ha, e0, e1⟩ := HV0.out k hlt
      subst ha
      have hs := HS1.out.trans HS.out
      replace e0 := keepC hs _ _ e0
      replace e1 := keepC hs _ _ e1
      have lg := World.block_lt_of_cell? wr _ e0
      have HG2 : Hid ((b && goodAt l k) = (b0 && (List.range (k + 1)).all (goodAt l))) := by
        show _ = _
        rw [HG.out, List.range_succ, List.all_append, List.all_cons, List.all_nil, Bool.and_true, Bool.and_assoc]
      go_upto_region 7 with fail
      clear hs HV1
      cases b
      · refine region_cls (fun w' => w'.cell? ⟨wr.heap.size, 0, none⟩ = some (.int .i64 (pAt l k).1) ∧ w'.cell? ⟨wr.heap.size, 1, none⟩ = some (.int .i64 (pAt l k).2) ∧ Since wr w') (by kernel_rfl) (by kernel_rfl) (by (repeat' refine And.intro ?_ ?_) <;> first | (simp (maxDischargeDepth := 9) [ cSetS, cSetO, cellNew, World.cell?_alloc_some, cellDrew]; done) | (repeat (first | with_reducible assumption | with_reducible exact Since.rfl_ _ | refine Since.setCell ?_ (by (try dsimp only); omega) _ | refine Since.alloc ?_ _ | refine Since.drew ?_))) ?_
        repeat (go_big_quiet_step ((first | (intro hC; have hC := hC.out; (try simp only [hC, Result.andThen]); first | exact ⟨True.intro, rfl⟩ | exact ⟨rfl, rfl⟩ | rfl))))
        refine cls_end ?_
        rintro w3 ⟨-, -, hs⟩
        have HS2 := Lib.hid (HS.out.trans hs)
        clear hs
        go_wp2_with fail
        go_roundw
        case rel => exact ⟨k + 1, false, by omega, by go_num, rfl, by show _ = _; rw [← HG2.out]; rfl, HS2⟩
        case measure => simp [intOf]; omega
      · cases h1 : okP (pAt l k).1 (pAt l k).2
        · have HG1 : Hid (goodAt l k = false) := by show _ = _; unfold goodAt; rw [h1]; rfl
          have HO := Lib.hid (fun w => h1 ▸ okR_any (pAt l k).1 (pAt l k).2 w)
          clear h1
          refine region_cls (fun w' => w'.cell? ⟨wr.heap.size, 0, none⟩ = some (.int .i64 (pAt l k).1) ∧ w'.cell? ⟨wr.heap.size, 1, none⟩ = some (.int .i64 (pAt l k).2) ∧ Since wr w') (by kernel_rfl) (by kernel_rfl) (by (repeat' refine And.intro ?_ ?_) <;> first | (simp (maxDischargeDepth := 9) [ cSetS, cSetO, cellNew, World.cell?_alloc_some, cellDrew]; done) | (repeat (first | with_reducible assumption | with_reducible exact Since.rfl_ _ | refine Since.setCell ?_ (by (try dsimp only); omega) _ | refine Since.alloc ?_ _ | refine Since.drew ?_))) ?_
          repeat (go_big_quiet_step ((first | (intro hC; go_at_call 32; refine (HO.out _).mono ?_; rintro e w' ⟨rfl, hb⟩; refine ⟨rfl, ?_⟩; have k1 := keepC hb; have k2 := keepS hb; have hC := hC.out; (try dsimp only at hC); simp [Cls, hC, k1, k2]) | (intro hC; have hC := hC.out; (try simp only [hC, Result.andThen]); first | exact ⟨True.intro, rfl⟩ | exact ⟨rfl, rfl⟩ | rfl))))
          refine cls_end ?_
          rintro w3 ⟨-, -, hs⟩
          have HS2 := Lib.hid (HS.out.trans hs)
          clear hs
          go_wp2_with fail
          go_roundw
          case rel => exact ⟨k + 1, false, by omega, by go_num, rfl, by show _ = _; rw [← HG2.out]; rw [HG1.out]; rfl, HS2⟩
          case measure => simp [intOf]; omega
        · have HO := Lib.hid (fun w => h1 ▸ okR_any (pAt l k).1 (pAt l k).2 w)
          rcases k with _ | k
          · have HG1 : Hid (goodAt l 0 = true) := by show _ = _; unfold goodAt; rw [h1]; rfl
            clear h1
            refine region_cls (fun w' => w'.cell? ⟨wr.heap.size, 0, none⟩ = some (.int .i64 (pAt l 0).1) ∧ w'.cell? ⟨wr.heap.size, 1, none⟩ = some (.int .i64 (pAt l 0).2) ∧ Since wr w') (by kernel_rfl) (by kernel_rfl) (by (repeat' refine And.intro ?_ ?_) <;> first | (simp (maxDischargeDepth := 9) [ cSetS, cSetO, cellNew, World.cell?_alloc_some, cellDrew]; done) | (repeat (first | with_reducible assumption | with_reducible exact Since.rfl_ _ | refine Since.setCell ?_ (by (try dsimp only); omega) _ | refine Since.alloc ?_ _ | refine Since.drew ?_))) ?_
            repeat (go_big_quiet_step ((first | (intro hC; go_at_call 32; refine (HO.out _).mono ?_; rintro e w' ⟨rfl, hb⟩; refine ⟨rfl, ?_⟩; have k1 := keepC hb; have k2 := keepS hb; have hC := hC.out; (try dsimp only at hC); simp [Cls, hC, k1, k2]) | (intro hC; have hC := hC.out; (try simp only [hC, Result.andThen]); first | exact ⟨True.intro, rfl⟩ | exact ⟨rfl, rfl⟩ | rfl))))
            refine cls_end ?_
            rintro w3 ⟨-, -, hs⟩
            have HS2 := Lib.hid (HS.out.trans hs)
            clear hs
            go_wp2_with fail
            go_roundw
            case rel => exact ⟨0 + 1, true, by omega, by go_num, rfl, by show _ = _; rw [← HG2.out]; rw [HG1.out]; rfl, HS2⟩
            case measure => simp [intOf]; omega
          · have HG1 : Hid (goodAt l (k + 1) = !((pAt l k).1 == (pAt l (k + 1)).1 && (pAt l k).2 == (pAt l (k + 1)).2)) := by
              show _ = _; unfold goodAt; rw [h1, decide_eq_true (Nat.succ_pos k), Nat.add_sub_cancel]
              rw [show ((pAt l (k + 1)).1 == (pAt l k).1) = ((pAt l k).1 == (pAt l (k + 1)).1) from Bool.beq_comm, show ((pAt l (k + 1)).2 == (pAt l k).2) = ((pAt l k).2 == (pAt l (k + 1)).2) from Bool.beq_comm]; rfl
            clear h1
            obtain ⟨g', o', ha, d0, d1⟩ := HV0.out k (by omega)
            injection ha with ha
            injection ha with hg' ho'
            subst hg' ho'
            replace d0 := keepC (HS1.out.trans HS.out) _ _ d0
            replace d1 := keepC (HS1.out.trans HS.out) _ _ d1
            have z1 : (((k + 1 : Nat) : Int) == 0) = false := by rw [beq_eq_false_iff_ne]; omega
            have z2 : (((k : Int) + 1) == 0) = false := by rw [beq_eq_false_iff_ne]; omega
            refine region_cls (fun w' => w'.cell? ⟨wr.heap.size, 0, none⟩ = some (.int .i64 (pAt l (k + 1)).1) ∧ w'.cell? ⟨wr.heap.size, 1, none⟩ = some (.int .i64 (pAt l (k + 1)).2) ∧ w'.cell? ⟨g, o + k * 2, none⟩ = some (.int .i64 (pAt l k).1) ∧ w'.cell? ⟨g, o + k * 2 + 1, none⟩ = some (.int .i64 (pAt l k).2) ∧ Since wr w') (by kernel_rfl) (by kernel_rfl) (by (repeat' refine And.intro ?_ ?_) <;> first | (simp (maxDischargeDepth := 9) [d0, d1,  cSetS, cSetO, cellNew, World.cell?_alloc_some, cellDrew]; done) | (repeat (first | with_reducible assumption | with_reducible exact Since.rfl_ _ | refine Since.setCell ?_ (by (try dsimp only); omega) _ | refine Since.alloc ?_ _ | refine Since.drew ?_))) ?_
            repeat (go_big_quiet_step ((first | (intro hC; go_at_call 32; refine (HO.out _).mono ?_; rintro e w' ⟨rfl, hb⟩; refine ⟨rfl, ?_⟩; have k1 := keepC hb; have k2 := keepS hb; have hC := hC.out; (try dsimp only at hC); simp [Cls, hC, k1, k2]) | (intro hC; have hC := hC.out; (try simp only [hC, Result.andThen]); first | exact ⟨True.intro, rfl⟩ | exact ⟨rfl, rfl⟩ | rfl))))
            refine cls_end ?_
            rintro w3 ⟨-, -, -, -, hs⟩
            have HS2 := Lib.hid (HS.out.trans hs)
            clear hs
            go_wp2_with fail
            go_roundw
            case rel => exact ⟨(k + 1) + 1, !(pAt l k).1 == (pAt l (k + 1)).1 || !(pAt l k).2 == (pAt l (k + 1)).2, by omega, by go_num, rfl, by show _ = _; rw [← HG2.out]; rw [HG1.out, Bool.true_and, Bool.not_and], HS2⟩
            case measure => simp [intOf]; omega
    · have HL : Hid (b = lineB l) := by
        show _ = _
        rw [HG.out, HB0.out, show k = l.length by omega]
        unfold lineB
        cases decide (2 ≤ l.length) <;> cases decide (l.length ≤ 200) <;> cases (List.range l.length).all (goodAt l) <;> rfl
      have HS3 := Lib.hid (HS1.out.trans HS.out)
      have HBx := Lib.hid (HS.out.blk HB1.out)
      clear HG HB0 HV1
      obtain ⟨w2, rfl⟩ : ∃ w2, w2 = wr := ⟨_, rfl⟩
      go_wp2_with fail
      refine (IsLine_any _ l _ hl (HVc.out _ HS3.out)).mono ?_
      rintro e w3 ⟨rfl, hs⟩
      rw [← HL.out]
      have HS4 := Lib.hid (HS3.out.trans hs)
      have HB4 := Lib.hid (hs.blk HBx.out)
      clear hs HS3 HBx HS HS1 HB1
      have b_0 : w3.cell? ⟨w.heap.size, 0, none⟩ = some (.int .i64 lx) := HB4.out.cell 0
      have b_1 : w3.cell? ⟨w.heap.size, 1, none⟩ = some (.int .i64 ly) := HB4.out.cell 1
      have b_2 : w3.cell? ⟨w.heap.size, 2, none⟩ = some (.int .i64 hx) := HB4.out.cell 2
      have b_3 : w3.cell? ⟨w.heap.size, 3, none⟩ = some (.int .i64 hy) := HB4.out.cell 3
      cases b
      · have HN : Hid (clipLine l lx ly hx hy = []) := clip_none (by rw [← HL.out]; rfl)
        go_wp2_with fail
        refine (hLine _ l lx ly hx hy _ hl (HVc.out _ HS4.out)).mono ?_
        rintro e w4 ⟨v', rfl, hli, hs⟩
        rw [HN.out] at hli
        obtain ⟨av, cv, rfl, -⟩ := hli
        have HS5 := Lib.hid (HS4.out.trans hs)
        clear hs
        simp only [List.length_nil]
        go_wp2
        go_ret
        exact ⟨rfl, HS5.out⟩
      · cases hb : okB lx ly hx hy
        · have HN : Hid (clipLine l lx ly hx hy = []) := clip_none (by rw [hb]; simp)
          have HX := Lib.hid (fun w => hb ▸ okBR_any lx ly hx hy w)
          clear hb
          go_wp2_with fail
          refine (HX.out _).mono ?_
          rintro e w4 ⟨rfl, hs⟩
          have HS5 := Lib.hid (HS4.out.trans hs)
          have hb5 := hs.blk HB4.out
          have d_0 := hb5.cell 0
          have d_1 := hb5.cell 1
          have d_2 := hb5.cell 2
          have d_3 := hb5.cell 3
          simp only [List.getElem?_toArray, List.getElem?_cons_zero, List.getElem?_cons_succ] at d_0 d_1 d_2 d_3
          clear hs hb5
          go_wp2_with fail
          refine (hLine _ l lx ly hx hy _ hl (HVc.out _ HS5.out)).mono ?_
          rintro e w5 ⟨v', rfl, hli, hs⟩
          rw [HN.out] at hli
          obtain ⟨av, cv, rfl, -⟩ := hli
          have HS6 := Lib.hid (HS5.out.trans hs)
          clear hs
          simp only [List.length_nil]
          go_wp2
          go_ret
          exact ⟨rfl, HS6.out⟩
        · have HK := Lib.hid (And.intro HL.out.symm hb)
          have HX := Lib.hid (fun w => hb ▸ okBR_any lx ly hx hy w)
          clear hb
          go_wp2_with fail
          refine (HX.out _).mono ?_
          rintro e w4 ⟨rfl, hs⟩
          have HS5 := Lib.hid (HS4.out.trans hs)
          have hb5 := hs.blk HB4.out
          have d_0 := hb5.cell 0
          have d_1 := hb5.cell 1
          have d_2 := hb5.cell 2
          have d_3 := hb5.cell 3
          simp only [List.getElem?_toArray, List.getElem?_cons_zero, List.getElem?_cons_succ] at d_0 d_1 d_2 d_3
          clear hs hb5 b_0 b_1 b_2 b_3
          have HSh : Hid (shortL (clipLine l lx ly hx hy)) := by
            have h2 := lineB_len HK.out.1
            refine ⟨by have := clip_len l lx ly hx hy; omega, fun i hi => ?_⟩
            have := (lineB_iff.1 (clip_good (rAt_mem hi)).2.1).2.2.2
            omega
          have HEq := Lib.hid (clip_ref HK.out.1 HK.out.2)
          go_upto_region 13 with fail
          apply region_facts 7 (fun w' => w'.cell? ⟨w.heap.size, 0, none⟩ = some (.int .i64 lx) ∧ w'.cell? ⟨w.heap.size, 1, none⟩ = some (.int .i64 ly) ∧ w'.cell? ⟨w.heap.size, 2, none⟩ = some (.int .i64 hx) ∧ w'.cell? ⟨w.heap.size, 3, none⟩ = some (.int .i64 hy) ∧ Since w4 w')
          case hm => kernel_rfl
          case hB => kernel_rfl
          case hS => exact ⟨d_0, d_1, d_2, d_3, (Since.rfl_ w4).drew⟩
          case h =>
          simp only [List.take_succ_cons, List.take_zero, List.drop_succ_cons, List.drop_zero]
          apply wpO_det
          case hw => rfl
          case h =>
            intro hFm wx hS_ hF_ K hK
            go_big_quiet_op
            first
              | exact hK _ rfl
              | (apply Exists.intro; refine ⟨fun _ => ?_, ?_⟩; (focus (first | (intro hC; have hC := hC.out; (try simp only [hC, Result.andThen]); first | exact ⟨True.intro, rfl⟩ | exact ⟨rfl, rfl⟩ | rfl))); exact hK _ rfl)
          case k =>
          simp only [Act.put, List.setIfInBounds_toArray, List.set_cons_succ, List.set_cons_zero, List.cons_append, List.nil_append]
          apply wpO_det
          case hw => rfl
          case h =>
            intro hFm wx hS_ hF_ K hK
            go_big_quiet_op
            first
              | exact hK _ rfl
              | (apply Exists.intro; refine ⟨fun _ => ?_, ?_⟩; (focus (first | (intro hC; have hC := hC.out; (try simp only [hC, Result.andThen]); first | exact ⟨True.intro, rfl⟩ | exact ⟨rfl, rfl⟩ | rfl))); exact hK _ rfl)
          case k =>
          simp only [Act.put, List.setIfInBounds_toArray, List.set_cons_succ, List.set_cons_zero, List.cons_append, List.nil_append]
          apply wpO_any (R := fun v w => LisS w v (clipLine l lx ly hx hy))
          case hR => exact (fun v w w' h k => h.since k)
          case hw => rfl
          case h =>
            intro wx hS_ hF_
            unfold runV
            simp [go_sem]
            (refine (hLine _ l lx ly hx hy wx hl (HVc.out _ (HS5.out.trans hS_.2.2.2.2))).mono ?_; rintro e w' ⟨v', rfl, hv, hs⟩; exact ⟨v', rfl, hv, hs⟩)
          case k =>
          intro v62
          simp only [Act.put, List.setIfInBounds_toArray, List.set_cons_succ, List.set_cons_zero, List.cons_append, List.nil_append]
          apply wpO_det
          case hw => rfl
          case h =>
            intro hFm wx hS_ hF_ K hK
            go_big_quiet_op
            first
              | exact hK _ rfl
              | (apply Exists.intro; refine ⟨fun _ => ?_, ?_⟩; (focus (first | (intro hC; have hC := hC.out; (try simp only [hC, Result.andThen]); first | exact ⟨True.intro, rfl⟩ | exact ⟨rfl, rfl⟩ | rfl))); exact hK _ rfl)
          case k =>
          simp only [Act.put, List.setIfInBounds_toArray, List.set_cons_succ, List.set_cons_zero, List.cons_append, List.nil_append]
          apply wpO_det
          case hw => rfl
          case h =>
            intro hFm wx hS_ hF_ K hK
            go_big_quiet_op
            first
              | exact hK _ rfl
              | (apply Exists.intro; refine ⟨fun _ => ?_, ?_⟩; (focus (first | (intro hC; have hC := hC.out; (try simp only [hC, Result.andThen]); first | exact ⟨True.intro, rfl⟩ | exact ⟨rfl, rfl⟩ | rfl))); exact hK _ rfl)
          case k =>
          simp only [Act.put, List.setIfInBounds_toArray, List.set_cons_succ, List.set_cons_zero, List.cons_append, List.nil_append]
          apply wpO_any (R := fun v w => LisS w v (clippedV l lx ly hx hy))
          case hR => exact (fun v w w' h k => h.since k)
          case hw => rfl
          case h =>
            intro wx hS_ hF_
            unfold runV
            simp [go_sem]
            (refine (Clipped_any _ l lx ly hx hy wx HK.out.1 HK.out.2 (HVc.out _ (HS5.out.trans hS_.2.2.2.2))).mono ?_; rintro e w' ⟨⟨v', rfl, hv⟩, hs⟩; exact ⟨v', rfl, hv, hs⟩)
          case k =>
          intro v65
          simp only [Act.put, List.setIfInBounds_toArray, List.set_cons_succ, List.set_cons_zero, List.cons_append, List.nil_append]
          have HLs : Hid (∀ w', LisS w' v62 (clipLine l lx ly hx hy) → LisS w' v65 (clippedV l lx ly hx hy) → Calls Try.prog 35 #[v62, v65] w' fun e w'' => e = .returned (.bool true) ∧ Since w' w'') := fun w' h1 h2 => by
            refine (listsL_any v62 v65 _ _ w' HSh.out (HEq.out ▸ HSh.out) h1 h2).mono ?_
            rintro e w'' ⟨rfl, hs⟩
            exact ⟨by rw [decide_eq_true HEq.out], hs⟩
          apply wpO_det
          case hw => rfl
          case h =>
            intro hFm wx hS_ hF_ K hK
            go_big_quiet_op
            first
              | exact hK _ rfl
              | (apply Exists.intro; refine ⟨fun _ => ?_, ?_⟩; (focus (first | (intro hC; go_at_call 35; refine (HLs.out _ hC.out.2.1.1 hC.out.2.1.2.1).mono ?_; rintro e w' ⟨rfl, hb⟩; refine ⟨rfl, ?_⟩; exact cls_call hFm hC hb))); exact hK _ rfl)
          case k =>
          simp only [Act.put, List.setIfInBounds_toArray, List.set_cons_succ, List.set_cons_zero, List.cons_append, List.nil_append]
          refine wpO_nil ?_
          intro w5 hS hF hB
          (try simp [allF] at hF)
          (try simp [List.pairwise_cons] at hB)
          have HS6 := Lib.hid (HS5.out.trans hS.2.2.2.2)
          clear hS hF hB HLs
          go_wp2
          go_ret
          exact ⟨rfl, HS6.out⟩
end Go.Proofs.Ytcckekdfeeghaaa
