/-
  The walk of terrkeep3.ClipWithin. Conditions: what clip.Line returns.
-/
import Derived.Test.YtcckekdfeeghaaaClipR
import Derived.Test.YtcckekdfeeghaaaClipQ
import Derived.Test.YtcckekdfeeghaaaClipS
namespace Go.Proofs.Ytcckekdfeeghaaa
set_option linter.unusedSimpArgs false
set_option linter.unusedVariables false
open Go.RowKit Go.BigFrame
attribute [local go_sem ↓] eqPt neqPt

instance monoPts {v : Value} {l : List Pt2} : MonoW (fun w => PtsS w v l) := ⟨fun _ _ h k => h.since k⟩
instance monoLis {v : Value} {l : List (List Pt2)} : MonoW (fun w => LisS w v l) := ⟨fun _ _ h k => h.since k⟩
theorem IntsB.more {w : World} {v : Value} {l : List Int} {B B' : Nat} (h : IntsB w v l B) (hB : B ≤ B') : IntsB w v l B' := by
  obtain ⟨a, c, e, h3, h4, h5⟩ := h
  exact ⟨a, c, e, h3, h4, fun i hi => by obtain ⟨g, o, ha, hg, hc⟩ := h5 i hi; exact ⟨g, o, ha, Nat.lt_of_lt_of_le hg hB, hc⟩⟩
theorem step_len (o : List (List Pt2)) (n : List Pt2) (s : SegT) : (lineStep o n s).1.length ≤ o.length + 2 := by
  have h : ∀ (o : List (List Pt2)) (n : List Pt2), (endO o n).length ≤ o.length + 1 := fun o n => by
    unfold endO; split
    · simp
    · omega
  cases s with
  | none => have := h o n; unfold lineStep; dsimp only; omega
  | some p =>
    have hS : (lineS o n p.1).1.length ≤ o.length + 1 := by
      unfold lineS; split
      · dsimp only; omega
      · exact h o n
    unfold lineStep
    dsimp only
    split
    · dsimp only; omega
    · have := h (lineS o n p.1).1 (addQ (addP (lineS o n p.1).2 (cutP p.1)) (cutP p.2))
      dsimp only; omega
theorem run_len {seg : Nat → SegT} : ∀ (k i : Nat) (o : List (List Pt2)) (n : List Pt2), (lineRun seg k i o n).1.length ≤ o.length + 2 * k
  | 0, _, _, _ => by simp [lineRun]
  | k + 1, i, o, n => by
    rw [lineRun]
    have h1 := run_len (seg := seg) k (i + 1) (lineStep o n (seg i)).1 (lineStep o n (seg i)).2
    have h2 := step_len o n (seg i)
    omega
theorem clip_len (l : List Pt2) (lx ly hx hy : Int) : (clipLine l lx ly hx hy).length ≤ 2 * l.length + 1 := by
  unfold clipLine
  split
  · have h1 := run_len (seg := segAt l lx ly hx hy) (l.length - 1) 1 [] []
    simp only [List.length_nil] at h1
    unfold endO; split
    · rw [List.length_append, List.length_singleton]; omega
    · omega
  · simp
theorem rAt_mem {l : List (List Pt2)} {i : Nat} (h : i < l.length) : rAt l i ∈ l := by unfold rAt; simp [List.getD, h]
theorem IsLine_val {l : List Pt2} (v : Value) (w : World) (hb : lineB l = true) (hv : PtsS w v l) : Calls Try.prog 20 #[v] w fun e w' => e = .returned (.bool true) ∧ Since w w' := by
  have := IsLine_any v l w (by have := (lineB_iff.1 hb).2.2.2; omega) hv
  rwa [hb] at this

set_option maxRecDepth 100000 in
set_option maxHeartbeats 4000000 in
theorem Within_walk (hLine : LineSpec) (v0 v1 : Value) (l k : List Int) (w : World) (h0 : IntsB w v0 l w.heap.size) (h1 : IntsB w v1 k w.heap.size) :
    Calls Try.prog 4 #[v0, v1] w fun e w' => e = .returned (.bool true) ∧ Since w w' := by
  have H0 := Lib.hid h0
  have H1 := Lib.hid h1
  obtain ⟨a0, c0, rfl, -⟩ := h0
  obtain ⟨a1, c1, rfl, -⟩ := h1
  go_enter Try.func4, Try.ntmps4
  go_wp2_with fail
  refine (window_any _ k _ H1.out).mono ?_
  rintro e w1 ⟨rfl, hs1⟩
  have HI : Hid (IntsB w1 (.slice a0 l.length c0) l w1.heap.size) := by
    obtain ⟨a, c, e, h3, h4, h5⟩ := H0.out
    exact ⟨a, c, e, h3, h4, fun i hi => by obtain ⟨g, o, ha, hg, hc⟩ := h5 i hi; exact ⟨g, o, ha, Nat.lt_of_lt_of_le hg hs1.size, keepC hs1 _ _ hc⟩⟩
  have HS1 := Lib.hid hs1
  clear hs1 H0 H1
  generalize (winV k).1 = lx at *
  generalize (winV k).2.1 = ly at *
  generalize (winV k).2.2.1 = hx at *
  generalize (winV k).2.2.2 = hy at *
  go_upto_region 2 with fail
  have hbx : Blk (w1.alloc (.cells #[.int .i64 lx, .int .i64 ly, .int .i64 hx, .int .i64 hy] 28)) w1.heap.size 28 #[.int .i64 lx, .int .i64 ly, .int .i64 hx, .int .i64 hy] := Blk.new _ _ _
  have HI2 : Hid (IntsB (w1.alloc (.cells #[.int .i64 lx, .int .i64 ly, .int .i64 hx, .int .i64 hy] 28)) (.slice a0 l.length c0) l w1.heap.size) := HI.out.since ((Since.rfl_ _).alloc _)
  have HS2 := Lib.hid (HS1.out.alloc (.cells #[.int .i64 lx, .int .i64 ly, .int .i64 hx, .int .i64 hy] 28))
  obtain ⟨gb, HGB⟩ : ∃ gb, gb = w1.heap.size := ⟨_, rfl⟩
  rw [← HGB] at hbx HI2 ⊢
  clear HGB
  generalize w1.alloc (.cells #[.int .i64 lx, .int .i64 ly, .int .i64 hx, .int .i64 hy] 28) = w2 at *
  have b_0 := hbx.cell 0
  have b_1 := hbx.cell 1
  have b_2 := hbx.cell 2
  have b_3 := hbx.cell 3
  simp only [List.getElem?_toArray, List.getElem?_cons_zero, List.getElem?_cons_succ] at b_0 b_1 b_2 b_3
  have HB := Lib.hid hbx
  have lb := hbx.lt
  clear hbx HI HS1
  apply region_facts 4 (fun w' => w'.cell? ⟨gb, 0, none⟩ = some (.int .i64 lx) ∧ w'.cell? ⟨gb, 1, none⟩ = some (.int .i64 ly) ∧ w'.cell? ⟨gb, 2, none⟩ = some (.int .i64 hx) ∧ w'.cell? ⟨gb, 3, none⟩ = some (.int .i64 hy) ∧ Since w2 w')
  case hm => kernel_rfl
  case hB => kernel_rfl
  case hS => exact ⟨b_0, b_1, b_2, b_3, (Since.rfl_ w2).drew⟩
  case h =>
  simp only [List.take_succ_cons, List.take_zero, List.drop_succ_cons, List.drop_zero]
  apply wpO_det
  case hw => rfl
  case h =>
    intro hFm wx hS_ hF_ K hK
    go_big_quiet_op
    first
      | exact hK _ rfl
      | (apply Exists.intro; refine ⟨fun _ => ?_, ?_⟩; (focus (first | (intro hC; have hC := hC.out; (try simp only [hC, Result.andThen]); first | exact ⟨True.intro, rfl⟩ | exact ⟨rfl, rfl⟩ | rfl))); exact hK _ rfl)
  case k =>
  simp only [Act.put, List.setIfInBounds_toArray, List.set_cons_succ, List.set_cons_zero, List.cons_append, List.nil_append]
  apply wpO_any (R := fun v w => PtsS w v (mline l))
  case hR => exact (fun v w w' h k => h.since k)
  case hw => rfl
  case h =>
    intro wx hS_ hF_
    unfold runV
    simp [go_sem]
    (refine (MLine_any _ l wx (IntsB.more (HI2.out.since hS_.2.2.2.2) (Nat.le_trans (Nat.le_of_lt lb) hS_.2.2.2.2.size))).mono ?_; rintro e w' ⟨v', rfl, hv, hs⟩; exact ⟨v', rfl, hv, hs⟩)
  case k =>
  intro v13
  simp only [Act.put, List.setIfInBounds_toArray, List.set_cons_succ, List.set_cons_zero, List.cons_append, List.nil_append]
  apply wpO_det
  case hw => rfl
  case h =>
    intro hFm wx hS_ hF_ K hK
    go_big_quiet_op
    first
      | exact hK _ rfl
      | (apply Exists.intro; refine ⟨fun _ => ?_, ?_⟩; (focus (first | (intro hC; have hC := hC.out; (try simp only [hC, Result.andThen]); first | exact ⟨True.intro, rfl⟩ | exact ⟨rfl, rfl⟩ | rfl))); exact hK _ rfl)
  case k =>
  simp only [Act.put, List.setIfInBounds_toArray, List.set_cons_succ, List.set_cons_zero, List.cons_append, List.nil_append]
  apply wpO_any (R := fun v w => LisS w v (clipLine (mline l) lx ly hx hy))
  case hR => exact (fun v w w' h k => h.since k)
  case hw => rfl
  case h =>
    intro wx hS_ hF_
    unfold runV
    simp [go_sem]
    (obtain ⟨hp13, -⟩ := hF_; refine (hLine _ (mline l) _ _ _ _ wx (by have := (mline_good l).2.2; omega) hp13).mono ?_; rintro e w' ⟨v', rfl, hv, hs⟩; exact ⟨v', rfl, hv, hs⟩)
  case k =>
  intro v15
  simp only [Act.put, List.setIfInBounds_toArray, List.set_cons_succ, List.set_cons_zero, List.cons_append, List.nil_append]
  refine wpO_nil ?_
  intro w3 hS hF hB
  (try simp [allF] at hF)
  (try simp [List.pairwise_cons] at hB)
  have HL3 := Lib.hid hF.2
  have HB3 := Lib.hid (hS.2.2.2.2.blk HB.out)
  have HS3 := Lib.hid (HS2.out.trans hS.2.2.2.2)
  obtain ⟨av, cv, rfl⟩ : ∃ av cv, v15 = .slice av (clipLine (mline l) lx ly hx hy).length cv := by obtain ⟨av, cv, h, -⟩ := HL3.out; exact ⟨av, cv, h⟩
  clear hF hS HB HI2 HS2 b_0 b_1 b_2 b_3
  have hal : (clipLine (mline l) lx ly hx hy).length ≤ 100 := by have := clip_len (mline l) lx ly hx hy; have := (mline_good l).2.2; omega
  have HG := Lib.hid (fun (i : Nat) (hi : i < (clipLine (mline l) lx ly hx hy).length) => And.intro (clip_good (rAt_mem hi)) (clip_again (rAt_mem hi)))
  generalize clipLine (mline l) lx ly hx hy = all at *
  go_wp2_with fail
  refine (cutsK_any hLine _).mono ?_
  rintro e w4 ⟨rfl, hs⟩
  have HL4 := Lib.hid (HL3.out.since hs)
  have HB4 := Lib.hid (hs.blk HB3.out)
  have HS4 := Lib.hid (HS3.out.trans hs)
  clear hs HL3 HB3 HS3
  go_wp2_with fail
  go_loopw [20] (fun v wr => ∃ j : Nat, j ≤ all.length ∧ v = .int .i64 j ∧ Since w4 wr) (fun v _ => all.length - (intOf v).toNat)
  case atStart => exact ⟨0, Nat.zero_le _, rfl, Since.rfl_ w4⟩
  case round =>
    obtain ⟨j, hj, rfl, hs⟩ := hrel
    rcases Nat.lt_or_ge j all.length with hlt | hge
    · obtain ⟨⟨hgb, hgl, hgi⟩, hga⟩ := HG.out j hlt
      obtain ⟨a, c, e, hlis⟩ := HL4.out
      injection e with ea _ ec
      subst ea ec
      obtain ⟨g, o, ha, u, e0, hp⟩ := hlis j hlt
      subst ha
      replace e0 := keepC hs _ _ e0
      have hlen := (lineB_iff.1 hgl).2.2.2
      obtain ⟨au, cu, rfl⟩ : ∃ au cu, u = .slice au (rAt all j).length cu := by obtain ⟨au, cu, h, -⟩ := hp; exact ⟨au, cu, h⟩
      have HP := Lib.hid (hp.since hs)
      have HBr := Lib.hid (hs.blk HB4.out)
      have HSr := Lib.hid hs
      have HGL := Lib.hid (And.intro hgl (And.intro hgi hga))
      clear hs hp hlis hgl hgi hga hgb
      go_wp2_with fail
      refine (IsLine_val _ _ HGL.out.1 HP.out).mono ?_
      rintro e w5 ⟨rfl, hs⟩
      have HP5 := Lib.hid (HP.out.since hs)
      have HB5 := Lib.hid (hs.blk HBr.out)
      have HS5 := Lib.hid (HSr.out.trans hs)
      clear hs HP HBr HSr e0
      go_wp2_with fail
      refine (ContainsNone_any _ (rAt all j) lx ly hx hy gb _ (by omega) HP5.out HB5.out (fun i hi => HGL.out.2.1 _ (pAt_mem hi))).mono ?_
      rintro e w6 ⟨rfl, hs⟩
      have HP6 := Lib.hid (HP5.out.since hs)
      have HB6 := Lib.hid (hs.blk HB5.out)
      have HS6 := Lib.hid (HS5.out.trans hs)
      clear hs HP5 HB5 HS5
      have lb6 := HB6.out.lt
      have hb := HB6.out
      have b_0 := hb.cell 0
      have b_1 := hb.cell 1
      have b_2 := hb.cell 2
      have b_3 := hb.cell 3
      simp only [List.getElem?_toArray, List.getElem?_cons_zero, List.getElem?_cons_succ] at b_0 b_1 b_2 b_3
      clear hb
      go_wp2_with fail
      refine (hLine _ (rAt all j) _ _ _ _ _ (by omega) HP6.out).mono ?_
      rintro e w7 ⟨v', rfl, hv, hs⟩
      rw [HGL.out.2.2] at hv
      have HV7 := Lib.hid hv
      obtain ⟨a7, c7, rfl⟩ : ∃ a7 c7, v' = .slice a7 1 c7 := by obtain ⟨a7, c7, h, -⟩ := hv; exact ⟨a7, c7, h⟩
      have HP7 := Lib.hid (HP6.out.since hs)
      have HS7 := Lib.hid (HS6.out.trans hs)
      clear hs hv HP6 HB6 HS6 b_0 b_1 b_2 b_3
      go_wp2_with fail
      have hA := (Since.rfl_ w7).alloc (.cells #[.slice au (rAt all j).length cu] 32)
      refine (lists_any _ _ [rAt all j] [rAt all j] _ (short_one (by omega)) (short_one (by omega)) (HV7.out.since hA) (lis_one (Blk.new' rfl) (HP7.out.since hA))).mono ?_
      rintro e w8 ⟨rfl, hs⟩
      have HS8 := Lib.hid ((HS7.out.trans hA).trans hs)
      have ht : decide ([rAt all j] = [rAt all j]) = true := decide_eq_true rfl
      rw [ht]
      clear hA hs ht
      go_wp2
      go_roundw
      case rel => exact ⟨j + 1, by omega, by go_num, HS8.out⟩
      case measure => simp [intOf]; omega
    · have HSr := Lib.hid hs
      clear hs
      go_wp2
      go_ret
      exact ⟨rfl, HS4.out.trans HSr.out⟩
end Go.Proofs.Ytcckekdfeeghaaa
