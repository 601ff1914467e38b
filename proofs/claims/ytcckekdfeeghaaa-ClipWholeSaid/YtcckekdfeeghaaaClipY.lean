/-
  The walk of terrkeep3.ClipWhole. Conditions: what clip.Line returns.
-/
import Derived.Test.YtcckekdfeeghaaaClipU
import Derived.Test.YtcckekdfeeghaaaClipX
namespace Go.Proofs.Ytcckekdfeeghaaa
set_option linter.unusedSimpArgs false
set_option linter.unusedVariables false
open Go.RowKit Go.BigFrame
attribute [local go_sem ↓] eqPt neqPt

theorem flat_bd {ls : List (List Pt2)} {n : Nat} (h : ∀ l ∈ ls, l.length ≤ n) : ls.flatten.length ≤ ls.length * n := by
  induction ls with
  | nil => simp
  | cons a t ih =>
    rw [List.flatten_cons, List.length_append, List.length_cons, Nat.add_mul]
    have h1 := h a (by simp)
    have h2 := ih fun l hl => h l (by simp [hl])
    omega

set_option maxRecDepth 100000 in
set_option maxHeartbeats 4000000 in
theorem Whole_walk (hLine : LineSpec) (v0 v1 : Value) (l k : List Int) (w : World) (h0 : IntsB w v0 l w.heap.size) (h1 : IntsB w v1 k w.heap.size) :
    Calls Try.prog 5 #[v0, v1] w fun e w' => e = .returned (.bool true) ∧ Since w w' := by
  have H0 := Lib.hid h0
  have H1 := Lib.hid h1
  obtain ⟨a0, c0, rfl, -⟩ := h0
  obtain ⟨a1, c1, rfl, -⟩ := h1
  have hlen := (mline_good l).2.2
  go_enter Try.func5, Try.ntmps5
  go_wp2_with fail
  refine (MLine_any _ l _ H0.out).mono ?_
  rintro e w1 ⟨v, rfl, hp, hs⟩
  obtain ⟨av, cv, rfl⟩ : ∃ av cv, v = .slice av (mline l).length cv := by obtain ⟨av, cv, h, -⟩ := hp; exact ⟨av, cv, h⟩
  have HP1 := Lib.hid hp
  have HS1 := Lib.hid hs
  clear hp hs
  go_wp2_with fail
  refine (cutsK_any hLine _).mono ?_
  rintro e w2 ⟨rfl, hs⟩
  have HP2 := Lib.hid (HP1.out.since hs)
  have HS2 := Lib.hid (HS1.out.trans hs)
  clear hs HP1 HS1
  go_wp2_with fail
  refine (Of_any _ (mline l) _ (by omega) HP2.out).mono ?_
  rintro e w3 ⟨rfl, hs⟩
  have HP3 := Lib.hid (HP2.out.since hs)
  have HS3 := Lib.hid (HS2.out.trans hs)
  clear hs HP2 HS2
  go_wp2_with fail
  refine (hLine _ (mline l) _ _ _ _ _ (by omega) HP3.out).mono ?_
  rintro e w4 ⟨v', rfl, hv, hs⟩
  rw [clip_of] at hv
  obtain ⟨a4, c4, rfl⟩ : ∃ a c, v' = .slice a 1 c := by obtain ⟨a, c, h, -⟩ := hv; exact ⟨a, c, h⟩
  have HV4 := Lib.hid hv
  have HP4 := Lib.hid (HP3.out.since hs)
  have HS4 := Lib.hid (HS3.out.trans hs)
  clear hs hv HP3 HS3
  go_wp2_with fail
  have hA := (Since.rfl_ w4).alloc (.cells #[.slice av (mline l).length cv] 32)
  refine (lists_any _ _ [mline l] [mline l] _ (short_one (by omega)) (short_one (by omega)) (HV4.out.since hA) (lis_one (Blk.new' rfl) (HP4.out.since hA))).mono ?_
  rintro e w5 ⟨rfl, hs⟩
  have ht : decide ([mline l] = [mline l]) = true := decide_eq_true rfl
  rw [ht]
  have HP5 := Lib.hid ((HP4.out.since hA).since hs)
  have HS5 := Lib.hid ((HS4.out.trans hA).trans hs)
  clear hA hs ht HV4 HP4 HS4
  go_wp2_with fail
  refine (window_any _ k _ ?hk).mono ?_
  case hk => obtain ⟨a, c, e, h3, h4, h5⟩ := H1.out; exact ⟨a, c, e, h3, h4, fun i hi => by obtain ⟨g, o, ha, hg, hc⟩ := h5 i hi; exact ⟨g, o, ha, Nat.lt_of_lt_of_le hg HS5.out.size, keepC HS5.out _ _ hc⟩⟩
  rintro e w6 ⟨rfl, hs⟩
  have HP6 := Lib.hid (HP5.out.since hs)
  have HS6 := Lib.hid (HS5.out.trans hs)
  have bB := winV_bd k
  have hob : okB (winV k).1 (winV k).2.1 (winV k).2.2.1 (winV k).2.2.2 = true := okB_iff.2 (by omega)
  have HK := Lib.hid (fun (m : Nat) (hm : m < (mline l).length) hin => clip_kept (mline_line l) hob hm hin)
  have HG := Lib.hid (fun (part : List Pt2) (hp : part ∈ clipLine (mline l) (winV k).1 (winV k).2.1 (winV k).2.2.1 (winV k).2.2.2) => (lineB_iff.1 (clip_good hp).2.1).2.2)
  have HN := Lib.hid (clip_len (mline l) (winV k).1 (winV k).2.1 (winV k).2.2.1 (winV k).2.2.2)
  clear hs HP5 HS5 H0 H1 bB hob
  generalize (winV k).1 = lx at *
  generalize (winV k).2.1 = ly at *
  generalize (winV k).2.2.1 = hx at *
  generalize (winV k).2.2.2 = hy at *
  go_upto_region 5 with fail
  refine atW (fun w' => Blk w' w6.heap.size 28 #[.int .i64 lx, .int .i64 ly, .int .i64 hx, .int .i64 hy] ∧ PtsS w' (.slice av (mline l).length cv) (mline l) ∧ Since w w') ⟨Blk.new _ _ _, HP6.out.since ((Since.rfl_ _).alloc _), HS6.out.alloc _⟩ ?_
  clear HP6 HS6
  rintro w7 ⟨hb, hp, hs⟩
  obtain ⟨gb, HGB⟩ : ∃ gb, gb = w6.heap.size := ⟨_, rfl⟩
  rw [← HGB] at hb ⊢
  clear HGB
  have b_0 := hb.cell 0
  have b_1 := hb.cell 1
  have b_2 := hb.cell 2
  have b_3 := hb.cell 3
  simp only [List.getElem?_toArray, List.getElem?_cons_zero, List.getElem?_cons_succ] at b_0 b_1 b_2 b_3
  have HB7 := Lib.hid hb
  have HP7 := Lib.hid hp
  have HS7 := Lib.hid hs
  clear hb hp hs
  go_wp2_with fail
  refine (hLine _ (mline l) _ _ _ _ _ (by omega) HP7.out).mono ?_
  rintro e w8 ⟨v', rfl, hv, hs⟩
  have HV8 := Lib.hid hv
  have HB8 := Lib.hid (hs.blk HB7.out)
  have HP8 := Lib.hid (HP7.out.since hs)
  have HS8 := Lib.hid (HS7.out.trans hs)
  clear hv hs HB7 HP7 HS7 b_0 b_1 b_2 b_3
  generalize clipLine (mline l) lx ly hx hy = all at *
  obtain ⟨a8, c8, rfl⟩ : ∃ a c, v' = .slice a all.length c := by obtain ⟨a, c, h, -⟩ := HV8.out; exact ⟨a, c, h⟩
  have hal : all.length ≤ 17 := by have := HN.out; omega
  have hfl : all.flatten.length ≤ 3400 := by
    have := flat_bd (ls := all) (n := 200) fun part hp => (HG.out part hp).2
    omega
  go_wp2_with fail
  refine (Concat_any _ all _ (by omega) (by omega) (fun i hi e => by have := (HG.out _ (rAt_mem hi)).1; rw [e] at this; simp at this) HV8.out).mono ?_
  rintro e w9 ⟨v', rfl, hv, hs⟩
  obtain ⟨a9, c9, rfl⟩ : ∃ a c, v' = .slice a all.flatten.length c := by obtain ⟨a, c, h, -⟩ := hv; exact ⟨a, c, h⟩
  have HV9 := Lib.hid hv
  have HB9 := Lib.hid (hs.blk HB8.out)
  have HP9 := Lib.hid (HP8.out.since hs)
  have HS9 := Lib.hid (HS8.out.trans hs)
  clear hv hs HB8 HP8 HS8 HV8 HG HN hal
  generalize all.flatten = ps at *
  generalize mline l = ml at *
  go_wp2_with fail
  go_loopw [32] (fun v wr => ∃ j : Nat, j ≤ ml.length ∧ v = .int .i64 j ∧ Since w9 wr) (fun v _ => ml.length - (intOf v).toNat)
  case atStart => exact ⟨0, Nat.zero_le _, rfl, Since.rfl_ w9⟩
  case round =>
    obtain ⟨j, hj, rfl, hs⟩ := hrel
    rcases Nat.lt_or_ge j ml.length with hlt | hge
    · obtain ⟨a, c, e, hpt⟩ := HP9.out
      injection e with ea _ ec
      subst ea ec
      obtain ⟨g, o, ha, e0, e1⟩ := hpt j hlt
      subst ha
      replace e0 := keepC hs _ _ e0
      replace e1 := keepC hs _ _ e1
      have hb := hs.blk HB9.out
      have lb := hb.lt
      have b_0 := hb.cell 0
      have b_1 := hb.cell 1
      have b_2 := hb.cell 2
      have b_3 := hb.cell 3
      simp only [List.getElem?_toArray, List.getElem?_cons_zero, List.getElem?_cons_succ] at b_0 b_1 b_2 b_3
      have HSr := Lib.hid hs
      have HKj := Lib.hid (HK.out j hlt)
      clear hb hs hpt
      generalize hpx : (pAt ml j).1 = px at *
      generalize hpy : (pAt ml j).2 = py at *
      have HPX := Lib.hid (show pAt ml j = (px, py) from Prod.ext hpx hpy)
      clear hpx hpy
      cases g1 : decide (lx < px) <;> cases g2 : decide (px < hx) <;> cases g3 : decide (ly < py) <;> cases g4 : decide (py < hy)
      case true.true.true.true =>
        have hm := HKj.out (by rw [decide_eq_true_eq] at g1 g2 g3 g4; exact ⟨⟨g1, g2⟩, ⟨g3, g4⟩⟩)
        rw [HPX.out] at hm
        have HM := Lib.hid hm
        clear hm
        go_wp2_with fail
        have hA := (Since.rfl_ wr).alloc (.cells #[.int .i64 px, .int .i64 py] 23)
        refine (ContainsP_any _ ps px py _ (by omega) ((HV9.out.since HSr.out).since hA) HM.out).mono ?_
        rintro e w11 ⟨rfl, hs⟩
        have HS11 := Lib.hid ((HSr.out.trans hA).trans hs)
        clear hA hs
        go_wp2
        go_roundw
        case rel => exact ⟨j + 1, by omega, by go_num, HS11.out⟩
        case measure => simp [intOf]; omega
      all_goals
        go_wp2
        go_roundw
        case rel => exact ⟨j + 1, by omega, by go_num, HSr.out.alloc _⟩
        case measure => simp [intOf]; omega
    · have HSr := Lib.hid hs
      clear hs
      go_wp2
      go_ret
      exact ⟨rfl, HS9.out.trans HSr.out⟩
end Go.Proofs.Ytcckekdfeeghaaa
