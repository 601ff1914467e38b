/-
  The walk of terrkeep3.ClipTurned. Conditions: what clip.Segment and clip.Line return.
-/
import Derived.Test.YtcckekdfeeghaaaClipP
import Derived.Test.YtcckekdfeeghaaaClipQ
namespace Go.Proofs.Ytcckekdfeeghaaa
set_option linter.unusedSimpArgs false
set_option linter.unusedVariables false
open Go.RowKit Go.BigFrame
attribute [local go_sem ↓] eqPt neqPt
attribute [local go_sem] max2_int min2_int max_two min_two

theorem Has_val {lx ly hx hy px py : Int} {b : Bool} (h : hasV lx ly hx hy px py = b) (w : World) : Calls Try.prog 23 #[.agg #[.int .i64 lx, .int .i64 ly, .int .i64 hx, .int .i64 hy], .agg #[.int .i64 px, .int .i64 py]] w fun e w' =>
    e = .returned (.bool b) ∧ Since w w' := h ▸ Has_any _ _ _ _ _ _ w
theorem Hit_val {lx ly hx hy ax ay cx cy : Int} {b : Bool} (hb : okB lx ly hx hy = true) (ha : okP ax ay = true) (hc : okP cx cy = true) (h : hitV lx ly hx hy ax ay cx cy = b) (w : World) :
    Calls Try.prog 30 #[.agg #[.int .i64 lx, .int .i64 ly, .int .i64 hx, .int .i64 hy], .agg #[.int .i64 ax, .int .i64 ay], .agg #[.int .i64 cx, .int .i64 cy]] w fun e w' => e = .returned (.bool b) ∧ Since w w' := h ▸ Hit_any _ _ _ _ _ _ _ _ w hb ha hc

/-- What Segment returns both ways. -/
theorem seg_both (hSeg : SegSpec) (ax ay cx cy lx ly hx hy : Int) :
    (∀ w, Calls Try.prog 29 #[.agg #[.int .i64 ax, .int .i64 ay], .agg #[.int .i64 cx, .int .i64 cy], .agg #[.int .i64 lx, .int .i64 ly, .int .i64 hx, .int .i64 hy]] w fun e w' =>
      e = .returned (.tuple #[.agg #[.int .i64 0, .int .i64 0], .agg #[.int .i64 0, .int .i64 0], .bool false, .bool false, .bool false]) ∧ Since w w') ∧
    (∀ w, Calls Try.prog 29 #[.agg #[.int .i64 cx, .int .i64 cy], .agg #[.int .i64 ax, .int .i64 ay], .agg #[.int .i64 lx, .int .i64 ly, .int .i64 hx, .int .i64 hy]] w fun e w' =>
      e = .returned (.tuple #[.agg #[.int .i64 0, .int .i64 0], .agg #[.int .i64 0, .int .i64 0], .bool false, .bool false, .bool false]) ∧ Since w w') ∨
    ∃ (px py qx qy : Int) (bg be : Bool), hasV lx ly hx hy px py = true ∧ hasV lx ly hx hy qx qy = true ∧ hitV lx ly hx hy ax ay cx cy = true ∧
    (∀ w, Calls Try.prog 29 #[.agg #[.int .i64 ax, .int .i64 ay], .agg #[.int .i64 cx, .int .i64 cy], .agg #[.int .i64 lx, .int .i64 ly, .int .i64 hx, .int .i64 hy]] w fun e w' =>
      e = .returned (.tuple #[.agg #[.int .i64 px, .int .i64 py], .agg #[.int .i64 qx, .int .i64 qy], .bool bg, .bool be, .bool true]) ∧ Since w w') ∧
    (∀ w, Calls Try.prog 29 #[.agg #[.int .i64 cx, .int .i64 cy], .agg #[.int .i64 ax, .int .i64 ay], .agg #[.int .i64 lx, .int .i64 ly, .int .i64 hx, .int .i64 hy]] w fun e w' =>
      e = .returned (.tuple #[.agg #[.int .i64 qx, .int .i64 qy], .agg #[.int .i64 px, .int .i64 py], .bool be, .bool bg, .bool true]) ∧ Since w w') := by
  have hf := segV_flip ax ay cx cy lx ly hx hy
  cases hs : segV ax ay cx cy lx ly hx hy with
  | none =>
    rw [hs] at hf
    left
    refine ⟨fun w => ?_, fun w => ?_⟩
    · have := hSeg ax ay cx cy lx ly hx hy w; rw [hs] at this; exact this
    · have := hSeg cx cy ax ay lx ly hx hy w; rw [hf] at this; exact this
  | some p =>
    obtain ⟨f, k⟩ := p
    rw [hs] at hf
    have hl := segV_law hs
    right
    refine ⟨f.2.2.1, f.2.2.2, k.2.2.1, k.2.2.2, f.1 == 0, k.1 == k.2.1, has_of hl.inF, has_of hl.inL, by rw [hit_eq hl.box hl.okA hl.okC]; exact hl.hit, fun w => ?_, fun w => ?_⟩
    · have := hSeg ax ay cx cy lx ly hx hy w; rw [hs] at this; exact this
    · have := hSeg cx cy ax ay lx ly hx hy w
      rw [hf] at this
      have e1 : ((flipC k).1 == 0) = (k.1 == k.2.1) := by unfold flipC; rw [Bool.eq_iff_iff, beq_iff_eq, beq_iff_eq]; dsimp only; omega
      have e2 : ((flipC f).1 == (flipC f).2.1) = (f.1 == 0) := by unfold flipC; rw [Bool.eq_iff_iff, beq_iff_eq, beq_iff_eq]; dsimp only; omega
      simp only [Option.map_some, segVal, e1, e2] at this
      exact this

set_option maxRecDepth 100000 in
set_option maxHeartbeats 4000000 in
theorem Turned_walk (hSeg : SegSpec) (hLine : LineSpec) (v0 v1 v2 : Value) (l k n : List Int) (w : World) (h0 : IntsB w v0 l w.heap.size) (h1 : IntsB w v1 k w.heap.size) (h2 : IntsB w v2 n w.heap.size) :
    Calls Try.prog 6 #[v0, v1, v2] w fun e w' => e = .returned (.bool true) ∧ Since w w' := by
  have H1 := Lib.hid h1
  have H2 := Lib.hid h2
  have H0 := Lib.hid h0
  obtain ⟨a0, c0, rfl, -⟩ := h0
  obtain ⟨a1, c1, rfl, -⟩ := h1
  obtain ⟨a2, c2, rfl, -⟩ := h2
  have bA := ptOf_bd l
  have bC := ptOf_bd k
  have bB := winV_bd n
  have HB := seg_both hSeg (ptOf l).1.1 (ptOf l).1.2 (ptOf k).1.1 (ptOf k).1.2 (winV n).1 (winV n).2.1 (winV n).2.2.1 (winV n).2.2.2
  have HP := Lib.hid (And.intro (okB_iff.2 (show _ by omega) : okB (winV n).1 (winV n).2.1 (winV n).2.2.1 (winV n).2.2.2 = true) (And.intro (okP_iff.2 (show _ by omega) : okP (ptOf l).1.1 (ptOf l).1.2 = true) (okP_iff.2 (show _ by omega) : okP (ptOf k).1.1 (ptOf k).1.2 = true)))
  clear bA bC bB
  go_enter Try.func6, Try.ntmps6
  go_wp2_with fail
  refine (Point_any _ l _ H0.out).mono ?_
  rintro e w1 ⟨rfl, hs1⟩
  have HS1 := Lib.hid hs1
  go_wp2_with fail
  refine (Point_any _ k _ ?hk).mono ?_
  case hk => obtain ⟨a, c, e, h3, h4, h5⟩ := H1.out; exact ⟨a, c, e, h3, h4, fun i hi => by obtain ⟨g, o, ha, hg, hc⟩ := h5 i hi; exact ⟨g, o, ha, Nat.lt_of_lt_of_le hg hs1.size, keepC hs1 _ _ hc⟩⟩
  rintro e w2 ⟨rfl, hs2⟩
  have hs12 := hs1.trans hs2
  have HS2 := Lib.hid hs12
  go_wp2_with fail
  refine (window_any _ n _ ?hn).mono ?_
  case hn => obtain ⟨a, c, e, h3, h4, h5⟩ := H2.out; exact ⟨a, c, e, h3, h4, fun i hi => by obtain ⟨g, o, ha, hg, hc⟩ := h5 i hi; exact ⟨g, o, ha, Nat.lt_of_lt_of_le hg hs12.size, keepC hs12 _ _ hc⟩⟩
  rintro e w3 ⟨rfl, hs3⟩
  have HS3 := Lib.hid (hs12.trans hs3)
  clear hs1 hs2 hs12 hs3 HS1 HS2 H0 H1 H2
  generalize (ptOf l).1.1 = ax at *
  generalize (ptOf l).1.2 = ay at *
  generalize (ptOf k).1.1 = cx at *
  generalize (ptOf k).1.2 = cy at *
  generalize (winV n).1 = lx at *
  generalize (winV n).2.1 = ly at *
  generalize (winV n).2.2.1 = hx at *
  generalize (winV n).2.2.2 = hy at *
  go_upto_region 2 with fail
  refine atW (fun w' => Blk w' w3.heap.size 23 #[.int .i64 ax, .int .i64 ay] ∧ Blk w' (w3.heap.size + 1) 23 #[.int .i64 cx, .int .i64 cy] ∧ Blk w' (w3.heap.size + 1 + 1) 28 #[.int .i64 lx, .int .i64 ly, .int .i64 hx, .int .i64 hy] ∧ Since w w')
    ⟨((Blk.new w3 _ _).alloc _).alloc _, (Blk.new' (by simp)).alloc _, Blk.new' (by simp), ((HS3.out.alloc _).alloc _).alloc _⟩ ?_
  clear HS3
  rintro w4 ⟨ha, hc, hb, hs⟩
  have a_0 := ha.cell 0
  have a_1 := ha.cell 1
  have a_f0 := ha.frozen 0
  have a_f1 := ha.frozen 1
  simp only [List.getElem?_toArray, List.getElem?_cons_zero, List.getElem?_cons_succ] at a_0 a_1
  have c_0 := hc.cell 0
  have c_1 := hc.cell 1
  have c_f0 := hc.frozen 0
  have c_f1 := hc.frozen 1
  simp only [List.getElem?_toArray, List.getElem?_cons_zero, List.getElem?_cons_succ] at c_0 c_1
  have b_0 := hb.cell 0
  have b_1 := hb.cell 1
  have b_2 := hb.cell 2
  have b_3 := hb.cell 3
  simp only [List.getElem?_toArray, List.getElem?_cons_zero, List.getElem?_cons_succ] at b_0 b_1 b_2 b_3
  have HM := Lib.hid (And.intro ha (And.intro hc (And.intro hb hs)))
  clear ha hc hb hs
  rcases HB with ⟨s1, s2⟩ | ⟨px, py, qx, qy, bg, be, k1, k2, k3, s1, s2⟩
  · replace s1 := Lib.hid s1
    replace s2 := Lib.hid s2
    go_wp2_with fail
    refine (s1.out _).mono ?_
    rintro e w5 ⟨rfl, hs⟩
    have ha := hs.blk HM.out.1
    have hc := hs.blk HM.out.2.1
    have hb := hs.blk HM.out.2.2.1
    have hs5 := HM.out.2.2.2.trans hs
    have l3 := hb.lt
    clear hs a_0 a_1 a_f0 a_f1 c_0 c_1 c_f0 c_f1 b_0 b_1 b_2 b_3 HM
    go_upto_region 3 with fail
    refine atW (fun w' => Blk w' w3.heap.size 23 #[.int .i64 ax, .int .i64 ay] ∧ Blk w' (w3.heap.size + 1) 23 #[.int .i64 cx, .int .i64 cy] ∧ Blk w' (w3.heap.size + 1 + 1) 28 #[.int .i64 lx, .int .i64 ly, .int .i64 hx, .int .i64 hy] ∧
      Blk w' w5.heap.size 23 #[.int .i64 0, .int .i64 0] ∧ Blk w' (w5.heap.size + 1) 23 #[.int .i64 0, .int .i64 0] ∧ Since w w') ⟨(ha.alloc _).alloc _, (hc.alloc _).alloc _, (hb.alloc _).alloc _, (Blk.new _ _ _).alloc _, Blk.new' (by simp), (hs5.alloc _).alloc _⟩ ?_
    clear ha hc hb hs5
    rintro w6 ⟨ha, hc, hb, hp, hq, hs⟩
    have a_0 := ha.cell 0
    have a_1 := ha.cell 1
    have a_f0 := ha.frozen 0
    have a_f1 := ha.frozen 1
    simp only [List.getElem?_toArray, List.getElem?_cons_zero, List.getElem?_cons_succ] at a_0 a_1
    have c_0 := hc.cell 0
    have c_1 := hc.cell 1
    have c_f0 := hc.frozen 0
    have c_f1 := hc.frozen 1
    simp only [List.getElem?_toArray, List.getElem?_cons_zero, List.getElem?_cons_succ] at c_0 c_1
    have b_0 := hb.cell 0
    have b_1 := hb.cell 1
    have b_2 := hb.cell 2
    have b_3 := hb.cell 3
    simp only [List.getElem?_toArray, List.getElem?_cons_zero, List.getElem?_cons_succ] at b_0 b_1 b_2 b_3
    have HM := Lib.hid (And.intro ha (And.intro hc (And.intro hb (And.intro hp (And.intro hq hs)))))
    clear ha hc hb hp hq hs
    go_wp2_with fail
    refine (s2.out _).mono ?_
    rintro e w7 ⟨rfl, hs⟩
    have ha := hs.blk HM.out.1
    have hc := hs.blk HM.out.2.1
    have hb := hs.blk HM.out.2.2.1
    have hp := hs.blk HM.out.2.2.2.1
    have hq := hs.blk HM.out.2.2.2.2.1
    have hs7 := HM.out.2.2.2.2.2.trans hs
    clear hs a_0 a_1 a_f0 a_f1 c_0 c_1 c_f0 c_f1 b_0 b_1 b_2 b_3 HM
    go_wp2_with fail
    refine (cutsK_any hLine _).mono ?_
    rintro e w8 ⟨rfl, hs⟩
    have hA := ((Since.rfl_ w7).alloc (.cells #[.int .i64 0, .int .i64 0] 23)).alloc (.cells #[.int .i64 0, .int .i64 0] 23)
    have hA8 := hA.trans hs
    have hx := hs.blk ((Blk.new w7 23 #[.int .i64 0, .int .i64 0]).alloc (.cells #[.int .i64 0, .int .i64 0] 23))
    have hy := hs.blk (Blk.new' (w := w7.alloc (.cells #[.int .i64 0, .int .i64 0] 23)) (g := w7.heap.size + 1) (t := 23) (cs := #[.int .i64 0, .int .i64 0]) (by simp))
    replace ha := hA8.blk ha
    replace hc := hA8.blk hc
    replace hb := hA8.blk hb
    replace hp := hA8.blk hp
    replace hq := hA8.blk hq
    have HT := Lib.hid (And.intro ha (And.intro hc (And.intro hb hq)))
    have HS8 := Lib.hid (hs7.trans hA8)
    have a_0 := ha.cell 0
    have a_1 := ha.cell 1
    have a_f0 := ha.frozen 0
    have a_f1 := ha.frozen 1
    simp only [List.getElem?_toArray, List.getElem?_cons_zero, List.getElem?_cons_succ] at a_0 a_1
    have c_0 := hc.cell 0
    have c_1 := hc.cell 1
    have c_f0 := hc.frozen 0
    have c_f1 := hc.frozen 1
    simp only [List.getElem?_toArray, List.getElem?_cons_zero, List.getElem?_cons_succ] at c_0 c_1
    have b_0 := hb.cell 0
    have b_1 := hb.cell 1
    have b_2 := hb.cell 2
    have b_3 := hb.cell 3
    simp only [List.getElem?_toArray, List.getElem?_cons_zero, List.getElem?_cons_succ] at b_0 b_1 b_2 b_3
    have p_0 := hp.cell 0
    have p_1 := hp.cell 1
    have p_f0 := hp.frozen 0
    have p_f1 := hp.frozen 1
    simp only [List.getElem?_toArray, List.getElem?_cons_zero, List.getElem?_cons_succ] at p_0 p_1
    have q_0 := hq.cell 0
    have q_1 := hq.cell 1
    have q_f0 := hq.frozen 0
    have q_f1 := hq.frozen 1
    simp only [List.getElem?_toArray, List.getElem?_cons_zero, List.getElem?_cons_succ] at q_0 q_1
    have x_0 := hx.cell 0
    have x_1 := hx.cell 1
    have x_f0 := hx.frozen 0
    have x_f1 := hx.frozen 1
    simp only [List.getElem?_toArray, List.getElem?_cons_zero, List.getElem?_cons_succ] at x_0 x_1
    have y_0 := hy.cell 0
    have y_1 := hy.cell 1
    have y_f0 := hy.frozen 0
    have y_f1 := hy.frozen 1
    simp only [List.getElem?_toArray, List.getElem?_cons_zero, List.getElem?_cons_succ] at y_0 y_1
    clear ha hc hb hp hq hx hy hs hA hA8 hs7
    go_wp2
    go_ret
    exact ⟨rfl, HS8.out⟩
  · replace s1 := Lib.hid s1
    replace s2 := Lib.hid s2
    have K := Lib.hid (And.intro k1 (And.intro k2 k3))
    clear k1 k2 k3
    go_wp2_with fail
    refine (s1.out _).mono ?_
    rintro e w5 ⟨rfl, hs⟩
    have ha := hs.blk HM.out.1
    have hc := hs.blk HM.out.2.1
    have hb := hs.blk HM.out.2.2.1
    have hs5 := HM.out.2.2.2.trans hs
    have l3 := hb.lt
    clear hs a_0 a_1 a_f0 a_f1 c_0 c_1 c_f0 c_f1 b_0 b_1 b_2 b_3 HM
    go_upto_region 3 with fail
    refine atW (fun w' => Blk w' w3.heap.size 23 #[.int .i64 ax, .int .i64 ay] ∧ Blk w' (w3.heap.size + 1) 23 #[.int .i64 cx, .int .i64 cy] ∧ Blk w' (w3.heap.size + 1 + 1) 28 #[.int .i64 lx, .int .i64 ly, .int .i64 hx, .int .i64 hy] ∧
      Blk w' w5.heap.size 23 #[.int .i64 px, .int .i64 py] ∧ Blk w' (w5.heap.size + 1) 23 #[.int .i64 qx, .int .i64 qy] ∧ Since w w') ⟨(ha.alloc _).alloc _, (hc.alloc _).alloc _, (hb.alloc _).alloc _, (Blk.new _ _ _).alloc _, Blk.new' (by simp), (hs5.alloc _).alloc _⟩ ?_
    clear ha hc hb hs5
    rintro w6 ⟨ha, hc, hb, hp, hq, hs⟩
    have a_0 := ha.cell 0
    have a_1 := ha.cell 1
    have a_f0 := ha.frozen 0
    have a_f1 := ha.frozen 1
    simp only [List.getElem?_toArray, List.getElem?_cons_zero, List.getElem?_cons_succ] at a_0 a_1
    have c_0 := hc.cell 0
    have c_1 := hc.cell 1
    have c_f0 := hc.frozen 0
    have c_f1 := hc.frozen 1
    simp only [List.getElem?_toArray, List.getElem?_cons_zero, List.getElem?_cons_succ] at c_0 c_1
    have b_0 := hb.cell 0
    have b_1 := hb.cell 1
    have b_2 := hb.cell 2
    have b_3 := hb.cell 3
    simp only [List.getElem?_toArray, List.getElem?_cons_zero, List.getElem?_cons_succ] at b_0 b_1 b_2 b_3
    have HM := Lib.hid (And.intro ha (And.intro hc (And.intro hb (And.intro hp (And.intro hq hs)))))
    clear ha hc hb hp hq hs
    go_wp2_with fail
    refine (s2.out _).mono ?_
    rintro e w7 ⟨rfl, hs⟩
    have ha := hs.blk HM.out.1
    have hc := hs.blk HM.out.2.1
    have hb := hs.blk HM.out.2.2.1
    have hp := hs.blk HM.out.2.2.2.1
    have hq := hs.blk HM.out.2.2.2.2.1
    have hs7 := HM.out.2.2.2.2.2.trans hs
    clear hs a_0 a_1 a_f0 a_f1 c_0 c_1 c_f0 c_f1 b_0 b_1 b_2 b_3 HM
    go_wp2_with fail
    refine (cutsK_any hLine _).mono ?_
    rintro e w8 ⟨rfl, hs⟩
    have hA := ((Since.rfl_ w7).alloc (.cells #[.int .i64 qx, .int .i64 qy] 23)).alloc (.cells #[.int .i64 px, .int .i64 py] 23)
    have hA8 := hA.trans hs
    have hx := hs.blk ((Blk.new w7 23 #[.int .i64 qx, .int .i64 qy]).alloc (.cells #[.int .i64 px, .int .i64 py] 23))
    have hy := hs.blk (Blk.new' (w := w7.alloc (.cells #[.int .i64 qx, .int .i64 qy] 23)) (g := w7.heap.size + 1) (t := 23) (cs := #[.int .i64 px, .int .i64 py]) (by simp))
    replace ha := hA8.blk ha
    replace hc := hA8.blk hc
    replace hb := hA8.blk hb
    replace hp := hA8.blk hp
    replace hq := hA8.blk hq
    have HT := Lib.hid (And.intro ha (And.intro hc (And.intro hb hq)))
    have HS8 := Lib.hid (hs7.trans hA8)
    have a_0 := ha.cell 0
    have a_1 := ha.cell 1
    have a_f0 := ha.frozen 0
    have a_f1 := ha.frozen 1
    simp only [List.getElem?_toArray, List.getElem?_cons_zero, List.getElem?_cons_succ] at a_0 a_1
    have c_0 := hc.cell 0
    have c_1 := hc.cell 1
    have c_f0 := hc.frozen 0
    have c_f1 := hc.frozen 1
    simp only [List.getElem?_toArray, List.getElem?_cons_zero, List.getElem?_cons_succ] at c_0 c_1
    have b_0 := hb.cell 0
    have b_1 := hb.cell 1
    have b_2 := hb.cell 2
    have b_3 := hb.cell 3
    simp only [List.getElem?_toArray, List.getElem?_cons_zero, List.getElem?_cons_succ] at b_0 b_1 b_2 b_3
    have p_0 := hp.cell 0
    have p_1 := hp.cell 1
    have p_f0 := hp.frozen 0
    have p_f1 := hp.frozen 1
    simp only [List.getElem?_toArray, List.getElem?_cons_zero, List.getElem?_cons_succ] at p_0 p_1
    have q_0 := hq.cell 0
    have q_1 := hq.cell 1
    have q_f0 := hq.frozen 0
    have q_f1 := hq.frozen 1
    simp only [List.getElem?_toArray, List.getElem?_cons_zero, List.getElem?_cons_succ] at q_0 q_1
    have x_0 := hx.cell 0
    have x_1 := hx.cell 1
    have x_f0 := hx.frozen 0
    have x_f1 := hx.frozen 1
    simp only [List.getElem?_toArray, List.getElem?_cons_zero, List.getElem?_cons_succ] at x_0 x_1
    have y_0 := hy.cell 0
    have y_1 := hy.cell 1
    have y_f0 := hy.frozen 0
    have y_f1 := hy.frozen 1
    simp only [List.getElem?_toArray, List.getElem?_cons_zero, List.getElem?_cons_succ] at y_0 y_1
    clear ha hc hb hp hq hx hy hs hA hA8 hs7
    cases bg <;> cases be
    all_goals
      go_wp2_with fail
      refine (Has_val K.out.1 _).mono ?_
      rintro e w9 ⟨rfl, hs⟩
      have HT9 := Lib.hid (And.intro (hs.blk HT.out.1) (And.intro (hs.blk HT.out.2.1) (And.intro (hs.blk HT.out.2.2.1) (hs.blk HT.out.2.2.2))))
      have HS9 := Lib.hid (HS8.out.trans hs)
      clear hs HT HS8 a_0 a_1 a_f0 a_f1 c_0 c_1 c_f0 c_f1 b_0 b_1 b_2 b_3 p_0 p_1 p_f0 p_f1 q_0 q_1 q_f0 q_f1 x_0 x_1 x_f0 x_f1 y_0 y_1 y_f0 y_f1
      have ha := HT9.out.1
      have hc := HT9.out.2.1
      have hb := HT9.out.2.2.1
      have hq := HT9.out.2.2.2
      have a_0 := ha.cell 0
      have a_1 := ha.cell 1
      have a_f0 := ha.frozen 0
      have a_f1 := ha.frozen 1
      simp only [List.getElem?_toArray, List.getElem?_cons_zero, List.getElem?_cons_succ] at a_0 a_1
      have c_0 := hc.cell 0
      have c_1 := hc.cell 1
      have c_f0 := hc.frozen 0
      have c_f1 := hc.frozen 1
      simp only [List.getElem?_toArray, List.getElem?_cons_zero, List.getElem?_cons_succ] at c_0 c_1
      have b_0 := hb.cell 0
      have b_1 := hb.cell 1
      have b_2 := hb.cell 2
      have b_3 := hb.cell 3
      simp only [List.getElem?_toArray, List.getElem?_cons_zero, List.getElem?_cons_succ] at b_0 b_1 b_2 b_3
      have q_0 := hq.cell 0
      have q_1 := hq.cell 1
      have q_f0 := hq.frozen 0
      have q_f1 := hq.frozen 1
      simp only [List.getElem?_toArray, List.getElem?_cons_zero, List.getElem?_cons_succ] at q_0 q_1
      clear ha hc hb hq
      go_wp2_with fail
      refine (Has_val K.out.2.1 _).mono ?_
      rintro e w10 ⟨rfl, hs⟩
      have ha := hs.blk HT9.out.1
      have hc := hs.blk HT9.out.2.1
      have hb := hs.blk HT9.out.2.2.1
      have HS10 := Lib.hid (HS9.out.trans hs)
      clear hs HT9 HS9 a_0 a_1 a_f0 a_f1 c_0 c_1 c_f0 c_f1 b_0 b_1 b_2 b_3 q_0 q_1 q_f0 q_f1
      have a_0 := ha.cell 0
      have a_1 := ha.cell 1
      have a_f0 := ha.frozen 0
      have a_f1 := ha.frozen 1
      simp only [List.getElem?_toArray, List.getElem?_cons_zero, List.getElem?_cons_succ] at a_0 a_1
      have c_0 := hc.cell 0
      have c_1 := hc.cell 1
      have c_f0 := hc.frozen 0
      have c_f1 := hc.frozen 1
      simp only [List.getElem?_toArray, List.getElem?_cons_zero, List.getElem?_cons_succ] at c_0 c_1
      have b_0 := hb.cell 0
      have b_1 := hb.cell 1
      have b_2 := hb.cell 2
      have b_3 := hb.cell 3
      simp only [List.getElem?_toArray, List.getElem?_cons_zero, List.getElem?_cons_succ] at b_0 b_1 b_2 b_3
      clear ha hc hb
      go_wp2_with fail
      refine (Hit_val HP.out.1 HP.out.2.1 HP.out.2.2 K.out.2.2 _).mono ?_
      rintro e w11 ⟨rfl, hs⟩
      have HS11 := Lib.hid (HS10.out.trans hs)
      clear hs
      go_wp2
      go_ret
      exact ⟨rfl, HS11.out⟩
end Go.Proofs.Ytcckekdfeeghaaa
