/-
  The walk of terrlaw3.ClipSegments. Conditions: what clip.Segment and clip.Line return.
-/
import Derived.Test.YtcckekdfeeghaaaClipPd
import Derived.Test.YtcckekdfeeghaaaClipQ
namespace Go.Proofs.Ytcckekdfeeghaaa
set_option linter.unusedSimpArgs false
set_option linter.unusedVariables false
open Go.RowKit Go.BigFrame
attribute [local go_sem ↓] eqPt neqPt

theorem segVal_form (o : Option (CutT × CutT)) : ∃ (px py qx qy : Int) (bg be ok : Bool), segVal o = .tuple #[.agg #[.int .i64 px, .int .i64 py], .agg #[.int .i64 qx, .int .i64 qy], .bool bg, .bool be, .bool ok] := by
  cases o with
  | none => exact ⟨0, 0, 0, 0, false, false, false, rfl⟩
  | some p => exact ⟨_, _, _, _, _, _, _, rfl⟩
theorem segV_bad {ax ay cx cy lx ly hx hy : Int} (h : (okP ax ay && okP cx cy && okB lx ly hx hy) = false) : segV ax ay cx cy lx ly hx hy = none := by
  unfold segV
  rw [if_neg]
  intro k
  rw [Bool.and_assoc, Bool.and_assoc, Bool.and_eq_true] at k
  rw [Bool.and_assoc, k.2] at h
  cases h

set_option maxRecDepth 100000 in
set_option maxHeartbeats 4000000 in
theorem Segments_walk (hSeg : SegSpec) (hLine : LineSpec) (ax ay cx cy lx ly hx hy : Int) (w : World) :
    Calls Try.prog 7 #[.agg #[.int .i64 ax, .int .i64 ay], .agg #[.int .i64 cx, .int .i64 cy], .agg #[.int .i64 lx, .int .i64 ly, .int .i64 hx, .int .i64 hy]] w fun e w' => e = .returned (.bool true) ∧ Since w w' := by
  have HA := Lib.hid (fun w => okR_any ax ay w)
  have HC := Lib.hid (fun w => okR_any cx cy w)
  have HX := Lib.hid (fun w => okBR_any lx ly hx hy w)
  have HSg := Lib.hid (fun w => hSeg ax ay cx cy lx ly hx hy w)
  have HSp := Lib.hid (fun (h1 : okP ax ay = true) (h2 : okP cx cy = true) (h3 : okB lx ly hx hy = true) w => PartOf_any ax ay cx cy lx ly hx hy w h1 h2 h3)
  have HSb := Lib.hid (fun h => segV_bad (ax := ax) (ay := ay) (cx := cx) (cy := cy) (lx := lx) (ly := ly) (hx := hx) (hy := hy) h)
  have HSm := Lib.hid (fun r (h : PartV ax ay cx cy lx ly hx hy r) (h1 : okP ax ay = true) (h2 : okP cx cy = true) (h3 : okB lx ly hx hy = true) => part_seg h h1 h2 h3)
  go_enter Try.func7, Try.ntmps7
  go_wp2_with fail
  refine (cutsL_any hLine _).mono ?_
  rintro e w1 ⟨rfl, hs⟩
  have hA := (((Since.rfl_ w).alloc (.cells #[.int .i64 ax, .int .i64 ay] 23)).alloc (.cells #[.int .i64 cx, .int .i64 cy] 23)).alloc (.cells #[.int .i64 lx, .int .i64 ly, .int .i64 hx, .int .i64 hy] 28)
  have ha := hs.blk (((Blk.new w 23 #[.int .i64 ax, .int .i64 ay]).alloc (.cells #[.int .i64 cx, .int .i64 cy] 23)).alloc (.cells #[.int .i64 lx, .int .i64 ly, .int .i64 hx, .int .i64 hy] 28))
  have hc := hs.blk ((Blk.new' (w := w.alloc (.cells #[.int .i64 ax, .int .i64 ay] 23)) (g := w.heap.size + 1) (t := 23) (cs := #[.int .i64 cx, .int .i64 cy]) (by simp)).alloc (.cells #[.int .i64 lx, .int .i64 ly, .int .i64 hx, .int .i64 hy] 28))
  have hb := hs.blk (Blk.new' (w := (w.alloc (.cells #[.int .i64 ax, .int .i64 ay] 23)).alloc (.cells #[.int .i64 cx, .int .i64 cy] 23)) (g := w.heap.size + 1 + 1) (t := 28) (cs := #[.int .i64 lx, .int .i64 ly, .int .i64 hx, .int .i64 hy]) (by simp))
  have HS1 := Lib.hid (hA.trans hs)
  have KB := Lib.hid (fun w' (k : Since w1 w') => (⟨(k.blk ha).cell 0, (k.blk ha).cell 1, (k.blk hc).cell 0, (k.blk hc).cell 1, (k.blk hb).cell 0, (k.blk hb).cell 1, (k.blk hb).cell 2, (k.blk hb).cell 3⟩ :
    w'.cell? ⟨w.heap.size, 0, none⟩ = some (.int .i64 ax) ∧ w'.cell? ⟨w.heap.size, 1, none⟩ = some (.int .i64 ay) ∧ w'.cell? ⟨w.heap.size + 1, 0, none⟩ = some (.int .i64 cx) ∧ w'.cell? ⟨w.heap.size + 1, 1, none⟩ = some (.int .i64 cy) ∧
    w'.cell? ⟨w.heap.size + 1 + 1, 0, none⟩ = some (.int .i64 lx) ∧ w'.cell? ⟨w.heap.size + 1 + 1, 1, none⟩ = some (.int .i64 ly) ∧ w'.cell? ⟨w.heap.size + 1 + 1, 2, none⟩ = some (.int .i64 hx) ∧ w'.cell? ⟨w.heap.size + 1 + 1, 3, none⟩ = some (.int .i64 hy)))
  clear hA ha hc hb hs
  obtain ⟨a_0, a_1, c_0, c_1, b_0, b_1, b_2, b_3⟩ := KB.out w1 (Since.rfl_ w1)
  go_wp2_with fail
  refine (HSg.out _).mono ?_
  rintro e w2 ⟨rfl, hs⟩
  obtain ⟨a_0, a_1, c_0, c_1, b_0, b_1, b_2, b_3⟩ := KB.out w2 hs
  have HS2 := Lib.hid hs
  clear hs
  obtain ⟨px, py, qx, qy, bg, be, ok, hv⟩ := segVal_form (segV ax ay cx cy lx ly hx hy)
  rw [hv]
  have HV := Lib.hid hv
  clear hv
  go_upto_region 4 with fail
  refine atW (fun w' => Since w1 w' ∧ Blk w' w2.heap.size 23 #[.int .i64 px, .int .i64 py] ∧ Blk w' (w2.heap.size + 1) 23 #[.int .i64 qx, .int .i64 qy]) ?hw ?_
  case hw => exact ⟨(HS2.out.alloc _).alloc _, (Blk.new _ _ _).alloc _, Blk.new' (by simp)⟩
  rintro w3 ⟨hs, hp, hq⟩
  obtain ⟨G, HG⟩ : ∃ G, G = w2.heap.size := ⟨_, rfl⟩
  rw [← HG] at hp hq ⊢
  clear HG HS2
  have HTw3 := Lib.hid (And.intro hs (And.intro hp hq))
  obtain ⟨a_0, a_1, c_0, c_1, b_0, b_1, b_2, b_3⟩ := KB.out w3 hs
  clear hs hp hq
  cases hg : (okP ax ay && okP cx cy && okB lx ly hx hy)
  · have hz := HV.out
    rw [HSb.out hg] at hz
    simp [segVal] at hz
    obtain ⟨⟨rfl, rfl⟩, ⟨rfl, rfl⟩, rfl, rfl, rfl⟩ := hz
    have HGd := Lib.hid hg
    clear hg HV HSp HSm HSb
    cases h1 : okP ax ay
    · go_wp2_with fail
      refine (HA.out _).mono ?_
      rintro e w4 ⟨rfl, hs⟩
      rw [h1]
      have HTw4 := Lib.hid (And.intro (HTw3.out.1.trans hs) (And.intro (hs.blk HTw3.out.2.1) (hs.blk HTw3.out.2.2)))
      obtain ⟨a_0, a_1, c_0, c_1, b_0, b_1, b_2, b_3⟩ := KB.out w4 HTw4.out.1
      have p_0 : w4.cell? ⟨G, 0, none⟩ = some (.int .i64 _) := HTw4.out.2.1.cell 0
      have p_1 : w4.cell? ⟨G, 1, none⟩ = some (.int .i64 _) := HTw4.out.2.1.cell 1
      have q_0 : w4.cell? ⟨G + 1, 0, none⟩ = some (.int .i64 _) := HTw4.out.2.2.cell 0
      have q_1 : w4.cell? ⟨G + 1, 1, none⟩ = some (.int .i64 _) := HTw4.out.2.2.cell 1
      clear hs
      go_wp2
      go_ret
      exact ⟨rfl, HS1.out.trans HTw4.out.1⟩
    · cases h2 : okP cx cy
      · go_wp2_with fail
        refine (HA.out _).mono ?_
        rintro e w4 ⟨rfl, hs⟩
        rw [h1]
        have HTw4 := Lib.hid (And.intro (HTw3.out.1.trans hs) (And.intro (hs.blk HTw3.out.2.1) (hs.blk HTw3.out.2.2)))
        obtain ⟨a_0, a_1, c_0, c_1, b_0, b_1, b_2, b_3⟩ := KB.out w4 HTw4.out.1
        have p_0 : w4.cell? ⟨G, 0, none⟩ = some (.int .i64 _) := HTw4.out.2.1.cell 0
        have p_1 : w4.cell? ⟨G, 1, none⟩ = some (.int .i64 _) := HTw4.out.2.1.cell 1
        have q_0 : w4.cell? ⟨G + 1, 0, none⟩ = some (.int .i64 _) := HTw4.out.2.2.cell 0
        have q_1 : w4.cell? ⟨G + 1, 1, none⟩ = some (.int .i64 _) := HTw4.out.2.2.cell 1
        clear hs
        go_wp2_with fail
        refine (HC.out _).mono ?_
        rintro e w5 ⟨rfl, hs⟩
        rw [h2]
        have HTw5 := Lib.hid (And.intro (HTw4.out.1.trans hs) (And.intro (hs.blk HTw4.out.2.1) (hs.blk HTw4.out.2.2)))
        obtain ⟨a_0, a_1, c_0, c_1, b_0, b_1, b_2, b_3⟩ := KB.out w5 HTw5.out.1
        have p_0 : w5.cell? ⟨G, 0, none⟩ = some (.int .i64 _) := HTw5.out.2.1.cell 0
        have p_1 : w5.cell? ⟨G, 1, none⟩ = some (.int .i64 _) := HTw5.out.2.1.cell 1
        have q_0 : w5.cell? ⟨G + 1, 0, none⟩ = some (.int .i64 _) := HTw5.out.2.2.cell 0
        have q_1 : w5.cell? ⟨G + 1, 1, none⟩ = some (.int .i64 _) := HTw5.out.2.2.cell 1
        clear hs
        go_wp2
        go_ret
        exact ⟨rfl, HS1.out.trans HTw5.out.1⟩
      · have h3 : okB lx ly hx hy = false := by have := HGd.out; rw [h1, h2] at this; simpa using this
        go_wp2_with fail
        refine (HA.out _).mono ?_
        rintro e w4 ⟨rfl, hs⟩
        rw [h1]
        have HTw4 := Lib.hid (And.intro (HTw3.out.1.trans hs) (And.intro (hs.blk HTw3.out.2.1) (hs.blk HTw3.out.2.2)))
        obtain ⟨a_0, a_1, c_0, c_1, b_0, b_1, b_2, b_3⟩ := KB.out w4 HTw4.out.1
        have p_0 : w4.cell? ⟨G, 0, none⟩ = some (.int .i64 _) := HTw4.out.2.1.cell 0
        have p_1 : w4.cell? ⟨G, 1, none⟩ = some (.int .i64 _) := HTw4.out.2.1.cell 1
        have q_0 : w4.cell? ⟨G + 1, 0, none⟩ = some (.int .i64 _) := HTw4.out.2.2.cell 0
        have q_1 : w4.cell? ⟨G + 1, 1, none⟩ = some (.int .i64 _) := HTw4.out.2.2.cell 1
        clear hs
        go_wp2_with fail
        refine (HC.out _).mono ?_
        rintro e w5 ⟨rfl, hs⟩
        rw [h2]
        have HTw5 := Lib.hid (And.intro (HTw4.out.1.trans hs) (And.intro (hs.blk HTw4.out.2.1) (hs.blk HTw4.out.2.2)))
        obtain ⟨a_0, a_1, c_0, c_1, b_0, b_1, b_2, b_3⟩ := KB.out w5 HTw5.out.1
        have p_0 : w5.cell? ⟨G, 0, none⟩ = some (.int .i64 _) := HTw5.out.2.1.cell 0
        have p_1 : w5.cell? ⟨G, 1, none⟩ = some (.int .i64 _) := HTw5.out.2.1.cell 1
        have q_0 : w5.cell? ⟨G + 1, 0, none⟩ = some (.int .i64 _) := HTw5.out.2.2.cell 0
        have q_1 : w5.cell? ⟨G + 1, 1, none⟩ = some (.int .i64 _) := HTw5.out.2.2.cell 1
        clear hs
        go_wp2_with fail
        refine (HX.out _).mono ?_
        rintro e w6 ⟨rfl, hs⟩
        rw [h3]
        have HTw6 := Lib.hid (And.intro (HTw5.out.1.trans hs) (And.intro (hs.blk HTw5.out.2.1) (hs.blk HTw5.out.2.2)))
        obtain ⟨a_0, a_1, c_0, c_1, b_0, b_1, b_2, b_3⟩ := KB.out w6 HTw6.out.1
        have p_0 : w6.cell? ⟨G, 0, none⟩ = some (.int .i64 _) := HTw6.out.2.1.cell 0
        have p_1 : w6.cell? ⟨G, 1, none⟩ = some (.int .i64 _) := HTw6.out.2.1.cell 1
        have q_0 : w6.cell? ⟨G + 1, 0, none⟩ = some (.int .i64 _) := HTw6.out.2.2.cell 0
        have q_1 : w6.cell? ⟨G + 1, 1, none⟩ = some (.int .i64 _) := HTw6.out.2.2.cell 1
        clear hs
        go_wp2
        go_ret
        exact ⟨rfl, HS1.out.trans HTw6.out.1⟩
  · rw [Bool.and_eq_true, Bool.and_eq_true] at hg
    obtain ⟨⟨h1, h2⟩, h3⟩ := hg
    have HK := Lib.hid (And.intro h1 (And.intro h2 h3))
    go_wp2_with fail
    refine (HA.out _).mono ?_
    rintro e w4 ⟨rfl, hs⟩
    rw [h1]
    have HTw4 := Lib.hid (And.intro (HTw3.out.1.trans hs) (And.intro (hs.blk HTw3.out.2.1) (hs.blk HTw3.out.2.2)))
    obtain ⟨a_0, a_1, c_0, c_1, b_0, b_1, b_2, b_3⟩ := KB.out w4 HTw4.out.1
    have p_0 : w4.cell? ⟨G, 0, none⟩ = some (.int .i64 _) := HTw4.out.2.1.cell 0
    have p_1 : w4.cell? ⟨G, 1, none⟩ = some (.int .i64 _) := HTw4.out.2.1.cell 1
    have q_0 : w4.cell? ⟨G + 1, 0, none⟩ = some (.int .i64 _) := HTw4.out.2.2.cell 0
    have q_1 : w4.cell? ⟨G + 1, 1, none⟩ = some (.int .i64 _) := HTw4.out.2.2.cell 1
    clear hs
    go_wp2_with fail
    refine (HC.out _).mono ?_
    rintro e w5 ⟨rfl, hs⟩
    rw [h2]
    have HTw5 := Lib.hid (And.intro (HTw4.out.1.trans hs) (And.intro (hs.blk HTw4.out.2.1) (hs.blk HTw4.out.2.2)))
    obtain ⟨a_0, a_1, c_0, c_1, b_0, b_1, b_2, b_3⟩ := KB.out w5 HTw5.out.1
    have p_0 : w5.cell? ⟨G, 0, none⟩ = some (.int .i64 _) := HTw5.out.2.1.cell 0
    have p_1 : w5.cell? ⟨G, 1, none⟩ = some (.int .i64 _) := HTw5.out.2.1.cell 1
    have q_0 : w5.cell? ⟨G + 1, 0, none⟩ = some (.int .i64 _) := HTw5.out.2.2.cell 0
    have q_1 : w5.cell? ⟨G + 1, 1, none⟩ = some (.int .i64 _) := HTw5.out.2.2.cell 1
    clear hs
    go_wp2_with fail
    refine (HX.out _).mono ?_
    rintro e w6 ⟨rfl, hs⟩
    rw [h3]
    have HTw6 := Lib.hid (And.intro (HTw5.out.1.trans hs) (And.intro (hs.blk HTw5.out.2.1) (hs.blk HTw5.out.2.2)))
    obtain ⟨a_0, a_1, c_0, c_1, b_0, b_1, b_2, b_3⟩ := KB.out w6 HTw6.out.1
    have p_0 : w6.cell? ⟨G, 0, none⟩ = some (.int .i64 _) := HTw6.out.2.1.cell 0
    have p_1 : w6.cell? ⟨G, 1, none⟩ = some (.int .i64 _) := HTw6.out.2.1.cell 1
    have q_0 : w6.cell? ⟨G + 1, 0, none⟩ = some (.int .i64 _) := HTw6.out.2.2.cell 0
    have q_1 : w6.cell? ⟨G + 1, 1, none⟩ = some (.int .i64 _) := HTw6.out.2.2.cell 1
    clear hs
    clear h1 h2 h3
    go_wp2_with fail
    refine (HSp.out HK.out.1 HK.out.2.1 HK.out.2.2 _).mono ?_
    rintro e w7 ⟨⟨r, rfl, hr⟩, hs⟩
    rw [← HSm.out r hr HK.out.1 HK.out.2.1 HK.out.2.2, HV.out]
    have HT7 := Lib.hid (And.intro (HTw6.out.1.trans hs) (And.intro (hs.blk HTw6.out.2.1) (hs.blk HTw6.out.2.2)))
    clear hs hr
    go_upto_region 7 with fail
    refine atW (fun w' => Since w1 w' ∧ Blk w' G 23 #[.int .i64 px, .int .i64 py] ∧ Blk w' (G + 1) 23 #[.int .i64 qx, .int .i64 qy] ∧ Blk w' w7.heap.size 23 #[.int .i64 px, .int .i64 py] ∧ Blk w' (w7.heap.size + 1) 23 #[.int .i64 qx, .int .i64 qy]) ?hw ?_
    case hw => exact ⟨(HT7.out.1.alloc _).alloc _, (HT7.out.2.1.alloc _).alloc _, (HT7.out.2.2.alloc _).alloc _, (Blk.new _ _ _).alloc _, Blk.new' (by simp)⟩
    rintro w8 ⟨hs, hp, hq, hx', hy'⟩
    have p_0 := hp.cell 0
    have p_1 := hp.cell 1
    have p_f0 := hp.frozen 0
    have p_f1 := hp.frozen 1
    simp only [List.getElem?_toArray, List.getElem?_cons_zero, List.getElem?_cons_succ] at p_0 p_1
    have q_0 := hq.cell 0
    have q_1 := hq.cell 1
    have q_f0 := hq.frozen 0
    have q_f1 := hq.frozen 1
    simp only [List.getElem?_toArray, List.getElem?_cons_zero, List.getElem?_cons_succ] at q_0 q_1
    have x_0 := hx'.cell 0
    have x_1 := hx'.cell 1
    have x_f0 := hx'.frozen 0
    have x_f1 := hx'.frozen 1
    simp only [List.getElem?_toArray, List.getElem?_cons_zero, List.getElem?_cons_succ] at x_0 x_1
    have y_0 := hy'.cell 0
    have y_1 := hy'.cell 1
    have y_f0 := hy'.frozen 0
    have y_f1 := hy'.frozen 1
    simp only [List.getElem?_toArray, List.getElem?_cons_zero, List.getElem?_cons_succ] at y_0 y_1
    have HS8 := Lib.hid (HS1.out.trans hs)
    clear hs hp hq hx' hy'
    cases bg <;> cases be <;> cases ok
    all_goals
      go_wp2
      go_ret
      exact ⟨rfl, HS8.out⟩
end Go.Proofs.Ytcckekdfeeghaaa
