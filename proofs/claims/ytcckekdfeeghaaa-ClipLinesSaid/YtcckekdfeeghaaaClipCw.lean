/-
  The walk of terrref3.Clipped. Conditions: a right line and a right box; what PartOf returns.
-/
import Derived.Test.YtcckekdfeeghaaaClipCm
import Derived.Test.YtcckekdfeeghaaaClipSg
import Derived.Test.YtcckekdfeeghaaaAppT
namespace Go.Proofs.Ytcckekdfeeghaaa
set_option linter.unusedSimpArgs false
set_option linter.unusedVariables false
open Go.RowKit Go.BigFrame
attribute [local go_sem ↓] eqPt neqPt

/-- The reference's part of a segment is that of the text. -/
theorem PartOf_seg (ax ay cx cy lx ly hx hy : Int) (w : World) (h1 : okP ax ay = true) (h2 : okP cx cy = true) (h3 : okB lx ly hx hy = true) :
    Calls Try.prog 34 #[.agg #[.int .i64 ax, .int .i64 ay], .agg #[.int .i64 cx, .int .i64 cy], .agg #[.int .i64 lx, .int .i64 ly, .int .i64 hx, .int .i64 hy]] w fun e w' => e = .returned (segVal (segV ax ay cx cy lx ly hx hy)) ∧ Since w w' := by
  refine (PartOf_any ax ay cx cy lx ly hx hy w h1 h2 h3).mono ?_
  rintro e w' ⟨⟨r, rfl, hr⟩, hs⟩
  exact ⟨by rw [part_seg hr h1 h2 h3], hs⟩
theorem lineB_ok {l : List Pt2} (h : lineB l = true) {i : Nat} (hi : i < l.length) : okP (pAt l i).1 (pAt l i).2 = true := by
  unfold lineB at h
  simp only [Bool.and_eq_true, decide_eq_true_eq] at h
  have h1 := h.1.1
  rw [List.all_eq_true] at h1
  have := h1 i (List.mem_range.2 hi)
  unfold goodAt at this
  rw [Bool.and_eq_true] at this
  exact this.1
/-- What Clipped returns. -/
def clippedV (l : List Pt2) (lx ly hx hy : Int) : List (List Pt2) := restL (refRun (fun i => segAt l lx ly hx hy (i + 1)) (l.length - 1) 0 [] false).1

set_option maxRecDepth 100000 in
set_option maxHeartbeats 4000000 in
theorem Clipped_any (v : Value) (l : List Pt2) (lx ly hx hy : Int) (w : World) (hlB : lineB l = true) (hbB : okB lx ly hx hy = true) (hv : PtsS w v l) :
    Calls Try.prog 36 #[v, .agg #[.int .i64 lx, .int .i64 ly, .int .i64 hx, .int .i64 hy]] w fun e w' => (∃ v', e = .returned v' ∧ LisS w' v' (clippedV l lx ly hx hy)) ∧ Since w w' := by
  obtain ⟨hn1, hn2⟩ := lineB_len hlB
  have HSeg := Lib.hid (fun (i j : Nat) (hi : i < l.length) (hj : j < l.length) w => PartOf_seg (pAt l i).1 (pAt l i).2 (pAt l j).1 (pAt l j).2 lx ly hx hy w (lineB_ok hlB hi) (lineB_ok hlB hj) hbB)
  have HF : Hid (clippedV l lx ly hx hy = restL (refRun (fun i => segAt l lx ly hx hy (i + 1)) (l.length - 1) 0 [] false).1) := rfl
  clear hlB hbB
  obtain ⟨a, c, rfl, hv⟩ := hv
  have HV := Lib.hid hv
  clear hv
  have lw : IntKind.i64.wrap ((l.length : Int) - 1) = ((l.length - 1 : Nat) : Int) := by
    rw [i64w, show (l.length : Int) - 1 = ((l.length - 1 : Nat) : Int) by omega]
    exact wrap_id (by omega)
  obtain ⟨L, HL⟩ : ∃ L, Hid (L = l.length - 1) := ⟨_, rfl⟩
  rw [← HL.out] at lw HF
  have hLb : L ≤ 199 := by have := HL.out; omega
  go_enter Try.func36, Try.ntmps36
  go_wp2_with fail
  have hw0 : w.heap.size < w.heap.size + 1 := Nat.lt_succ_self _
  have HB0 := Lib.hid (Blk.new w 28 #[.int .i64 lx, .int .i64 ly, .int .i64 hx, .int .i64 hy])
  have HR0 : Hid (RSt w (w.alloc (.cells #[.int .i64 lx, .int .i64 ly, .int .i64 hx, .int .i64 hy] 28)) (w.heap.size + 1) [] (.slice none 0 0)) :=
    ⟨[], fun _ => 0, fun _ => 0, fun _ => 0, w.heap.size + 1, (Since.rfl_ w).alloc _, by omega, Nat.le_refl _, by simp, World.ownsRow_nil _ _ _ _, ⟨fun i hi => absurd hi (Nat.not_lt_zero _), fun i j _ hj => absurd hj (Nat.not_lt_zero _)⟩, fun n hn => by simp at hn⟩
  generalize World.alloc w _ = w1 at *
  go_loopw [19, 5, 6] (fun v19 v5 v6 wr => ∃ (i : Nat) (outs : List (List Pt2)) (op : Bool), i ≤ L ∧ v19 = .int .i64 i ∧ v6 = .bool op ∧ outs.length ≤ i ∧ Hid (∀ j, j < outs.length → (rAt outs j).length ≤ i + 1) ∧
    Hid (refRun (fun i => segAt l lx ly hx hy (i + 1)) (L - i) i outs op = refRun (fun i => segAt l lx ly hx hy (i + 1)) L 0 [] false) ∧ Hid (op = true → outs ≠ []) ∧ Hid (Blk wr w.heap.size 28 #[.int .i64 lx, .int .i64 ly, .int .i64 hx, .int .i64 hy]) ∧ Hid (RSt w wr (w.heap.size + 1) outs v5)) (fun v _ _ _ => L - (intOf v).toNat)
  case atStart => exact ⟨0, [], false, by omega, by go_num, rfl, by simp, (fun j hj => absurd hj (Nat.not_lt_zero _)), rfl, (fun h => by cases h), HB0, HR0⟩
  case round =>
    clear HB0 HR0
    obtain ⟨i, outs, op, hi, rfl, rfl, ho, HLen, HRun, HOp, HB, HR⟩ := hrel
    rcases Nat.lt_or_ge i L with hlt | hge
    · have hL := HL.out
      have i9 : i < l.length := by omega
      obtain ⟨j, hj⟩ : ∃ j, j = i + 1 := ⟨_, rfl⟩
      have HJ := Lib.hid hj
      have i8 : j < l.length := by omega
      clear hL
      obtain ⟨us, G, C, N, B, hRV⟩ := HR.out
      have hS := hRV.1
      obtain ⟨av, cv, hav⟩ := own_slice hRV.2.2.2.2.1
      subst hav
      have HRV := Lib.hid hRV
      clear hRV
      obtain ⟨g, o, ha, e0, e1⟩ := HV.out i i9
      subst ha
      obtain ⟨g', o', ha', e2, e3⟩ := HV.out j i8
      injection ha' with ha'
      injection ha' with hg' ho'
      subst hg' ho'
      replace e0 := keepC hS _ _ e0
      replace e1 := keepC hS _ _ e1
      replace e2 := keepC hS _ _ e2
      replace e3 := keepC hS _ _ e3
      have b0 : wr.cell? ⟨w.heap.size, 0, none⟩ = some (.int .i64 lx) := HB.out.cell 0
      have b1 : wr.cell? ⟨w.heap.size, 1, none⟩ = some (.int .i64 ly) := HB.out.cell 1
      have b2 : wr.cell? ⟨w.heap.size, 2, none⟩ = some (.int .i64 hx) := HB.out.cell 2
      have b3 : wr.cell? ⟨w.heap.size, 3, none⟩ = some (.int .i64 hy) := HB.out.cell 3
      have iw : IntKind.i64.wrap ((i : Int) + 1) = (j : Int) := by
        rw [i64w, show (i : Int) + 1 = (j : Int) by omega]
        exact wrap_id (by omega)
      have i1 : (0 : Int) ≤ (j : Int) := Int.natCast_nonneg _
      have i2 : (j : Int) < (l.length : Int) := by omega
      have i3 : (i : Int) < (l.length : Int) := by omega
      have i4 : (0 : Int) ≤ (i : Int) := by omega
      have gl : g < wr.heap.size := World.block_lt_of_cell? wr _ e0
      have wl : w.heap.size < wr.heap.size := World.block_lt_of_cell? wr _ b0
      have wn1 : ¬ wr.heap.size = w.heap.size := by omega
      have wn2 : ¬ wr.heap.size + 1 = w.heap.size := by omega
      have wn3 : ¬ w.heap.size = wr.heap.size := by omega
      have wn4 : ¬ w.heap.size = wr.heap.size + 1 := by omega
      have gn1 : ¬ wr.heap.size = g := by omega
      have gn2 : ¬ wr.heap.size + 1 = g := by omega
      have gn3 : ¬ g = wr.heap.size := by omega
      have gn4 : ¬ g = wr.heap.size + 1 := by omega
      clear hS hj
      obtain ⟨sg, HSg⟩ : ∃ sg, Hid (sg = segV (pAt l i).1 (pAt l i).2 (pAt l j).1 (pAt l j).2 lx ly hx hy) := ⟨_, rfl⟩
      obtain ⟨px, py, qx, qy, bg, be, ok, hv⟩ := segVal_form sg
      have HP := Lib.hid (HSeg.out i j i9 i8)
      rw [← HSg.out, hv] at HP
      have HVl := Lib.hid hv
      clear hv
      go_upto_region 6 with fail
      go_cut [8, 9, 10, 11, 12] from 22 to 67 (fun v8 v9 v10 v11 v12 w' => ∃ gp gq : Nat, v8 = .pointer (some ⟨gp, 0, none⟩) ∧ v9 = .pointer (some ⟨gq, 0, none⟩) ∧ v10 = .bool bg ∧ v11 = .bool be ∧ v12 = .bool ok ∧
        Blk w' gp 23 #[.int .i64 px, .int .i64 py] ∧ Blk w' gq 23 #[.int .i64 qx, .int .i64 qy] ∧ Since wr w' ∧ wr.heap.size ≤ gq)
      case first =>
        as_aux_lemma =>
        go_region_held3 (fun w' => w'.cell? ⟨g, o + i * 2, none⟩ = some (.int .i64 (pAt l i).1) ∧ w'.cell? ⟨g, o + i * 2 + 1, none⟩ = some (.int .i64 (pAt l i).2) ∧ w'.cell? ⟨g, o + j * 2, none⟩ = some (.int .i64 (pAt l j).1) ∧ w'.cell? ⟨g, o + j * 2 + 1, none⟩ = some (.int .i64 (pAt l j).2) ∧ w'.cell? ⟨w.heap.size, 0, none⟩ = some (.int .i64 lx) ∧ w'.cell? ⟨w.heap.size, 1, none⟩ = some (.int .i64 ly) ∧ w'.cell? ⟨w.heap.size, 2, none⟩ = some (.int .i64 hx) ∧ w'.cell? ⟨w.heap.size, 3, none⟩ = some (.int .i64 hy) ∧ Since wr w') ((simp (maxDischargeDepth := 9) [*, World.cell?_alloc_some, cSetO, cellDrew])) (first | (go_at_call 34; (with_reducible refine (HP.out _).mono ?_); rintro e w' ⟨rfl, hs⟩; have kk := fun (p : Addr) (hp : p.block < _) => Below.cell hs hp; have kf := fun (p : Addr) (hp : p.block < _) => Below.frozen hs hp; have kz := fun (b : Nat) (hb : b < _) => Nat.lt_of_lt_of_le hb hs.size; have ks := keepS hs; have k0 := keepC hs; have kb := keepB hs; clear hs))
        all_goals
          rename_i hH
          have hS := hH.2.2.2.2.2.2.2.2
          clear hH
          go_wp2_with fail
          go_meet
          refine ⟨_, _, rfl, rfl, rfl, rfl, rfl, ?_, ?_, hS, ?_⟩
          rotate_right
          · clear hS
            first
              | (simp [sizeSet]; done)
              | (simp [sizeSet]; omega)
              | (have hz := Nat.le_of_not_lt (fun hlt => Nat.lt_irrefl _ (kz _ hlt)); simp [sizeSet] at hz ⊢; omega)
          all_goals
            clear hS
            first
              | with_reducible exact (Blk.new' rfl).alloc _
              | ((with_reducible refine Blk.new' ?_); simp [sizeSet]; done)
              | ((with_reducible refine (Blk.pair (kb _ _ _ (Blk.new' ?_).drew)).alloc _); first | rfl | (simp; done))
              | ((with_reducible refine ((Blk.pair (kb _ _ _ ((Blk.new' ?_).alloc _).drew)).far ?_ _).far ?_ _) <;> first | rfl | (simp; done) | (dsimp only; omega))
              | ((with_reducible refine ((Blk.pair (kb _ _ _ (Blk.new' ?_).drew)).far ?_ _).far ?_ _) <;> first | rfl | (simp; done) | (dsimp only; omega))
              | ((with_reducible refine Blk.pair (((kb _ _ _ ((Blk.new' ?_).alloc _).drew).far ?_ _).far ?_ _)) <;> first | rfl | (simp; done) | (dsimp only; omega))
              | ((with_reducible refine Blk.pair (((kb _ _ _ (Blk.new' ?_).drew).far ?_ _).far ?_ _)) <;> first | rfl | (simp; done) | (dsimp only; omega))
              | (trace_state; fail)
      case rest =>
        obtain ⟨gp, gq, rfl, rfl, rfl, rfl, rfl, hp, hq, hs, hgq⟩ := hcut
        obtain ⟨w2, rfl⟩ : ∃ w2, w2 = wc := ⟨_, rfl⟩
        have HR2 := Lib.hid (HR.out.since hs)
        have HRq : Hid (RSq w w2 (w.heap.size + 1) outs (.slice av outs.length cv) gq) := by
          refine ⟨us, G, C, N, B, HRV.out.since hs, fun i hi e => ?_⟩
          have := (HRV.out.2.2.2.2.2.1.1 i hi).2.1.lt
          omega
        clear hgq
        have HB2 := Lib.hid (hs.blk HB.out)
        have HPb := Lib.hid hp
        have HQb := Lib.hid hq
        have HRun2 : Hid (refRun (fun i => segAt l lx ly hx hy (i + 1)) (L - (i + 1)) (i + 1) (refStep outs op sg).1 (refStep outs op sg).2 = refRun (fun i => segAt l lx ly hx hy (i + 1)) L 0 [] false) := by
          show _ = _
          rw [← HRun.out, show L - i = L - (i + 1) + 1 by omega, refRun]
          have : segAt l lx ly hx hy (i + 1) = sg := by rw [HSg.out]; unfold segAt; rw [Nat.add_sub_cancel, HJ.out]
          rw [this]
        have HOp2 := Lib.hid (ref_open (outs := outs) (op := op) sg)
        clear hs HR HB hp hq HRun HRV e0 e1 e2 e3 b0 b1 b2 b3 HP iw i1 i2 i3 i4 wn1 wn2 wn3 wn4 gn1 gn2 gn3 gn4 gl wl i8 i9 HSg HJ HSeg
        rcases sg with _ | ⟨f, k⟩
        · have hz := HVl.out
          simp [segVal] at hz
          obtain ⟨-, -, -, -, rfl⟩ := hz
          clear HVl HOp2
          go_wp2_with fail
          go_roundw
          case rel => exact ⟨i + 1, outs, false, by omega, by go_num, rfl, by omega, fun j hj => Nat.le_succ_of_le (HLen.out j hj), HRun2, (fun h => by cases h), HB2, HR2⟩
          case measure => simp [intOf]; omega
        · have hz := HVl.out
          simp [segVal] at hz
          obtain ⟨⟨hp1, hp2⟩, ⟨hq1, hq2⟩, hbg, hbe, rfl⟩ := hz
          have HPv : Hid (cutP f = (px, py) ∧ cutP k = (qx, qy)) := ⟨by rw [← hp1, ← hp2]; rfl, by rw [← hq1, ← hq2]; rfl⟩
          have HBG := Lib.hid hbg
          have HBE := Lib.hid hbe
          clear hp1 hp2 hq1 hq2 hbg hbe HVl
          obtain ⟨o1, HO1⟩ : ∃ o1, Hid (o1 = if op = true ∧ f.1 = 0 then outs else outs ++ [[cutP f]]) := ⟨_, rfl⟩
          have HSt : Hid (refStep outs op (some (f, k)) = (addL o1 (cutP k), be)) := by
            show _ = _
            unfold refStep; dsimp only; rw [HO1.out, HBE.out]; split <;> rfl
          have HNe : Hid (o1 ≠ []) := by
            show _ ≠ _
            rw [HO1.out]; split
            · rename_i hc; exact HOp.out hc.1
            · simp
          have HLen1 : Hid (o1.length ≤ i + 1 ∧ ∀ j, j < o1.length → (rAt o1 j).length ≤ i + 1) := by
            rw [HO1.out]; split
            · exact ⟨by omega, HLen.out⟩
            · refine ⟨by simpa using ho, fun j hj => ?_⟩
              rcases Nat.lt_or_ge j outs.length with h | h
              · rw [rAt_snoc_lt h]; exact HLen.out j h
              · obtain rfl : j = outs.length := by simp at hj; omega
                rw [rAt_snoc]; simp
          rw [HSt.out] at HRun2
          clear HOp2 HBE HLen HSt
          obtain ⟨ob, HOb⟩ : ∃ ob, Hid (ob = (op && bg)) := ⟨_, rfl⟩
          go_upto_region 9 with fail
          go_cut [46] from 22 to 67 (fun v46 w' => v46 = .bool (!ob) ∧ w2 = w')
          case first =>
            as_aux_lemma =>
            cases op <;> cases bg
            all_goals
              go_wp2_with fail
              go_meet
              exact ⟨by rw [HOb.out]; rfl, rfl⟩
          case rest =>
          obtain ⟨rfl, rfl⟩ := hcut
          go_upto_if 46 with fail
          go_cut [5] from 22 to 67 (fun v5 w' => RSq w w' (w.heap.size + 1) o1 v5 gq ∧ Blk w' w.heap.size 28 #[.int .i64 lx, .int .i64 ly, .int .i64 hx, .int .i64 hy] ∧ Blk w' gq 23 #[.int .i64 qx, .int .i64 qy])
          case first =>
            as_aux_lemma =>
            have hc := HOb.out
            cases ob
            · have e1 : Hid (o1 = outs ++ [[(px, py)]]) := by
                show _ = _
                rw [HO1.out, if_neg, HPv.out.1]
                rintro ⟨a, b⟩
                rw [a, ← HBG.out, b] at hc; simp at hc
              obtain ⟨us, G, C, N, B, hRV, hne⟩ := HRq.out
              have HNq := Lib.hid hne
              clear hne
              have HOwn := Lib.hid hRV.2.2.2.2.1
              have hsz := Nat.le_trans hRV.2.2.1 hRV.2.2.2.1
              have HRV := Lib.hid hRV
              have HT : Hid (∀ (g : Nat) (t : TypeId) (cs : Array Value), Blk w2 g t cs → Blk ((w2.alloc (.cells #[.int .i64 px, .int .i64 py] 23)).alloc (.cells #[.slice (some ⟨w2.heap.size, 0, none⟩) 1 1] 32)) g t cs) := fun g t cs h => (h.alloc _).alloc _
              have p0 : w2.cell? ⟨gp, 0, none⟩ = some (.int .i64 px) := HPb.out.cell 0
              have p1 : w2.cell? ⟨gp, 1, none⟩ = some (.int .i64 py) := HPb.out.cell 1
              obtain ⟨i0, hi0, hz0, hz1, hz2⟩ := info_parts infoPts
              have HI := Lib.hid hi0
              have HZ := Lib.hid (And.intro hz0 (And.intro hz1 hz2))
              clear hi0 hz0 hz1 hz2 hRV
              clear hc
              go_wp2_with (at_builtin; refine wpList_append_own _ rfl _ _ 30 rfl (w.heap.size + 1) 32 i0 _ 1 24 Try.underlying30 HI.out HZ.out.1 HZ.out.2.1 HZ.out.2.2 rfl (by decide) _ _ _ rfl (own_since (((Since.rfl_ w2).alloc _).alloc _) HOwn.out) _ _ _ [.slice (some ⟨w2.heap.size, 0, none⟩) 1 1] rfl rfl ?c1 ?c2 ?c3 ?c4 ?c5 ?_)
              case c2 => first | rfl | (intro u hu; rw [List.mem_singleton.1 hu]; rfl)
              case c3 => show outs.length + 1 ≤ maxLen; unfold maxLen; omega
              case c4 => show (outs.length + 1) * 24 ≤ _; omega
              case c5 => first | omega | (simp only [World.size_alloc]; omega)
              intro v' w' hown hgrow _
              have HX : Hid (RSq w w' (w.heap.size + 1) (outs ++ [[(px, py)]]) v' gq) := by
                obtain ⟨us', G', C', N', B', h1, h2, h3⟩ := HRV.out.new (p := (px, py)) rfl hown hgrow
                refine ⟨us', G', C', N', B', h1, fun i hi e => ?_⟩
                have := HQb.out.lt
                rcases Nat.lt_or_ge i outs.length with g | g
                · exact HNq.out i g ((h2 i g).symm.trans e)
                · obtain rfl : i = outs.length := by simp at hi; omega
                  omega
              have HOA := own_since (((Since.rfl_ w2).alloc (.cells #[.int .i64 px, .int .i64 py] 23)).alloc (.cells #[.slice (some ⟨w2.heap.size, 0, none⟩) 1 1] 32)) HOwn.out
              have HB3 := Lib.hid ((HT.out _ _ _ HB2.out).app HOA (by decide) hgrow)
              have HQ3 := Lib.hid ((HT.out _ _ _ HQb.out).app HOA (by decide) hgrow)
              clear hown hgrow HOA
              go_wp2_with fail
              go_meet
              rw [e1.out]
              exact ⟨HX.out, HB3.out, HQ3.out⟩
            · replace hc := hc.symm
              rw [Bool.and_eq_true] at hc
              obtain ⟨rfl, rfl⟩ := hc
              have e1 : Hid (o1 = outs) := by
                show _ = _
                rw [HO1.out, if_pos ⟨rfl, by have := HBG.out; simpa using this⟩]
              go_wp2_with fail
              go_meet
              rw [e1.out]
              exact ⟨HRq.out, HB2.out, HQb.out⟩
          case rest =>
            obtain ⟨hR, hb, hq⟩ := hcut
            obtain ⟨w3, rfl⟩ : ∃ w3, w3 = wc := ⟨_, rfl⟩
            obtain ⟨n, hn⟩ : ∃ n, o1.length = n + 1 := ⟨o1.length - 1, by have := List.length_pos_iff.2 HNe.out; omega⟩
            obtain ⟨hl1, hl2⟩ := HLen1.out
            have hln := hl2 n (by omega)
            obtain ⟨us, G, C, N, B, hRV, hne⟩ := hR
            have gne := hne n (by omega)
            clear hne
            obtain ⟨gO, cO, hvv⟩ : ∃ gO cO, u5 = .slice (some ⟨gO, 0, none⟩) (n + 1) cO := by
              rcases hRV.2.2.2.2.1.2 with ⟨-, h0⟩ | ⟨g, cap, cur, h0, -⟩
              · omega
              · exact ⟨g, cap, by rw [h0, hn]⟩
            have HRV := Lib.hid hRV
            have HN := Lib.hid hn
            obtain ⟨s0, s1, s2, s3, s4, s5, s6, ⟨cs0, s7⟩⟩ := hRV.slot hn hvv
            have hlast := (hRV.2.2.2.2.2.2 n hn).2
            have hBw := hRV.2.2.2.1
            have HOw := Lib.hid hlast
            have HS7 := Lib.hid s7
            have HB3 := Lib.hid hb
            have HQ3 := Lib.hid hq
            have q0 : w3.cell? ⟨gq, 0, none⟩ = some (.int .i64 qx) := hq.cell 0
            have q1 : w3.cell? ⟨gq, 1, none⟩ = some (.int .i64 qy) := hq.cell 1
            have hn2 : n + 1 ≤ i + 1 := by omega
            have HL1 := Lib.hid hl1
            have HL2 := Lib.hid hl2
            have nw : IntKind.i64.wrap (((n + 1 : Nat) : Int) - 1) = (n : Int) := by
              rw [i64w, show ((n + 1 : Nat) : Int) - 1 = n by omega]
              exact wrap_id (by omega)
            have n1 : (0 : Int) ≤ (n : Int) := Int.natCast_nonneg n
            have n2 : (n : Int) < ((n + 1 : Nat) : Int) := by omega
            subst hvv
            obtain ⟨ln, HLn⟩ : ∃ ln, Hid (ln = (rAt o1 n).length) := ⟨_, rfl⟩
            rw [← HLn.out] at s0 hln
            clear hRV hlast s7 hb hq hl1 hl2 hn HR2 HB2 HPb HQb HLen1 HNe HOb HO1 HBG
            go_upto_region 11 with fail
            obtain ⟨cur, hcg, hcs, hct, hlc, hcm, hBG⟩ : ∃ cur, Blk w3 (G n) 23 cur ∧ cur.size = C n * 2 ∧ cur.toList.take ((rAt o1 n).flatMap ptV).length = (rAt o1 n).flatMap ptV ∧ ln ≤ C n ∧ C n ≤ maxLen ∧ B ≤ G n := by
              rcases HOw.out.2 with ⟨h0, -⟩ | ⟨g, cap, cur, hv, hb, hg, h1, h2, h3, h4⟩
              · cases h0
              · injection hv with e1 e2 e3
                injection e1 with e1
                injection e1 with e1 _ _
                subst e1 e3
                refine ⟨cur, hg, h3, ?_, by rw [HLn.out]; exact h1, h2, hb⟩
                rw [HOw.out.1]; exact h4
            have hfl : ((rAt o1 n).flatMap ptV).length = ln * 2 := by rw [HLn.out]; exact HOw.out.1
            obtain ⟨xs, hxs⟩ : ∃ xs, xs = (rAt o1 n).flatMap ptV := ⟨_, rfl⟩
            rw [← hxs] at hct hfl
            have HXs := Lib.hid hxs
            clear hxs
            letI TT : Tgt := ⟨fun g => if g = G n ∧ ln + 1 ≤ C n then some (.cells (xs ++ [Value.int .i64 qx, Value.int .i64 qy] ++ cur.toList.drop (ln * 2 + 2)).toArray 23) else none⟩
            have KT : ∀ g, g ≠ G n → Tgt.T g = none := fun g h => if_neg fun k => h k.1
            have KA : ∀ w', SinceT w3 w' → AppIn w' (G n) 23 (C n * 2) (xs.length + [Value.int .i64 qx, Value.int .i64 qy].length) xs (cur.toList.drop (ln * 2 + 2)) := fun w' h => by
              have := appIn_of (news := [Value.int .i64 qx, Value.int .i64 qy]) h hcg hct (by
                by_cases hr : ln + 1 ≤ C n
                · right
                  refine ⟨?_, by simp; omega⟩
                  rw [hfl]; exact if_pos ⟨rfl, hr⟩
                · left; exact if_neg fun k => hr k.2)
              rw [hcs] at this
              rw [← hfl]; exact this
            have KF : ∀ w', SinceT w3 w' → w'.cell? ⟨gO, n, none⟩ = some (.slice (some ⟨G n, 0, none⟩) ln (C n)) ∧ w'.cell? ⟨gq, 0, none⟩ = some (.int .i64 qx) ∧ w'.cell? ⟨gq, 1, none⟩ = some (.int .i64 qy) := fun w' h =>
              ⟨((h.blk (KT _ s4) HS7.out).cell n).trans ((HS7.out.cell n).symm.trans s0), (h.blk (KT _ (Ne.symm gne)) HQ3.out).cell 0, (h.blk (KT _ (Ne.symm gne)) HQ3.out).cell 1⟩
            have KF := Lib.hid KF
            have KA := Lib.hid KA
            have HC := Lib.hid (And.intro hcg (And.intro hcs hct))
            have HFl := Lib.hid hfl
            obtain ⟨i0, hi0, hz0, hz1, hz2⟩ := info_parts infoPt
            have HI := Lib.hid hi0
            have HZ := Lib.hid (And.intro hz0 (And.intro hz1 hz2))
            clear hi0 hz0 hz1 hz2 hcg hcs hct hfl q0 q1
            apply region_factsT 14 (fun w' => SinceT w3 w')
            case hm => kernel_rfl
            case hB => kernel_rfl
            case hS => exact (SinceT.rfl_ w3).drew
            case hmono => exact (fun _ _ h k => h.trans k)
            case hTb => exact (fun g hg => KT g (by omega))
            case h =>
            simp only [List.take_succ_cons, List.take_zero, List.drop_succ_cons, List.drop_zero]
            apply wpO_detT
            case hw => rfl
            case h =>
              intro hFm wx hS_ hF_ K hK
              go_big_quiet_op
              first
                | exact hK _ rfl
                | (apply Exists.intro; refine ⟨fun _ => ?_, ?_⟩; (focus (first | (intro hC; have hC := KF.out _ hC.out.1; (try simp only [hC, Result.andThen]); first | exact ⟨True.intro, rfl⟩ | exact ⟨rfl, rfl⟩ | rfl))); exact hK _ rfl)
            case k =>
            simp only [Act.put, List.setIfInBounds_toArray, List.set_cons_succ, List.set_cons_zero, List.cons_append, List.nil_append]
            apply wpO_detT
            case hw => rfl
            case h =>
              intro hFm wx hS_ hF_ K hK
              go_big_quiet_op
              first
                | exact hK _ rfl
                | (apply Exists.intro; refine ⟨fun _ => ?_, ?_⟩; (focus (first | (intro hC; have hC := KF.out _ hC.out.1; (try simp only [hC, Result.andThen]); first | exact ⟨True.intro, rfl⟩ | exact ⟨rfl, rfl⟩ | rfl))); exact hK _ rfl)
            case k =>
            simp only [Act.put, List.setIfInBounds_toArray, List.set_cons_succ, List.set_cons_zero, List.cons_append, List.nil_append]
            apply wpO_detT
            case hw => rfl
            case h =>
              intro hFm wx hS_ hF_ K hK
              go_big_quiet_op
              first
                | exact hK _ rfl
                | (apply Exists.intro; refine ⟨fun _ => ?_, ?_⟩; (focus (first | (intro hC; have hC := KF.out _ hC.out.1; (try simp only [hC, Result.andThen]); first | exact ⟨True.intro, rfl⟩ | exact ⟨rfl, rfl⟩ | rfl))); exact hK _ rfl)
            case k =>
            simp only [Act.put, List.setIfInBounds_toArray, List.set_cons_succ, List.set_cons_zero, List.cons_append, List.nil_append]
            apply wpO_detT
            case hw => rfl
            case h =>
              intro hFm wx hS_ hF_ K hK
              go_big_quiet_op
              first
                | exact hK _ rfl
                | (apply Exists.intro; refine ⟨fun _ => ?_, ?_⟩; (focus (first | (intro hC; have hC := KF.out _ hC.out.1; (try simp only [hC, Result.andThen]); first | exact ⟨True.intro, rfl⟩ | exact ⟨rfl, rfl⟩ | rfl))); exact hK _ rfl)
            case k =>
            simp only [Act.put, List.setIfInBounds_toArray, List.set_cons_succ, List.set_cons_zero, List.cons_append, List.nil_append]
            apply wpO_detT
            case hw => rfl
            case h =>
              intro hFm wx hS_ hF_ K hK
              go_big_quiet_op
              first
                | exact hK _ rfl
                | (apply Exists.intro; refine ⟨fun _ => ?_, ?_⟩; (focus (first | (intro hC; have hC := KF.out _ hC.out.1; (try simp only [hC, Result.andThen]); first | exact ⟨True.intro, rfl⟩ | exact ⟨rfl, rfl⟩ | rfl))); exact hK _ rfl)
            case k =>
            simp only [Act.put, List.setIfInBounds_toArray, List.set_cons_succ, List.set_cons_zero, List.cons_append, List.nil_append]
            apply wpO_detT
            case hw => rfl
            case h =>
              intro hFm wx hS_ hF_ K hK
              go_big_quiet_op
              first
                | exact hK _ rfl
                | (apply Exists.intro; refine ⟨fun _ => ?_, ?_⟩; (focus (first | (intro hC; have hC := KF.out _ hC.out.1; (try simp only [hC, Result.andThen]); first | exact ⟨True.intro, rfl⟩ | exact ⟨rfl, rfl⟩ | rfl))); exact hK _ rfl)
            case k =>
            simp only [Act.put, List.setIfInBounds_toArray, List.set_cons_succ, List.set_cons_zero, List.cons_append, List.nil_append]
            apply wpO_detT
            case hw => rfl
            case h =>
              intro hFm wx hS_ hF_ K hK
              go_big_quiet_op
              first
                | exact hK _ rfl
                | (apply Exists.intro; refine ⟨fun _ => ?_, ?_⟩; (focus (first | (intro hC; have hC := KF.out _ hC.out.1; (try simp only [hC, Result.andThen]); first | exact ⟨True.intro, rfl⟩ | exact ⟨rfl, rfl⟩ | rfl))); exact hK _ rfl)
            case k =>
            simp only [Act.put, List.setIfInBounds_toArray, List.set_cons_succ, List.set_cons_zero, List.cons_append, List.nil_append]
            apply wpO_detT
            case hw => rfl
            case h =>
              intro hFm wx hS_ hF_ K hK
              go_big_quiet_op
              first
                | exact hK _ rfl
                | (apply Exists.intro; refine ⟨fun _ => ?_, ?_⟩; (focus (first | (intro hC; have hC := KF.out _ hC.out.1; (try simp only [hC, Result.andThen]); first | exact ⟨True.intro, rfl⟩ | exact ⟨rfl, rfl⟩ | rfl))); exact hK _ rfl)
            case k =>
            simp only [Act.put, List.setIfInBounds_toArray, List.set_cons_succ, List.set_cons_zero, List.cons_append, List.nil_append]
            apply wpO_detT
            case hw => rfl
            case h =>
              intro hFm wx hS_ hF_ K hK
              go_big_quiet_op
              first
                | exact hK _ rfl
                | (apply Exists.intro; refine ⟨fun _ => ?_, ?_⟩; (focus (first | (intro hC; have hC := KF.out _ hC.out.1; (try simp only [hC, Result.andThen]); first | exact ⟨True.intro, rfl⟩ | exact ⟨rfl, rfl⟩ | rfl))); exact hK _ rfl)
            case k =>
            simp only [Act.put, List.setIfInBounds_toArray, List.set_cons_succ, List.set_cons_zero, List.cons_append, List.nil_append]
            apply wpO_detT
            case hw => rfl
            case h =>
              intro hFm wx hS_ hF_ K hK
              go_big_quiet_op
              first
                | exact hK _ rfl
                | (apply Exists.intro; refine ⟨fun _ => ?_, ?_⟩; (focus (first | (intro hC; have hC := KF.out _ hC.out.1; (try simp only [hC, Result.andThen]); first | exact ⟨True.intro, rfl⟩ | exact ⟨rfl, rfl⟩ | rfl))); exact hK _ rfl)
            case k =>
            simp only [Act.put, List.setIfInBounds_toArray, List.set_cons_succ, List.set_cons_zero, List.cons_append, List.nil_append]
            apply wpO_detT
            case hw => rfl
            case h =>
              intro hFm wx hS_ hF_ K hK
              go_big_quiet_op
              first
                | exact hK _ rfl
                | (apply Exists.intro; refine ⟨fun _ => ?_, ?_⟩; (focus (first | (intro hC; have hC := KF.out _ hC.out.1; (try simp only [hC, Result.andThen]); first | exact ⟨True.intro, rfl⟩ | exact ⟨rfl, rfl⟩ | rfl))); exact hK _ rfl)
            case k =>
            simp only [Act.put, List.setIfInBounds_toArray, List.set_cons_succ, List.set_cons_zero, List.cons_append, List.nil_append]
            apply wpO_mkT (f := fun g => .slice (some ⟨g, 0, none⟩) 1 1) (t := 23) (cs := #[.int .i64 qx, .int .i64 qy])
            case hi => (intro g g' h; simpa using h)
            case hw => rfl
            case h => (intro w; simp [go_sem])
            case k =>
            intro g1
            simp only [Act.put, List.setIfInBounds_toArray, List.set_cons_succ, List.set_cons_zero, List.cons_append, List.nil_append]
            apply wpO_anyT (R := RApp B 23 2 (ln + 1) (xs ++ [Value.int .i64 qx, Value.int .i64 qy]))
            case hR => exact fun _ _ _ h k => h.keep k
            case hw => rfl
            case h =>
              intro wx hS_ hF_
              have hb : Blk wx g1 23 #[.int .i64 qx, .int .i64 qy] := hF_.2.1.1
              have hsz := SinceT.size hS_
              exact runVT_append (.tmp 61) (.tmp 63) 32 rfl B 23 i0 _ 2 16 Try.underlying32 HI.out HZ.out.1 HZ.out.2.1 HZ.out.2.2 rfl (by decide) (G n) ln (C n) xs (cur.toList.drop (ln * 2 + 2)) rfl HFl.out ⟨g1, 0, none⟩ 1 1 [.int .i64 qx, .int .i64 qy] rfl rfl (cell2_blk hb) (one2 _ _ _ _)
                (KA.out _ hS_) hlc hcm hBG (fun hr => if_pos ⟨rfl, hr⟩) (by unfold maxLen; omega) (by omega) (by omega) (fun g hg => KT g (by omega))
            case k =>
            intro v64
            simp only [Act.put, List.setIfInBounds_toArray, List.set_cons_succ, List.set_cons_zero, List.cons_append, List.nil_append]
            apply wpO_detT
            case hw => rfl
            case h =>
              intro hFm wx hS_ hF_ K hK
              go_big_quiet_op
              first
                | exact hK _ rfl
                | (apply Exists.intro; refine ⟨fun _ => ?_, ?_⟩; (focus (first | (intro hC; have hC := KF.out _ hC.out.1; (try simp only [hC, Result.andThen]); first | exact ⟨True.intro, rfl⟩ | exact ⟨rfl, rfl⟩ | rfl))); exact hK _ rfl)
            case k =>
            simp only [Act.put, List.setIfInBounds_toArray, List.set_cons_succ, List.set_cons_zero, List.cons_append, List.nil_append]
            refine wpO_nilT ?_
            intro w4 hS hF hB
            (try simp [allF] at hF)
            (try simp [List.pairwise_cons] at hB)
            have hra : RApp B 23 2 (ln + 1) (xs ++ [Value.int .i64 qx, Value.int .i64 qy]) v64 w4 := by first | exact hF.2 | exact hF.1 | exact hF.2.1
            have hgr := SinceT.grown hS KT
            have hown := hra.own (by rw [List.length_append, HFl.out, Nat.add_mul]; rfl)
            obtain ⟨g6, c6, rfl⟩ : ∃ g6 c6, v64 = .slice (some ⟨g6, 0, none⟩) (ln + 1) c6 := by
              obtain ⟨g, cap, cs, hv, -⟩ := hra
              exact ⟨g, cap, hv⟩
            have hb7 := SinceT.blk hS (KT _ s4) HS7.out
            have t0 := hb7.cell n
            rw [← HS7.out.cell n, s0] at t0
            have t1 := hb7.frozen n
            have hb4 := SinceT.blk hS (KT _ (show w.heap.size ≠ G n by omega)) HB3.out
            have HX := Lib.hid (HRV.out.push (q := (qx, qy)) HN.out rfl (Since.rfl_ w3) (by rw [← HLn.out, ← HXs.out]; exact hown) hgr)
            have HB5 := Lib.hid (hb4.far (p := ⟨gO, n, none⟩) (show w.heap.size ≠ gO by omega) (.slice (some ⟨g6, 0, none⟩) (ln + 1) c6))
            obtain ⟨hl3, hl4⟩ := addL_bd (q := (qx, qy)) HN.out HL2.out
            have HLen3 := Lib.hid hl4
            have HOp3 : Hid (be = true → addL o1 (qx, qy) ≠ []) := fun _ e => by rw [e] at hl3; simp at hl3
            rw [HPv.out.2] at HRun2
            clear hS hF hB hra hgr hown hb7 hb4 hl4 KT KF KA HC HFl HXs HI HZ HRV HOw HS7 HB3 HQ3 nw n1 n2
            go_wp2_with fail
            go_roundw
            case rel => exact ⟨i + 1, addL o1 (qx, qy), be, by omega, by go_num, rfl, by omega, HLen3, HRun2, HOp3, HB5, HX⟩
            case measure => simp [intOf]; omega
    · obtain rfl : i = L := by omega
      have HF2 : Hid (clippedV l lx ly hx hy = restL outs) := by
        show _ = _
        rw [HF.out, ← HRun.out, Nat.sub_self, refRun]
      obtain ⟨us, G, C, N, B, hRV⟩ := HR.out
      obtain ⟨hR1, hR2, hR3, hR4, hR5, ⟨hR6, hR7⟩, -⟩ := hRV
      obtain ⟨gO, cO, cs, hvo, hOb⟩ : ∃ gO cO cs, (0 < outs.length → u5 = .slice (some ⟨gO, 0, none⟩) outs.length cO) ∧ (0 < outs.length → Blk wr gO 32 cs ∧ ∀ i, i < outs.length → cs[i]? = us[i]?) := by
        rcases hR5.2 with ⟨-, h0⟩ | ⟨g, cap, cur, h0, -, h1, h2, h3, h4, h5⟩
        · exact ⟨0, 0, #[], fun h => by omega, fun h => by omega⟩
        · refine ⟨g, cap, cur, fun _ => h0, fun _ => ⟨h1, fun i hi => ?_⟩⟩
          rw [← h5, List.getElem?_take_of_lt (by omega), Array.getElem?_toList]
      obtain ⟨av, hav⟩ : ∃ av cv, u5 = .slice av outs.length cv := own_slice hR5
      obtain ⟨cv, hav⟩ := hav
      have HU := Lib.hid hav
      have HVo := Lib.hid hvo
      have HCs : Hid (0 < outs.length → ∀ i, i < outs.length → cs[i]? = some (.slice (some ⟨G i, 0, none⟩) (rAt outs i).length (C i)) ∧ (rAt outs i).length ≤ C i ∧ w.heap.size ≤ G i) := fun hp i hi => by
        obtain ⟨a, -, c, d⟩ := hR6 i hi
        exact ⟨((hOb hp).2 i hi).trans a, c, by omega⟩
      have HInc := Lib.hid hR7
      have H2 : Hid (RS2 w wr outs gO cs G N 0 wr.heap.size [] (.slice none 0 0)) :=
        ⟨[], hR1, hR1.size, Nat.le_refl _, fun hp => ⟨(hOb hp).1, (hOb hp).1.lt⟩, fun i _ hi => (hR6 i hi).2.1, World.ownsRow_nil _ _ _ _, fun j hj => absurd hj (Nat.not_lt_zero _)⟩
      subst hav
      clear hR1 hR2 hR3 hR4 hR5 hR6 hR7 hvo hOb HR HB HRun HF HOp HSeg HV HU
      generalize wr.heap.size = BR at *
      have hob : outs.length ≤ 199 := by omega
      go_wp2_with fail
      go_loopw [70, 13] (fun v70 v13 wr => ∃ (k : Nat) (rest : List (List Pt2)), k ≤ outs.length ∧ v70 = .int .i64 k ∧ rest.length ≤ k ∧ Hid (rest = restL (outs.take k)) ∧ Hid (RS2 w wr outs gO cs G N k BR rest v13)) (fun v _ _ => outs.length - (intOf v).toNat)
      case atStart => exact ⟨0, [], by omega, by go_num, by simp, rfl, H2⟩
      case round =>
        clear H2
        obtain ⟨k, rest, hk, rfl, hrk, HRest, H2⟩ := hrel
        rcases Nat.lt_or_ge k outs.length with hlt | hge
        · have hp : 0 < outs.length := by omega
          have hvo := HVo.out hp
          injection hvo with e1 e2 e3
          subst e1 e3
          clear e2
          obtain ⟨c0, c1, c2⟩ := HCs.out hp k hlt
          obtain ⟨rs, h2⟩ := H2.out
          have HV2 := Lib.hid h2
          obtain ⟨hbk, -⟩ := h2.2.2.2.1 hp
          have hrow := Lib.hid (h2.2.2.2.2.1 k (Nat.le_refl _) hlt)
          have hc0 : wr.cell? ⟨gO, k, none⟩ = some (.slice (some ⟨G k, 0, none⟩) (rAt outs k).length (C k)) := (hbk.cell k).trans c0
          have hlk := HLen.out k hlt
          have i1 : (0 : Int) ≤ (k : Int) := Int.natCast_nonneg k
          have i2 : (k : Int) < (outs.length : Int) := by omega
          have HSn : Hid (restL (outs.take (k + 1)) = endO rest (cmpL (rAt outs k))) := by
            show _ = _
            rw [List.take_succ_eq_append_getElem hlt, restL_snoc, ← HRest.out]
            simp [rAt, List.getD, hlt]
          have hcl := cmpL_le (rAt outs k)
          clear h2 hbk H2 c0 HRest
          obtain ⟨pl, HPl⟩ : ∃ pl, Hid (pl = rAt outs k) := ⟨_, rfl⟩
          rw [← HPl.out] at hc0 c1 hrow HSn hlk hcl
          go_wp2_with fail
          refine (Compact_any (G k) (C k) (N k) pl _ (by omega) c1 hrow.out).mono ?_
          rintro e w2 ⟨rfl, hr2, ho2⟩
          have HC2 := Lib.hid (HV2.out.cmp hlt ho2 c2 HInc.out)
          have HR2 := Lib.hid hr2
          clear hr2 ho2 HV2 hrow hc0
          obtain ⟨ql, HQl⟩ : ∃ ql, Hid (ql = cmpL pl) := ⟨_, rfl⟩
          rw [← HQl.out] at HR2 HSn hcl ⊢
          rcases Nat.lt_or_ge 1 ql.length with h1 | h1
          · have hz : decide ((1 : Int) < (ql.length : Int)) = true := by rw [decide_eq_true_eq]; omega
            have HE : Hid (rest ++ [ql] = restL (outs.take (k + 1))) := by show _ = _; rw [HSn.out]; unfold endO; rw [if_pos h1]
            have HOw := Lib.hid HC2.out.2.2.2.2.2.1
            have hBR := HC2.out.2.2.1
            obtain ⟨ar, cr, har⟩ := own_slice HC2.out.2.2.2.2.2.1
            subst har
            obtain ⟨i0, hi0, hz0, hz1, hz2⟩ := info_parts infoPts
            have HI := Lib.hid hi0
            have HZ := Lib.hid (And.intro hz0 (And.intro hz1 hz2))
            clear hi0 hz0 hz1 hz2
            go_wp2_with (at_builtin; refine wpList_append_own _ rfl _ _ 30 rfl BR 32 i0 _ 1 24 Try.underlying30 HI.out HZ.out.1 HZ.out.2.1 HZ.out.2.2 rfl (by decide) _ _ _ rfl (own_since ((Since.rfl_ w2).alloc _) HOw.out) _ _ _ [.slice (some ⟨G k, 0, none⟩) ql.length (C k)] rfl rfl ?d1 ?d2 ?d3 ?d4 ?d5 ?_)
            case d1 =>
              intro j u hu
              have hj : j = 0 := by
                rcases j with _ | j
                · rfl
                · simp at hu
              subst hj
              rw [← hu]
              exact (Blk.new w2 32 #[.slice (some ⟨G k, 0, none⟩) ql.length (C k)]).cell 0
            case d2 => first | rfl | (intro u hu; rw [List.mem_singleton.1 hu]; rfl)
            case d3 => show rest.length + 1 ≤ maxLen; unfold maxLen; omega
            case d4 => show (rest.length + 1) * 24 ≤ _; omega
            case d5 => first | omega | (simp only [World.size_alloc]; omega)
            intro v' w' hown hgrow _
            have HX := Lib.hid (HC2.out.add hlt HR2.out ((Since.rfl_ w2).alloc (.cells #[.slice (some ⟨G k, 0, none⟩) ql.length (C k)] 32)) hown hgrow HInc.out)
            clear hown hgrow
            go_wp2_with fail
            go_roundw
            case rel => exact ⟨k + 1, rest ++ [ql], by omega, by go_num, by simp; omega, HE, HX⟩
            case measure => simp [intOf]; omega
          · have hz : decide ((1 : Int) < (ql.length : Int)) = false := by rw [decide_eq_false_iff_not]; omega
            have HE : Hid (rest = restL (outs.take (k + 1))) := by show _ = _; rw [HSn.out]; unfold endO; rw [if_neg (by omega)]
            go_wp2_with fail
            go_roundw
            case rel => exact ⟨k + 1, rest, by omega, by go_num, by omega, HE, ⟨rs, HC2.out⟩⟩
            case measure => simp [intOf]; omega
        · have HE : Hid (rest = clippedV l lx ly hx hy) := by
            show _ = _
            rw [HF2.out, HRest.out, List.take_of_length_le (by omega)]
          obtain ⟨HLi, HSi⟩ := H2.out.lis
          have HLi := Lib.hid HLi
          have HSi := Lib.hid HSi
          obtain ⟨ar, cr, har⟩ : ∃ ar cr, u13 = .slice ar rest.length cr := by
            obtain ⟨a, c, h, -⟩ := HLi.out; exact ⟨a, c, h⟩
          subst har
          go_wp2
          go_ret
          exact ⟨⟨_, rfl, by rw [← HE.out]; exact HLi.out⟩, HSi.out⟩
end Go.Proofs.Ytcckekdfeeghaaa
