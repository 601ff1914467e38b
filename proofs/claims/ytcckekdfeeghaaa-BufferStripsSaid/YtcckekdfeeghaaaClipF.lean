/-
  The walk of clip.Line. Conditions: bounds of the numbers.
-/
import Derived.Test.YtcckekdfeeghaaaClipL
namespace Go.Proofs.Ytcckekdfeeghaaa
set_option linter.unusedSimpArgs false
set_option linter.unusedVariables false
open Go.RowKit Go.BigFrame
attribute [local go_sem ↓] eqPt neqPt

theorem LisS.nil (w : World) : LisS w (.slice none 0 0) [] := ⟨none, 0, rfl, fun i hi => absurd hi (Nat.not_lt_zero _)⟩
theorem lineB_len {l : List Pt2} (h : lineB l = true) : 2 ≤ l.length ∧ l.length ≤ 200 := by
  unfold lineB at h
  simp only [Bool.and_eq_true, decide_eq_true_eq] at h
  exact ⟨h.1.2, h.2⟩
theorem LSt.lis {w0 w : World} {g5 g6 BO : Nat} {outs : List (List Pt2)} {now : List Pt2} (h : LSt w0 w g5 g6 BO outs now) : ∃ v, w.cell? ⟨g5, 0, none⟩ = some v ∧ LisS w v outs := by
  obtain ⟨vout, vnow, us, B, h5, h6, hne, l5, l6, m5, m6, hB, hs, ho, hr, hn, hS, hE⟩ := h
  refine ⟨vout, h5.cell 0, ?_⟩
  have hul : us.length = outs.length := by have := ho.1; omega
  obtain ⟨-, ⟨rfl, hn⟩ | ⟨g, cap, cur, rfl, hb, hg, hc, hm, hcs, ht⟩⟩ := ho
  · exact ⟨none, 0, by rw [hn], fun i hi => by omega⟩
  · refine ⟨some ⟨g, 0, none⟩, cap, rfl, fun i hi => ⟨g, 0, rfl, ?_⟩⟩
    obtain ⟨u, hu, hp⟩ := hr i hi
    refine ⟨u, ?_, hp.pts⟩
    rw [Nat.zero_add, Blk.cell hg]
    rw [← ht, List.getElem?_take, if_pos (by omega)] at hu
    simpa using hu

theorem LSt.s {w0 w : World} {g5 g6 BO : Nat} {outs : List (List Pt2)} {now : List Pt2} (h : LSt w0 w g5 g6 BO outs now) : Since w0 w := by
  obtain ⟨vout, vnow, us, B, h5, h6, hne, l5, l6, m5, m6, hB, hs, ho, hr, hn, hS, hE⟩ := h
  exact hS
theorem sizeSet (w : World) (p : Addr) (u : Value) : (w.setCell p u).heap.size = w.heap.size := by simp [World.setCell]
theorem endO_len (outs : List (List Pt2)) (now : List Pt2) : (endO outs now).length ≤ outs.length + 1 := by
  unfold endO
  split
  · simp
  · omega
theorem lineS_len (outs : List (List Pt2)) (now : List Pt2) (f : CutT) : (lineS outs now f).1.length ≤ outs.length + 1 ∧ (lineS outs now f).2.length ≤ now.length := by
  have := endO_len outs now
  unfold lineS
  split
  · exact ⟨by simp, by simp⟩
  · exact ⟨this, by simp⟩
theorem addP_len (l : List Pt2) (p : Pt2) : 1 ≤ (addP l p).length ∧ (addP l p).length ≤ l.length + 1 := by
  unfold addP
  split
  · simp
  · omega
theorem addQ_len (l : List Pt2) (p : Pt2) : (addQ l p).length ≤ l.length + 1 := by
  unfold addQ
  split <;> simp
theorem own_last {w : World} {b : Nat} {v : Value} {l : List Pt2} {k : Nat} (h : w.ownsRow b 23 2 v l.length (l.flatMap ptV)) (hk : l.length = k + 1) :
    ∃ g c, v = .slice (some ⟨g, 0, none⟩) (k + 1) c ∧ w.cell? ⟨g, k * 2, none⟩ = some (.int .i64 (lastP l).1) ∧ w.cell? ⟨g, k * 2 + 1, none⟩ = some (.int .i64 (lastP l).2) := by
  have h0 := h
  obtain ⟨-, ⟨rfl, hn⟩ | ⟨g, cap, cur, rfl, -⟩⟩ := h
  · omega
  · have hlt : k < l.length := by omega
    have hp : lastP l = l[k] := by unfold lastP pAt; rw [hk, Nat.add_sub_cancel]; simp [List.getD, hlt]
    refine ⟨g, cap, by rw [hk], ?_, ?_⟩
    · have := row_at h0 ptV_len k hlt 0 (.int .i64 l[k].1) rfl
      rw [hp]; simpa using this
    · rw [hp]; exact row_at h0 ptV_len k hlt 1 (.int .i64 l[k].2) rfl
theorem i64w (n : Int) : IntKind.i64.wrap n = wrap64 n := by unfold wrap64; exact IntKind.wrap_i64 n
theorem seg_none (h : SegSpec) {ax ay cx cy lx ly hx hy : Int} (e : segV ax ay cx cy lx ly hx hy = none) (w : World) :
    Calls Try.prog 29 #[.agg #[.int .i64 ax, .int .i64 ay], .agg #[.int .i64 cx, .int .i64 cy], .agg #[.int .i64 lx, .int .i64 ly, .int .i64 hx, .int .i64 hy]] w fun e w' =>
      e = .returned (.tuple #[.agg #[.int .i64 0, .int .i64 0], .agg #[.int .i64 0, .int .i64 0], .bool false, .bool false, .bool false]) ∧ Since w w' := by
  have := h ax ay cx cy lx ly hx hy w
  rw [e] at this
  exact this
theorem seg_some (h : SegSpec) {ax ay cx cy lx ly hx hy : Int} {f k : CutT} (e : segV ax ay cx cy lx ly hx hy = some (f, k)) (w : World) :
    Calls Try.prog 29 #[.agg #[.int .i64 ax, .int .i64 ay], .agg #[.int .i64 cx, .int .i64 cy], .agg #[.int .i64 lx, .int .i64 ly, .int .i64 hx, .int .i64 hy]] w fun e w' =>
      e = .returned (.tuple #[.agg #[.int .i64 f.2.2.1, .int .i64 f.2.2.2], .agg #[.int .i64 k.2.2.1, .int .i64 k.2.2.2], .bool (f.1 == 0), .bool (k.1 == k.2.1), .bool true]) ∧ Since w w' := by
  have := h ax ay cx cy lx ly hx hy w
  rw [e] at this
  exact this

set_option maxRecDepth 100000 in
set_option maxHeartbeats 4000000 in
theorem Line_any (v : Value) (l : List Pt2) (lx ly hx hy : Int) (w : World) (hl : l.length ≤ 1000000000000000) (hv : PtsS w v l) (hSeg : SegSpec) :
    Calls Try.prog 17 #[v, .agg #[.int .i64 lx, .int .i64 ly, .int .i64 hx, .int .i64 hy]] w fun e w' => ∃ v', e = .returned v' ∧ LisS w' v' (clipLine l lx ly hx hy) ∧ Since w w' := by
  have HF : Hid (clipLine l lx ly hx hy = if (lineB l && okB lx ly hx hy) = true then
    endO (lineRun (segAt l lx ly hx hy) (l.length - 1) 1 [] []).1 (lineRun (segAt l lx ly hx hy) (l.length - 1) 1 [] []).2
  else []) := rfl
  obtain ⟨a, c, rfl, hv⟩ := hv
  have HV := Lib.hid hv
  clear hv
  go_enter Try.func17, Try.ntmps17
  go_upto_region 1 with fail
  go_cut [21] (fun v21 w' => v21 = .bool (!(lineB l && okB lx ly hx hy)) ∧ Blk w' w.heap.size 28 #[.int .i64 lx, .int .i64 ly, .int .i64 hx, .int .i64 hy] ∧ Since w w')
  case first =>
    as_aux_lemma =>
    have hA := (Since.rfl_ w).alloc (.cells #[.int .i64 lx, .int .i64 ly, .int .i64 hx, .int .i64 hy] 28)
    go_wp2_with fail
    refine (IsLine_any _ l _ hl (PtsS.since ⟨a, c, rfl, HV.out⟩ hA)).mono ?_
    rintro e w1 ⟨rfl, hs⟩
    have HB := Lib.hid (hs.blk (Blk.new w 28 #[.int .i64 lx, .int .i64 ly, .int .i64 hx, .int .i64 hy]))
    have HS := Lib.hid (hA.trans hs)
    clear hA hs
    cases h1 : lineB l
    · go_wp2_with fail
      go_meet
      exact ⟨by rw [h1]; rfl, HB.out, HS.out⟩
    · have b0 : w1.cell? ⟨w.heap.size, 0, none⟩ = some (.int .i64 lx) := HB.out.cell 0
      have b1 : w1.cell? ⟨w.heap.size, 1, none⟩ = some (.int .i64 ly) := HB.out.cell 1
      have b2 : w1.cell? ⟨w.heap.size, 2, none⟩ = some (.int .i64 hx) := HB.out.cell 2
      have b3 : w1.cell? ⟨w.heap.size, 3, none⟩ = some (.int .i64 hy) := HB.out.cell 3
      go_wp2_with fail
      refine (OkB_any _ _ _ _ _).mono ?_
      rintro e w2 ⟨rfl, hs⟩
      have HB2 := Lib.hid (hs.blk HB.out)
      have HS2 := Lib.hid (HS.out.trans hs)
      clear hs b0 b1 b2 b3
      go_wp2_with fail
      go_meet
      exact ⟨by rw [h1]; rfl, HB2.out, HS2.out⟩
  case rest =>
    obtain ⟨rfl, hb, hs⟩ := hcut
    have HB := Lib.hid hb
    have HS := Lib.hid hs
    clear hb hs
    cases hg : (lineB l && okB lx ly hx hy)
    · rw [hg] at HF
      go_wp2
      go_ret
      exact ⟨_, rfl, by rw [HF.out]; exact LisS.nil _, HS.out⟩
    · rw [hg] at HF
      rw [Bool.and_eq_true] at hg
      obtain ⟨hn1, hn2⟩ := lineB_len hg.1
      clear hg
      obtain ⟨w1, rfl⟩ : ∃ w1, w1 = wc := ⟨_, rfl⟩
      have hlt := HS.out.size
      have hbl := HB.out.lt
      have HL : Hid (LSt w ((w1.alloc (.cells #[.slice none 0 0] 30)).alloc (.cells #[.slice none 0 0] 32)) w1.heap.size (w1.heap.size + 1) (w1.heap.size + 1 + 1) [] []) :=
        ⟨_, _, [], w1.heap.size + 1 + 1, (Blk.new _ _ _).alloc _, by simpa using Blk.new (w1.alloc (.cells #[.slice none 0 0] 30)) 32 #[.slice none 0 0], by omega, by omega, by omega, by omega, by omega, Nat.le_refl _, by simp, World.ownsRow_nil _ _ _ _, fun i hi => absurd hi (Nat.not_lt_zero _), World.ownsRow_nil _ _ _ _, (HS.out.alloc _).alloc _, fun _ => rfl⟩
      have HB2 := Lib.hid ((HB.out.alloc (.cells #[.slice none 0 0] 30)).alloc (.cells #[.slice none 0 0] 32))
      clear HB HS
      go_wp2_with fail
      go_loopw [8] (fun v wr => ∃ (i : Nat) (outs : List (List Pt2)) (now : List Pt2), 1 ≤ i ∧ i ≤ l.length ∧ v = .int .i64 i ∧ Hid (lineRun (segAt l lx ly hx hy) (l.length - i) i outs now = lineRun (segAt l lx ly hx hy) (l.length - 1) 1 [] []) ∧
        outs.length ≤ 2 * i ∧ now.length ≤ 2 * i ∧ Hid (Blk wr w.heap.size 28 #[.int .i64 lx, .int .i64 ly, .int .i64 hx, .int .i64 hy]) ∧ Hid (LSt w wr w1.heap.size (w1.heap.size + 1) (w1.heap.size + 1 + 1) outs now)) (fun v _ => l.length - (intOf v).toNat)
      case atStart => exact ⟨1, [], [], by omega, by omega, rfl, rfl, by simp, by simp, HB2, HL⟩
      case round =>
        clear HB2 HL
        obtain ⟨i, outs, now, hi1, hi2, rfl, HR, ho, hn, HB, HL⟩ := hrel
        rcases Nat.lt_or_ge i l.length with hlt | hge
        · obtain ⟨k, hik⟩ : ∃ k, i = k + 1 := ⟨i - 1, by omega⟩
          have HK := Lib.hid hik
          obtain ⟨g, o, ha, e2, e3⟩ := HV.out i hlt
          subst ha
          obtain ⟨g', o', ha', e0, e1⟩ := HV.out k (by omega)
          injection ha' with ha'
          injection ha' with hg' ho'
          subst hg' ho'
          have hS := HL.out.s
          replace e0 := keepC hS _ _ e0
          replace e1 := keepC hS _ _ e1
          replace e2 := keepC hS _ _ e2
          replace e3 := keepC hS _ _ e3
          have b0 : wr.cell? ⟨w.heap.size, 0, none⟩ = some (.int .i64 lx) := HB.out.cell 0
          have b1 : wr.cell? ⟨w.heap.size, 1, none⟩ = some (.int .i64 ly) := HB.out.cell 1
          have b2 : wr.cell? ⟨w.heap.size, 2, none⟩ = some (.int .i64 hx) := HB.out.cell 2
          have b3 : wr.cell? ⟨w.heap.size, 3, none⟩ = some (.int .i64 hy) := HB.out.cell 3
          have iw : IntKind.i64.wrap ((i : Int) - 1) = (k : Int) := by
            rw [i64w, show (i : Int) - 1 = k by omega]
            exact wrap_id (by omega)
          have i1 : (0 : Int) ≤ (k : Int) := Int.natCast_nonneg k
          have i2 : (k : Int) < (l.length : Int) := by omega
          have i3 : (i : Int) < (l.length : Int) := by omega
          have i4 : (0 : Int) ≤ (i : Int) := by omega
          have hkl : k < l.length := by omega
          have gl : g < wr.heap.size := World.block_lt_of_cell? wr _ e0
          have wl : w.heap.size < wr.heap.size := World.block_lt_of_cell? wr _ b0
          have wn1 : ¬ wr.heap.size = w.heap.size := by omega
          have wn2 : ¬ wr.heap.size + 1 = w.heap.size := by omega
          have wn3 : ¬ w.heap.size = wr.heap.size := by omega
          have wn4 : ¬ w.heap.size = wr.heap.size + 1 := by omega
          have gn1 : ¬ wr.heap.size = g := by omega
          have gn2 : ¬ wr.heap.size + 1 = g := by omega
          have gn3 : ¬ g = wr.heap.size := by omega
          have gn4 : ¬ g = wr.heap.size + 1 := by omega
          clear hS hik
          rcases hseg : segV (pAt l k).1 (pAt l k).2 (pAt l i).1 (pAt l i).2 lx ly hx hy with _ | fk
          · have HG := Lib.hid hseg
            clear hseg
            go_upto_region 9 with fail
            go_cut [9, 10, 11, 12, 13] from 23 to 78 (fun v9 v10 v11 v12 v13 w' => v11 = .bool false ∧ v13 = .bool false ∧ Since wr w')
            case first =>
              as_aux_lemma =>
              go_region_held3 (fun w' => w'.cell? ⟨g, o + k * 2, none⟩ = some (.int .i64 (pAt l k).1) ∧ w'.cell? ⟨g, o + k * 2 + 1, none⟩ = some (.int .i64 (pAt l k).2) ∧ w'.cell? ⟨g, o + i * 2, none⟩ = some (.int .i64 (pAt l i).1) ∧ w'.cell? ⟨g, o + i * 2 + 1, none⟩ = some (.int .i64 (pAt l i).2) ∧ w'.cell? ⟨w.heap.size, 0, none⟩ = some (.int .i64 lx) ∧ w'.cell? ⟨w.heap.size, 1, none⟩ = some (.int .i64 ly) ∧ w'.cell? ⟨w.heap.size, 2, none⟩ = some (.int .i64 hx) ∧ w'.cell? ⟨w.heap.size, 3, none⟩ = some (.int .i64 hy) ∧ Since wr w') ((simp (maxDischargeDepth := 9) [*, World.cell?_alloc_some, cSetO, cellDrew])) (first | (go_at_call 29; (with_reducible refine (seg_none hSeg HG.out _).mono ?_); rintro e w' ⟨rfl, hs⟩; have kk := fun (p : Addr) (hp : p.block < _) => Below.cell hs hp; have kf := fun (p : Addr) (hp : p.block < _) => Below.frozen hs hp; have kz := fun (b : Nat) (hb : b < _) => Nat.lt_of_lt_of_le hb hs.size; have ks := keepS hs; have k0 := keepC hs; have kb := keepB hs; clear hs))
              all_goals
                rename_i hH
                have hS := hH.2.2.2.2.2.2.2.2
                clear hH
                go_wp2_with fail
                go_meet
                exact ⟨rfl, rfl, hS⟩
            case rest =>
              obtain ⟨rfl, rfl, hs⟩ := hcut
              have HL2 := Lib.hid (HL.out.since hs)
              have HB2 := Lib.hid (hs.blk HB.out)
              have HR2 : Hid (lineRun (segAt l lx ly hx hy) (l.length - (i + 1)) (i + 1) (endO outs now) [] = lineRun (segAt l lx ly hx hy) (l.length - 1) 1 [] []) := by
                show _ = _
                rw [← HR.out, show l.length - i = l.length - (i + 1) + 1 by omega, lineRun]
                have : segAt l lx ly hx hy i = none := by unfold segAt; rw [show i - 1 = k by have := HK.out; omega]; exact HG.out
                rw [this]; rfl
              clear hs HL HB HR e0 e1 e2 e3 b0 b1 b2 b3
              have hel := endO_len outs now
              go_wp2_with fail
              refine (end_any w _ _ _ _ outs now (by omega) (by omega) HL2.out).mono ?_
              rintro e w2 ⟨rfl, hL, hk⟩
              have HL3 := Lib.hid hL
              have HB3 := Lib.hid (hk _ _ _ (by decide) (by decide) HB2.out)
              clear hL hk
              go_wp2_with fail
              go_roundw
              case rel => exact ⟨i + 1, endO outs now, [], by omega, by omega, by go_num, HR2, by omega, by simp, HB3, HL3⟩
              case measure => simp [intOf]; omega
          · have HG := Lib.hid hseg
            clear hseg
            go_upto_region 9 with fail
            go_cut [9, 10, 11, 12, 13] from 23 to 78 (fun v9 v10 v11 v12 v13 w' => ∃ gp gq : Nat, v9 = .pointer (some ⟨gp, 0, none⟩) ∧ v10 = .pointer (some ⟨gq, 0, none⟩) ∧ v11 = .bool (fk.1.1 == 0) ∧ v12 = .bool (fk.2.1 == fk.2.2.1) ∧ v13 = .bool true ∧
              Blk w' gp 23 #[.int .i64 fk.1.2.2.1, .int .i64 fk.1.2.2.2] ∧ Blk w' gq 23 #[.int .i64 fk.2.2.2.1, .int .i64 fk.2.2.2.2] ∧ Since wr w')
            case first =>
              as_aux_lemma =>
              go_region_held3 (fun w' => w'.cell? ⟨g, o + k * 2, none⟩ = some (.int .i64 (pAt l k).1) ∧ w'.cell? ⟨g, o + k * 2 + 1, none⟩ = some (.int .i64 (pAt l k).2) ∧ w'.cell? ⟨g, o + i * 2, none⟩ = some (.int .i64 (pAt l i).1) ∧ w'.cell? ⟨g, o + i * 2 + 1, none⟩ = some (.int .i64 (pAt l i).2) ∧ w'.cell? ⟨w.heap.size, 0, none⟩ = some (.int .i64 lx) ∧ w'.cell? ⟨w.heap.size, 1, none⟩ = some (.int .i64 ly) ∧ w'.cell? ⟨w.heap.size, 2, none⟩ = some (.int .i64 hx) ∧ w'.cell? ⟨w.heap.size, 3, none⟩ = some (.int .i64 hy) ∧ Since wr w') ((simp (maxDischargeDepth := 9) [*, World.cell?_alloc_some, cSetO, cellDrew])) (first | (go_at_call 29; (with_reducible refine (seg_some hSeg HG.out _).mono ?_); rintro e w' ⟨rfl, hs⟩; have kk := fun (p : Addr) (hp : p.block < _) => Below.cell hs hp; have kf := fun (p : Addr) (hp : p.block < _) => Below.frozen hs hp; have kz := fun (b : Nat) (hb : b < _) => Nat.lt_of_lt_of_le hb hs.size; have ks := keepS hs; have k0 := keepC hs; have kb := keepB hs; clear hs))
              all_goals
                rename_i hH
                have hS := hH.2.2.2.2.2.2.2.2
                clear hH
                go_wp2_with fail
                go_meet
                refine ⟨_, _, rfl, rfl, rfl, rfl, rfl, ?_, ?_, hS⟩
                all_goals
                  clear hS
                  first
                    | with_reducible exact (Blk.new' rfl).alloc _
                    | ((with_reducible refine Blk.new' ?_); simp [sizeSet]; done)
                    | ((with_reducible refine (Blk.pair (kb _ _ _ (Blk.new' ?_).drew)).alloc _); first | rfl | (simp; done))
                    | ((with_reducible refine ((Blk.pair (kb _ _ _ ((Blk.new' ?_).alloc _).drew)).far ?_ _).far ?_ _) <;> first | rfl | (simp; done) | (dsimp only; omega))
                    | ((with_reducible refine ((Blk.pair (kb _ _ _ (Blk.new' ?_).drew)).far ?_ _).far ?_ _) <;> first | rfl | (simp; done) | (dsimp only; omega))
                    | ((with_reducible refine Blk.pair (((kb _ _ _ ((Blk.new' ?_).alloc _).drew).far ?_ _).far ?_ _)) <;> first | rfl | (simp; done) | (dsimp only; omega))
                    | ((with_reducible refine Blk.pair (((kb _ _ _ (Blk.new' ?_).drew).far ?_ _).far ?_ _)) <;> first | rfl | (simp; done) | (dsimp only; omega))
                    | (trace_state; fail)
            case rest =>
              obtain ⟨gp, gq, rfl, rfl, h11, h12, rfl, hp, hq, hs⟩ := hcut
              obtain ⟨bg, HBG⟩ : ∃ bg : Bool, Hid (bg = (fk.1.1 == 0)) := ⟨_, rfl⟩
              obtain ⟨be, HBE⟩ : ∃ be : Bool, Hid (be = (fk.2.1 == fk.2.2.1)) := ⟨_, rfl⟩
              rw [← HBG.out] at h11
              rw [← HBE.out] at h12
              subst h11 h12
              obtain ⟨w2, rfl⟩ : ∃ w2, w2 = wc := ⟨_, rfl⟩
              have HL2 := Lib.hid (HL.out.since hs)
              have HB2 := Lib.hid (hs.blk HB.out)
              have HP := Lib.hid hp
              have HQ := Lib.hid hq
              have HR2 : Hid (lineRun (segAt l lx ly hx hy) (l.length - (i + 1)) (i + 1) (lineStep outs now (some fk)).1 (lineStep outs now (some fk)).2 = lineRun (segAt l lx ly hx hy) (l.length - 1) 1 [] []) := by
                show _ = _
                rw [← HR.out, show l.length - i = l.length - (i + 1) + 1 by omega, lineRun]
                have : segAt l lx ly hx hy i = some fk := by unfold segAt; rw [show i - 1 = k by have := HK.out; omega]; exact HG.out
                rw [this]
              clear hs HL HB HR e0 e1 e2 e3 b0 b1 b2 b3 hp hq HV HF HK HG iw i1 i2 i4 hkl wl wn1 wn2 wn3 wn4 gn1 gn2 gn3 gn4 gl
              have hS1 := lineS_len outs now fk.1
              obtain ⟨o1, HO1⟩ : ∃ o1, Hid (o1 = (lineS outs now fk.1).1) := ⟨_, rfl⟩
              obtain ⟨n1, HN1⟩ : ∃ n1, Hid (n1 = (lineS outs now fk.1).2) := ⟨_, rfl⟩
              rw [← HO1.out, ← HN1.out] at hS1
              obtain ⟨hS1, hS2⟩ := hS1
              go_upto_if 51 with fail
              go_cut [] from 23 to 78 (fun w' => LSt w w' w1.heap.size (w1.heap.size + 1) (w1.heap.size + 1 + 1) o1 n1 ∧ Blk w' w.heap.size 28 #[.int .i64 lx, .int .i64 ly, .int .i64 hx, .int .i64 hy] ∧
                Blk w' gp 23 #[.int .i64 fk.1.2.2.1, .int .i64 fk.1.2.2.2] ∧ Blk w' gq 23 #[.int .i64 fk.2.2.2.1, .int .i64 fk.2.2.2.2])
              case first =>
                as_aux_lemma =>
                cases bg
                · have e1 : Hid (o1 = endO outs now ∧ n1 = []) := by
                    rw [HO1.out, HN1.out]; unfold lineS; rw [if_neg (by have hb := HBG.out; simpa using hb.symm)]; exact ⟨rfl, rfl⟩
                  go_wp2_with fail
                  refine (end_any w _ _ _ _ outs now (by omega) (by omega) HL2.out).mono ?_
                  rintro e w3 ⟨rfl, hL, hk⟩
                  go_wp2_with fail
                  go_meet
                  rw [e1.out.1, e1.out.2]
                  exact ⟨hL, hk _ _ _ (by decide) (by decide) HB2.out, hk _ _ _ (by decide) (by decide) HP.out, hk _ _ _ (by decide) (by decide) HQ.out⟩
                · have e1 : Hid (o1 = outs ∧ n1 = now) := by
                    rw [HO1.out, HN1.out]; unfold lineS; rw [if_pos (by have hb := HBG.out; simpa using hb.symm)]; exact ⟨rfl, rfl⟩
                  go_wp2_with fail
                  go_meet
                  rw [e1.out.1, e1.out.2]
                  exact ⟨HL2.out, HB2.out, HP.out, HQ.out⟩
              case rest =>
                obtain ⟨hL, hb, hp, hq⟩ := hcut
                obtain ⟨w3, rfl⟩ : ∃ w3, w3 = wc := ⟨_, rfl⟩
                have HL3 := Lib.hid hL
                have HB3 := Lib.hid hb
                have HP3 := Lib.hid hp
                have HQ3 := Lib.hid hq
                clear HL2 HB2 HP HQ hL hb hp hq
                obtain ⟨n2, HN2⟩ : ∃ n2, Hid (n2 = addP n1 (cutP fk.1)) := ⟨_, rfl⟩
                have hn2l := addP_len n1 (cutP fk.1)
                rw [← HN2.out] at hn2l
                obtain ⟨hn2a, hn2b⟩ := hn2l
                obtain ⟨vout, vnow, us, B, hL⟩ := HL3.out
                have HLV := Lib.hid hL
                obtain ⟨-, h6, -, -, -, -, -, hBO, hBw, -, -, hn, -, hE⟩ := hL
                have f6 := h6.frozen 0
                obtain ⟨an, cn, rfl⟩ := own_slice hn
                have c6 : w3.cell? ⟨w1.heap.size + 1, 0, none⟩ = some (.slice an n1.length cn) := h6.cell 0
                have H6 := Lib.hid h6
                have HN := Lib.hid hn
                have HE := Lib.hid hE
                clear h6 hn hE
                go_upto_if 58 with fail
                go_cut [] from 23 to 78 (fun w' => LSt w w' w1.heap.size (w1.heap.size + 1) (w1.heap.size + 1 + 1) o1 n2 ∧ Blk w' w.heap.size 28 #[.int .i64 lx, .int .i64 ly, .int .i64 hx, .int .i64 hy] ∧
                  Blk w' gq 23 #[.int .i64 fk.2.2.2.1, .int .i64 fk.2.2.2.2])
                case first =>
                  as_aux_lemma =>
                  by_cases hz : n1 = []
                  · obtain rfl : n1 = [] := hz
                    have ev := HE.out rfl
                    injection ev with ev1 ev2 ev3
                    subst ev1 ev3
                    have p0 : w3.cell? ⟨gp, 0, none⟩ = some (.int .i64 fk.1.2.2.1) := HP3.out.cell 0
                    have p1 : w3.cell? ⟨gp, 1, none⟩ = some (.int .i64 fk.1.2.2.2) := HP3.out.cell 1
                    have lp := HP3.out.lt
                    have l6 := H6.out.lt
                    obtain ⟨i0, hi, hz0, hz1, hz2⟩ := info_parts infoPt
                    have HI := Lib.hid hi
                    have HZ := Lib.hid (And.intro hz0 (And.intro hz1 hz2))
                    clear hi hz0 hz1 hz2 ev2
                    simp only [List.length_nil] at c6 ⊢
                    go_wp2_with (at_builtin; refine wpList_append_own _ rfl _ _ 32 rfl B 23 i0 _ 2 16 Try.underlying32 HI.out HZ.out.1 HZ.out.2.1 HZ.out.2.2 rfl (by decide) _ _ _ rfl (own_since ((Since.rfl_ w3).alloc _) HN.out) _ _ _ [.int .i64 fk.1.2.2.1, .int .i64 fk.1.2.2.2] rfl rfl (cell2_new _ _ _ _) (one2 _ _ _ _) (by (try simp only [List.length_nil]); unfold maxLen; omega) (by (try simp only [List.length_nil]); omega) (by simp only [World.size_alloc]; omega) ?_)
                    intro v' w' hown hgrow _
                    obtain ⟨ao', co', rfl⟩ := own_slice hown
                    have hA := (Since.rfl_ w3).alloc (.cells #[.int .i64 fk.1.2.2.1, .int .i64 fk.1.2.2.2] 23)
                    have HX := Lib.hid (HLV.out.push (p := cutP fk.1) hA hown hgrow)
                    have HK2 := Lib.hid (HLV.out.pushK (v' := .slice ao' 1 co') hA hgrow)
                    have d6 : w'.cell? ⟨w1.heap.size + 1, 0, none⟩ = some (.slice none 0 0) := ((hA.blk H6.out).grown hgrow (by simp [Value.ownBlock])).cell 0
                    have e6 := ((hA.blk H6.out).grown hgrow (by simp [Value.ownBlock])).frozen 0
                    clear hA hown hgrow
                    go_wp2_with fail
                    go_meet
                    exact ⟨by rw [HN2.out]; exact HX.out, HK2.out _ _ _ (by decide) (by simp) HB3.out, HK2.out _ _ _ (by decide) (by simp) HQ3.out⟩
                  · have hlen : ¬ n1.length = 0 := fun h => hz (List.length_eq_zero_iff.1 h)
                    have hzb : ((n1.length : Int) == 0) = false := by rw [beq_eq_false_iff_ne]; omega
                    have E2 : Hid (n2 = n1) := by show _ = _; rw [HN2.out]; unfold addP; rw [if_neg hlen]
                    clear hlen hz
                    go_wp2_with fail
                    go_meet
                    exact ⟨by rw [E2.out]; exact HL3.out, HB3.out, HQ3.out⟩
                case rest =>
                  clear HLV H6 HN HE f6 c6 hBO hBw HL3 HB3 HP3 HQ3
                  obtain ⟨hL, hb, hq⟩ := hcut
                  obtain ⟨w4, rfl⟩ : ∃ w4, w4 = wc := ⟨_, rfl⟩
                  have HL4 := Lib.hid hL
                  have HB4 := Lib.hid hb
                  have HQ4 := Lib.hid hq
                  clear hb hq
                  obtain ⟨m, hm⟩ : ∃ m, n2.length = m + 1 := ⟨n2.length - 1, by omega⟩
                  obtain ⟨vout, vnow, us, B, hL⟩ := hL
                  have HLV := Lib.hid hL
                  obtain ⟨-, h6, -, -, -, -, -, hBO, hBw, -, -, hn, -, hE⟩ := hL
                  have f6 := h6.frozen 0
                  obtain ⟨gn, cn, rfl, z0, z1⟩ := own_last hn hm
                  have c6 : w4.cell? ⟨w1.heap.size + 1, 0, none⟩ = some (.slice (some ⟨gn, 0, none⟩) (m + 1) cn) := h6.cell 0
                  have q0 : w4.cell? ⟨gq, 0, none⟩ = some (.int .i64 fk.2.2.2.1) := HQ4.out.cell 0
                  have q1 : w4.cell? ⟨gq, 1, none⟩ = some (.int .i64 fk.2.2.2.2) := HQ4.out.cell 1
                  have H6 := Lib.hid h6
                  have HN := Lib.hid hn
                  clear h6 hn hE
                  have mw : IntKind.i64.wrap (((m + 1 : Nat) : Int) - 1) = (m : Int) := by
                    rw [i64w, show ((m + 1 : Nat) : Int) - 1 = m by omega]
                    exact wrap_id (by omega)
                  obtain ⟨bq, HBQ⟩ : ∃ bq : Bool, Hid (bq = !(fk.2.2.2.1 == (lastP n2).1 && fk.2.2.2.2 == (lastP n2).2)) := ⟨_, rfl⟩
                  go_upto_region 15 with fail
                  go_cut [70] from 23 to 78 (fun v70 w' => v70 = .bool bq ∧ Since w4 w')
                  case first =>
                    as_aux_lemma =>
                    refine region_cls (fun w' => w'.cell? ⟨gq, 0, none⟩ = some (.int .i64 fk.2.2.2.1) ∧ w'.cell? ⟨gq, 1, none⟩ = some (.int .i64 fk.2.2.2.2) ∧ w'.cell? ⟨w1.heap.size + 1, 0, none⟩ = some (.slice (some ⟨gn, 0, none⟩) (m + 1) cn) ∧
                                          w'.cell? ⟨gn, m * 2, none⟩ = some (.int .i64 (lastP n2).1) ∧ w'.cell? ⟨gn, m * 2 + 1, none⟩ = some (.int .i64 (lastP n2).2) ∧ Since w4 w') (by kernel_rfl) (by kernel_rfl) (by (repeat' refine And.intro ?_ ?_) <;> first | (simp (maxDischargeDepth := 9) [q0, q1, c6, z0, z1,  cSetS, cSetO, cellNew, World.cell?_alloc_some, cellDrew]; done) | (repeat (first | with_reducible assumption | with_reducible exact Since.rfl_ _ | refine Since.setCell ?_ (by (try dsimp only); omega) _ | refine Since.alloc ?_ _ | refine Since.drew ?_))) ?_
                    repeat (go_big_quiet_step ((first | (intro hC; have hC := hC.out; (try simp only [hC, Result.andThen]); first | exact ⟨True.intro, rfl⟩ | exact ⟨rfl, rfl⟩ | rfl))))
                    refine cls_end ?_
                    rintro w5 ⟨-, -, -, -, -, hs⟩
                    have HS5 := Lib.hid hs
                    clear hs
                    go_wp2_with fail
                    go_meet
                    exact ⟨by rw [HBQ.out, Bool.not_and], HS5.out⟩
                  case rest =>
                    clear HLV H6 HN f6 c6 hBO hBw q0 q1 z0 z1 mw
                    obtain ⟨rfl, hs⟩ := hcut
                    obtain ⟨w5, rfl⟩ : ∃ w5, w5 = wc := ⟨_, rfl⟩
                    have HL5 := Lib.hid (HL4.out.since hs)
                    have HB5 := Lib.hid (hs.blk HB4.out)
                    have HQ5 := Lib.hid (hs.blk HQ4.out)
                    clear hs HL4 HB4 HQ4
                    obtain ⟨n3, HN3⟩ : ∃ n3, Hid (n3 = addQ n2 (cutP fk.2)) := ⟨_, rfl⟩
                    have hn3 := addQ_len n2 (cutP fk.2)
                    rw [← HN3.out] at hn3
                    have HBQ2 : Hid (bq = !decide (cutP fk.2 = lastP n2)) := by
                      show _ = _
                      rw [HBQ.out]; congr 1
                      rw [Bool.eq_iff_iff, Bool.and_eq_true, beq_iff_eq, beq_iff_eq, decide_eq_true_eq]
                      exact ⟨fun h => Prod.ext h.1 h.2, fun h => by rw [← h]; exact ⟨rfl, rfl⟩⟩
                    go_upto_if 70 with fail
                    go_cut [] from 23 to 78 (fun w' => LSt w w' w1.heap.size (w1.heap.size + 1) (w1.heap.size + 1 + 1) o1 n3 ∧ Blk w' w.heap.size 28 #[.int .i64 lx, .int .i64 ly, .int .i64 hx, .int .i64 hy])
                    case first =>
                      as_aux_lemma =>
                      cases bq
                      · have E3 : Hid (n3 = n2) := by
                          show _ = _
                          rw [HN3.out]; unfold addQ; rw [if_pos (by have := HBQ2.out; simpa using this.symm)]
                        go_wp2_with fail
                        go_meet
                        exact ⟨by rw [E3.out]; exact HL5.out, HB5.out⟩
                      · have E3 : Hid (n3 = n2 ++ [cutP fk.2]) := by
                          show _ = _
                          rw [HN3.out]; unfold addQ; rw [if_neg (by have := HBQ2.out; simpa using this.symm)]
                        obtain ⟨vout, vnow, us, B, hL⟩ := HL5.out
                        have HLV := Lib.hid hL
                        obtain ⟨-, h6, -, -, -, -, -, hBO, hBw, -, -, hn, -, hE⟩ := hL
                        have f6 := h6.frozen 0
                        obtain ⟨an, cn, rfl⟩ := own_slice hn
                        have c6 : w5.cell? ⟨w1.heap.size + 1, 0, none⟩ = some (.slice an n2.length cn) := h6.cell 0
                        have q0 : w5.cell? ⟨gq, 0, none⟩ = some (.int .i64 fk.2.2.2.1) := HQ5.out.cell 0
                        have q1 : w5.cell? ⟨gq, 1, none⟩ = some (.int .i64 fk.2.2.2.2) := HQ5.out.cell 1
                        have lq := HQ5.out.lt
                        have l6 := h6.lt
                        have H6 := Lib.hid h6
                        have HN := Lib.hid hn
                        clear h6 hn hE hm
                        obtain ⟨i0, hi, hz0, hz1, hz2⟩ := info_parts infoPt
                        have HI := Lib.hid hi
                        have HZ := Lib.hid (And.intro hz0 (And.intro hz1 hz2))
                        clear hi hz0 hz1 hz2
                        go_wp2_with (at_builtin; refine wpList_append_own _ rfl _ _ 32 rfl B 23 i0 _ 2 16 Try.underlying32 HI.out HZ.out.1 HZ.out.2.1 HZ.out.2.2 rfl (by decide) _ _ _ rfl (own_since ((Since.rfl_ w5).alloc _) HN.out) _ _ _ [.int .i64 fk.2.2.2.1, .int .i64 fk.2.2.2.2] rfl rfl (cell2_new _ _ _ _) (one2 _ _ _ _) (by (try simp only [List.length_nil]); unfold maxLen; omega) (by (try simp only [List.length_nil]); omega) (by simp only [World.size_alloc]; omega) ?_)
                        intro v' w' hown hgrow _
                        obtain ⟨ao', co', rfl⟩ := own_slice hown
                        have hA := (Since.rfl_ w5).alloc (.cells #[.int .i64 fk.2.2.2.1, .int .i64 fk.2.2.2.2] 23)
                        have HX := Lib.hid (HLV.out.push (p := cutP fk.2) hA hown hgrow)
                        have HK2 := Lib.hid (HLV.out.pushK (v' := .slice ao' (n2.length + 1) co') hA hgrow)
                        have hb6 := (hA.blk H6.out).grown hgrow (own_ne (own_since hA HN.out) (show w1.heap.size + 1 < B by omega))
                        have d6 : w'.cell? ⟨w1.heap.size + 1, 0, none⟩ = some (.slice an n2.length cn) := hb6.cell 0
                        have e6 := hb6.frozen 0
                        clear hA hown hgrow hb6
                        go_wp2_with fail
                        go_meet
                        exact ⟨by rw [E3.out]; exact HX.out, HK2.out _ _ _ (by decide) (.inl (by decide)) HB5.out⟩
                    case rest =>
                      obtain ⟨hL, hb⟩ := hcut
                      obtain ⟨w6, rfl⟩ : ∃ w6, w6 = wc := ⟨_, rfl⟩
                      have HL6 := Lib.hid hL
                      have HB6 := Lib.hid hb
                      clear hL hb HL5 HB5 HQ5 hm
                      have he := endO_len o1 n3
                      cases be
                      · have ES : Hid (lineStep outs now (some fk) = (endO o1 n3, [])) := by
                          show _ = _
                          unfold lineStep; dsimp only
                          rw [if_neg (by have hb := HBE.out; simpa using hb.symm), ← HO1.out, ← HN1.out, ← HN2.out, ← HN3.out]
                        rw [ES.out] at HR2
                        clear ES
                        go_wp2_with fail
                        refine (end_any w _ _ _ _ o1 n3 (by omega) (by omega) HL6.out).mono ?_
                        rintro e w7 ⟨rfl, hL, hk⟩
                        have HL7 := Lib.hid hL
                        have HB7 := Lib.hid (hk _ _ _ (by decide) (by decide) HB6.out)
                        clear hL hk
                        go_wp2_with fail
                        go_roundw
                        case rel => exact ⟨i + 1, endO o1 n3, [], by omega, by omega, by go_num, HR2, by omega, by simp, HB7, HL7⟩
                        case measure => simp [intOf]; omega
                      · have ES : Hid (lineStep outs now (some fk) = (o1, n3)) := by
                          show _ = _
                          unfold lineStep; dsimp only
                          rw [if_pos (by have hb := HBE.out; simpa using hb.symm), ← HO1.out, ← HN1.out, ← HN2.out, ← HN3.out]
                        rw [ES.out] at HR2
                        clear ES
                        go_wp2_with fail
                        go_roundw
                        case rel => exact ⟨i + 1, o1, n3, by omega, by omega, by go_num, HR2, by omega, by omega, HB6, HL6⟩
                        case measure => simp [intOf]; omega
        · obtain rfl : i = l.length := by omega
          have HF2 : Hid (clipLine l lx ly hx hy = endO outs now) := by
            show _ = _
            rw [HF.out, if_pos (by trivial), ← HR.out, Nat.sub_self, lineRun]
          clear HR HF HV
          have hel := endO_len outs now
          go_wp2_with fail
          refine (end_any w _ _ _ _ outs now (by omega) (by omega) HL.out).mono ?_
          rintro e w2 ⟨rfl, hL, hk⟩
          obtain ⟨v, hv, hlis⟩ := hL.lis
          have HS := Lib.hid hL.s
          have HLI := Lib.hid hlis
          clear hL hk hlis
          obtain ⟨av, cv, rfl⟩ : ∃ av cv, v = .slice av (endO outs now).length cv := by
            obtain ⟨av, cv, hv, -⟩ := HLI.out; exact ⟨av, cv, hv⟩
          go_wp2
          go_ret
          exact ⟨_, rfl, by rw [HF2.out]; exact HLI.out, HS.out⟩

end Go.Proofs.Ytcckekdfeeghaaa
