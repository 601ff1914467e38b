/-
  The walk of clip.Segment. Conditions: none.
-/
import Derived.Test.YtcckekdfeeghaaaClipB0
namespace Go.Proofs.Ytcckekdfeeghaaa
set_option linter.unusedSimpArgs false
set_option linter.unusedVariables false
open Go.RowKit Go.BigFrame
attribute [local go_sem ↓] eqPt neqPt

/-- The memory of Segment's frame: its parameters and results. -/
def SegE (w w' : World) (ax ay cx cy lx ly hx hy : Int) : Prop :=
  Blk w' w.heap.size 23 #[.int .i64 ax, .int .i64 ay] ∧ Blk w' (w.heap.size + 1) 23 #[.int .i64 cx, .int .i64 cy] ∧ Blk w' (w.heap.size + 1 + 1) 28 #[.int .i64 lx, .int .i64 ly, .int .i64 hx, .int .i64 hy] ∧
  Blk w' (w.heap.size + 1 + 1 + 1) 23 #[.int .i64 0, .int .i64 0] ∧ Blk w' (w.heap.size + 1 + 1 + 1 + 1) 23 #[.int .i64 0, .int .i64 0] ∧ Since w w'
theorem SegE.since {w w1 w2 : World} {ax ay cx cy lx ly hx hy : Int} (h : SegE w w1 ax ay cx cy lx ly hx hy) (k : Since w1 w2) : SegE w w2 ax ay cx cy lx ly hx hy :=
  ⟨k.blk h.1, k.blk h.2.1, k.blk h.2.2.1, k.blk h.2.2.2.1, k.blk h.2.2.2.2.1, h.2.2.2.2.2.trans k⟩

theorem SegE.new (w : World) (ax ay cx cy lx ly hx hy : Int) : SegE w (((((w.alloc (.cells #[.int .i64 ax, .int .i64 ay] 23)).alloc (.cells #[.int .i64 cx, .int .i64 cy] 23)).alloc (.cells #[.int .i64 lx, .int .i64 ly, .int .i64 hx, .int .i64 hy] 28)).alloc (.cells #[.int .i64 0, .int .i64 0] 23)).alloc (.cells #[.int .i64 0, .int .i64 0] 23)) ax ay cx cy lx ly hx hy := by
  refine ⟨((((Blk.new w _ _).alloc _).alloc _).alloc _).alloc _, ?_, ?_, ?_, ?_, (((((Since.rfl_ w).alloc _).alloc _).alloc _).alloc _).alloc _⟩
  · simpa using (((Blk.new (w.alloc (.cells #[.int .i64 ax, .int .i64 ay] 23)) _ _).alloc _).alloc _).alloc _
  · simpa using ((Blk.new ((w.alloc (.cells #[.int .i64 ax, .int .i64 ay] 23)).alloc (.cells #[.int .i64 cx, .int .i64 cy] 23)) _ _).alloc _).alloc _
  · simpa using (Blk.new (((w.alloc (.cells #[.int .i64 ax, .int .i64 ay] 23)).alloc (.cells #[.int .i64 cx, .int .i64 cy] 23)).alloc (.cells #[.int .i64 lx, .int .i64 ly, .int .i64 hx, .int .i64 hy] 28)) _ _).alloc _
  · simpa using Blk.new ((((w.alloc (.cells #[.int .i64 ax, .int .i64 ay] 23)).alloc (.cells #[.int .i64 cx, .int .i64 cy] 23)).alloc (.cells #[.int .i64 lx, .int .i64 ly, .int .i64 hx, .int .i64 hy] 28)).alloc (.cells #[.int .i64 0, .int .i64 0] 23)) _ _

/-- The memory of a round of Segment. -/
def SegK (w w' : World) (ax ay cx cy lx ly hx hy : Int) (g11 g12 gk : Nat) (f l k : CutT) : Prop :=
  SegE w w' ax ay cx cy lx ly hx hy ∧ Blk w' g11 101 (cutV f) ∧ Blk w' g12 101 (cutV l) ∧ Blk w' gk 101 (cutV k)
section
variable {w w1 w2 : World} {ax ay cx cy lx ly hx hy : Int} {g11 g12 gk : Nat} {f l k : CutT}
theorem SegK.since (h : SegK w w1 ax ay cx cy lx ly hx hy g11 g12 gk f l k) (s : Since w1 w2) : SegK w w2 ax ay cx cy lx ly hx hy g11 g12 gk f l k := ⟨h.1.since s, s.blk h.2.1, s.blk h.2.2.1, s.blk h.2.2.2⟩
theorem SegE.far (h : SegE w w1 ax ay cx cy lx ly hx hy) {p : Addr} (u : Value) (hp : w.heap.size + 1 + 1 + 1 + 1 < p.block) : SegE w (w1.setCell p u) ax ay cx cy lx ly hx hy :=
  ⟨h.1.far (by omega) u, h.2.1.far (by omega) u, h.2.2.1.far (by omega) u, h.2.2.2.1.far (by omega) u, h.2.2.2.2.1.far (by omega) u, h.2.2.2.2.2.setCell (by omega) u⟩
theorem SegK.new (he : SegE w w1 ax ay cx cy lx ly hx hy) (h1 : Blk w1 g11 101 (cutV f)) (h2 : Blk w1 g12 101 (cutV l)) :
    SegK w (w1.alloc (.cells (cutV k) 101)) ax ay cx cy lx ly hx hy g11 g12 w1.heap.size f l k :=
  ⟨he.since ((Since.rfl_ _).alloc _), h1.alloc _, h2.alloc _, Blk.new _ _ _⟩
theorem SegK.set (h : SegK w w1 ax ay cx cy lx ly hx hy g11 g12 gk f l k) (h1 : g11 ≠ gk) (h2 : g12 ≠ gk) (h3 : w.heap.size + 1 + 1 + 1 + 1 < gk) (x y : Int) :
    SegK w ((w1.setCell ⟨gk, 2, none⟩ (.int .i64 x)).setCell ⟨gk, 3, none⟩ (.int .i64 y)) ax ay cx cy lx ly hx hy g11 g12 gk f l (k.1, k.2.1, x, y) :=
  ⟨(h.1.far _ h3).far _ h3, (h.2.1.far h1 _).far h1 _, (h.2.2.1.far h2 _).far h2 _, (h.2.2.2.set_ 2 _).set_ 3 _⟩
end

set_option maxRecDepth 100000 in
set_option maxHeartbeats 20000000 in
theorem Segment_any (ax ay cx cy lx ly hx hy : Int) (w : World) :
    Calls Try.prog 29 #[.agg #[.int .i64 ax, .int .i64 ay], .agg #[.int .i64 cx, .int .i64 cy], .agg #[.int .i64 lx, .int .i64 ly, .int .i64 hx, .int .i64 hy]] w fun e w' =>
      e = .returned (segVal (segV ax ay cx cy lx ly hx hy)) ∧ Since w w' := by
  have HF : Hid (segV ax ay cx cy lx ly hx hy = if (!(ax == cx && ay == cy) && okP ax ay && okP cx cy && okB lx ly hx hy) = true then
    (segRun ax ay (cx - ax) (cy - ay) lx ly hx hy 4 0 (0, 1, ax, ay) (1, 1, cx, cy)).bind (fun p => if ltC p.1 p.2 then some p else none)
  else none) := rfl
  go_enter Try.func29, Try.ntmps29
  go_upto_region 1 with fail
  go_cut [37] (fun v w' => v = .bool (!(!(ax == cx && ay == cy) && okP ax ay && okP cx cy && okB lx ly hx hy)) ∧ SegE w w' ax ay cx cy lx ly hx hy)
  case first =>
    generalize hW : World.alloc _ _ = w0
    have HE : SegE w w0 ax ay cx cy lx ly hx hy := by subst hW; exact SegE.new ..
    clear hW
    cases h0 : (ax == cx && ay == cy)
    · have a0 : w0.cell? ⟨w.heap.size, 0, none⟩ = some (.int .i64 ax) := HE.1.cell 0
      have a1 : w0.cell? ⟨w.heap.size, 1, none⟩ = some (.int .i64 ay) := HE.1.cell 1
      have c0 : w0.cell? ⟨w.heap.size + 1, 0, none⟩ = some (.int .i64 cx) := HE.2.1.cell 0
      have c1 : w0.cell? ⟨w.heap.size + 1, 1, none⟩ = some (.int .i64 cy) := HE.2.1.cell 1
      go_wp2_with fail
      refine (Ok_any _ _ _).mono ?_
      rintro e w1 ⟨rfl, hs⟩
      have HE1 := HE.since hs
      clear a0 a1 c0 c1 hs HE
      cases h1 : okP ax ay
      · go_wp2_with fail
        go_meet
        exact ⟨by rw [h0, h1]; rfl, HE1⟩
      · have c0 : w1.cell? ⟨w.heap.size + 1, 0, none⟩ = some (.int .i64 cx) := HE1.2.1.cell 0
        have c1 : w1.cell? ⟨w.heap.size + 1, 1, none⟩ = some (.int .i64 cy) := HE1.2.1.cell 1
        go_wp2_with fail
        refine (Ok_any _ _ _).mono ?_
        rintro e w2 ⟨rfl, hs⟩
        have HE2 := HE1.since hs
        clear c0 c1 hs HE1
        cases h2 : okP cx cy
        · go_wp2_with fail
          go_meet
          exact ⟨by rw [h0, h1, h2]; rfl, HE2⟩
        · have b0 : w2.cell? ⟨w.heap.size + 1 + 1, 0, none⟩ = some (.int .i64 lx) := HE2.2.2.1.cell 0
          have b1 : w2.cell? ⟨w.heap.size + 1 + 1, 1, none⟩ = some (.int .i64 ly) := HE2.2.2.1.cell 1
          have b2 : w2.cell? ⟨w.heap.size + 1 + 1, 2, none⟩ = some (.int .i64 hx) := HE2.2.2.1.cell 2
          have b3 : w2.cell? ⟨w.heap.size + 1 + 1, 3, none⟩ = some (.int .i64 hy) := HE2.2.2.1.cell 3
          go_wp2_with fail
          refine (OkB_any _ _ _ _ _).mono ?_
          rintro e w3 ⟨rfl, hs⟩
          have HE3 := HE2.since hs
          clear b0 b1 b2 b3 hs HE2
          go_wp2_with fail
          go_meet
          exact ⟨by rw [h0, h1, h2]; rfl, HE3⟩
    · have a0 : w0.cell? ⟨w.heap.size, 0, none⟩ = some (.int .i64 ax) := HE.1.cell 0
      have a1 : w0.cell? ⟨w.heap.size, 1, none⟩ = some (.int .i64 ay) := HE.1.cell 1
      have c0 : w0.cell? ⟨w.heap.size + 1, 0, none⟩ = some (.int .i64 cx) := HE.2.1.cell 0
      have c1 : w0.cell? ⟨w.heap.size + 1, 1, none⟩ = some (.int .i64 cy) := HE.2.1.cell 1
      go_wp2_with fail
      go_meet
      exact ⟨by rw [h0]; rfl, HE⟩
  case rest =>
    obtain ⟨rfl, HE⟩ := hcut
    cases hg : (!(ax == cx && ay == cy) && okP ax ay && okP cx cy && okB lx ly hx hy)
    · rw [hg] at HF
      have z30 := HE.2.2.2.1.cell 0
      have z31 := HE.2.2.2.1.cell 1
      have z40 := HE.2.2.2.2.1.cell 0
      have z41 := HE.2.2.2.2.1.cell 1
      have f30 := HE.2.2.2.1.frozen 0
      have f31 := HE.2.2.2.1.frozen 1
      have f40 := HE.2.2.2.2.1.frozen 0
      have f41 := HE.2.2.2.2.1.frozen 1
      simp only [List.getElem?_toArray, List.getElem?_cons_zero, List.getElem?_cons_succ] at z30 z31 z40 z41
      have hsz := HE.2.2.2.2.2.size
      go_wp2
      refine bodyPost_ret (v := segVal none) (by simp [results, segVal, Try.results29, go_sem, cSetS, cSetO, z30, z31, z40, z41]) rfl ⟨by rw [HF.out]; rfl, ?_⟩
      exact (((HE.2.2.2.2.2.setCell (by dsimp only; omega) _).setCell (by dsimp only; omega) _).setCell (by dsimp only; omega) _).setCell (by dsimp only; omega) _
    · rw [hg] at HF
      simp only [Bool.and_eq_true] at hg
      obtain ⟨⟨⟨-, hA⟩, hC⟩, hB⟩ := hg
      rw [okP_iff] at hA hC
      rw [okB_iff] at hB
      obtain ⟨w1, rfl⟩ : ∃ w1, w1 = wc := ⟨_, rfl⟩
      go_upto_region 3 with fail
      go_cut [11, 12] (fun v11 v12 w' => ∃ g11 g12 : Nat, v11 = .pointer (some ⟨g11, 0, none⟩) ∧ v12 = .pointer (some ⟨g12, 0, none⟩) ∧ w1.heap.size ≤ g11 ∧ w1.heap.size ≤ g12 ∧ g11 ≠ g12 ∧
        Blk w' g11 101 (cutV (0, 1, ax, ay)) ∧ Blk w' g12 101 (cutV (1, 1, cx, cy)) ∧ Since w1 w')
      case first =>
        as_aux_lemma =>
        have HE_ := HE
        have a0 : w1.cell? ⟨w.heap.size, 0, none⟩ = some (.int .i64 ax) := HE.1.cell 0
        have a1 : w1.cell? ⟨w.heap.size, 1, none⟩ = some (.int .i64 ay) := HE.1.cell 1
        have c0 : w1.cell? ⟨w.heap.size + 1, 0, none⟩ = some (.int .i64 cx) := HE.2.1.cell 0
        have c1 : w1.cell? ⟨w.heap.size + 1, 1, none⟩ = some (.int .i64 cy) := HE.2.1.cell 1
        have la := HE.1.lt
        have lc := HE.2.1.lt
        have HE0 := Lib.hid HE
        clear HE HF hA hB hC
        go_region_held3 (fun w' => w'.cell? ⟨w.heap.size, 0, none⟩ = some (.int .i64 ax) ∧ w'.cell? ⟨w.heap.size, 1, none⟩ = some (.int .i64 ay) ∧ w'.cell? ⟨w.heap.size + 1, 0, none⟩ = some (.int .i64 cx) ∧ w'.cell? ⟨w.heap.size + 1, 1, none⟩ = some (.int .i64 cy)) ((simp (maxDischargeDepth := 9) [*, World.cell?_alloc_some, cSetO, cellDrew])) (fail)
        all_goals
          rename_i hH
          obtain ⟨-, -, -, -⟩ := hH
          go_wp2_with fail
          go_meet
          dsimp only [cutV]
          first
            | exact ⟨_, _, rfl, rfl, by omega, by omega, by omega, ((Blk.new w1 _ _).alloc _).drew, by simpa using (Blk.new (w1.alloc _) _ _).drew, (((Since.rfl_ w1).alloc _).alloc _).drew⟩
            | exact ⟨_, _, rfl, rfl, by omega, by omega, by omega, by simpa using (Blk.new (w1.alloc _) _ _).drew, ((Blk.new w1 _ _).alloc _).drew, (((Since.rfl_ w1).alloc _).alloc _).drew⟩
      case rest =>
        obtain ⟨g11, g12, rfl, rfl, l11, l12, hne, hb11, hb12, hs⟩ := hcut
        have hsz := HE.2.2.2.2.1.lt
        replace HE := HE.since hs
        clear hs
        obtain ⟨w2, rfl⟩ : ∃ w2, w2 = wc := ⟨_, rfl⟩
        have a0 : w2.cell? ⟨w.heap.size, 0, none⟩ = some (.int .i64 ax) := HE.1.cell 0
        have a1 : w2.cell? ⟨w.heap.size, 1, none⟩ = some (.int .i64 ay) := HE.1.cell 1
        have c0 : w2.cell? ⟨w.heap.size + 1, 0, none⟩ = some (.int .i64 cx) := HE.2.1.cell 0
        have c1 : w2.cell? ⟨w.heap.size + 1, 1, none⟩ = some (.int .i64 cy) := HE.2.1.cell 1
        have HE0 := Lib.hid HE
        have HB11 := Lib.hid hb11
        have HB12 := Lib.hid hb12
        clear HE hb11 hb12
        go_wp2
        refine region_cls (fun w' => w'.cell? ⟨w.heap.size, 0, none⟩ = some (.int .i64 ax) ∧ w'.cell? ⟨w.heap.size, 1, none⟩ = some (.int .i64 ay) ∧ w'.cell? ⟨w.heap.size + 1, 0, none⟩ = some (.int .i64 cx) ∧ w'.cell? ⟨w.heap.size + 1, 1, none⟩ = some (.int .i64 cy) ∧ Since w2 w') (by kernel_rfl) (by kernel_rfl) (by (repeat' refine And.intro ?_ ?_) <;> first | (simp (maxDischargeDepth := 9) [a0, a1, c0, c1,  cSetS, cSetO, cellNew, World.cell?_alloc_some, cellDrew]; done) | (repeat (first | with_reducible assumption | with_reducible exact Since.rfl_ _ | refine Since.setCell ?_ (by (try dsimp only); omega) _ | refine Since.alloc ?_ _ | refine Since.drew ?_))) ?_
        repeat (go_big_quiet_step ((first | (intro hC; have hC := hC.out; (try simp only [hC, Result.andThen]); first | exact ⟨True.intro, rfl⟩ | exact ⟨rfl, rfl⟩ | rfl))))
        refine cls_end ?_
        clear a0 a1 c0 c1
        rintro w3 ⟨-, -, -, -, hs⟩
        have HE1 := Lib.hid (HE0.out.since hs)
        have HB1 := Lib.hid (hs.blk HB11.out)
        have HB2 := Lib.hid (hs.blk HB12.out)
        clear hs HE0 HB11 HB12
        go_wp2_with fail
        go_loopw [54] (fun v wr => ∃ (i : Nat) (f l : CutT), i ≤ 4 ∧ v = .int .i64 i ∧ Hid (segRun ax ay (cx - ax) (cy - ay) lx ly hx hy (4 - i) i f l = segRun ax ay (cx - ax) (cy - ay) lx ly hx hy 4 0 (0, 1, ax, ay) (1, 1, cx, cy)) ∧ cutBd f ∧ cutBd l ∧
          Hid (Blk wr g11 101 (cutV f)) ∧ Hid (Blk wr g12 101 (cutV l)) ∧ Hid (SegE w wr ax ay cx cy lx ly hx hy)) (fun v _ => 4 - (intOf v).toNat)
        case atStart => exact ⟨0, _, _, by omega, rfl, rfl, by unfold cutBd; simp, by unfold cutBd; simp, HB1, HB2, HE1⟩
        case round =>
          clear HB1 HB2 HE1
          obtain ⟨i, f, l, hi, rfl, HR, hf, hl, HB1, HB2, HE1⟩ := hrel
          have l11' : w.heap.size + 1 + 1 + 1 + 1 < g11 := by omega
          have l12' : w.heap.size + 1 + 1 + 1 + 1 < g12 := by omega
          have lg : g11 < wr.heap.size := HB1.out.lt
          have lg2 : g12 < wr.heap.size := HB2.out.lt
          have lb : w.heap.size + 1 + 1 < wr.heap.size := HE1.out.2.2.1.lt
          have la : w.heap.size < wr.heap.size := HE1.out.1.lt
          rcases Nat.lt_or_ge i 4 with hi4 | hi4
          · obtain ⟨A, HA'⟩ : ∃ A, Hid (A = atV lx ly hx hy i) := ⟨_, rfl⟩
            obtain ⟨F, HF'⟩ : ∃ F, Hid (F = fromV ax ay lx ly hx hy i) := ⟨_, rfl⟩
            obtain ⟨E, HE'⟩ : ∃ E, Hid (E = byV (cx - ax) (cy - ay) i) := ⟨_, rfl⟩
            have bA : -1048576 ≤ A ∧ A ≤ 1048576 := by rw [HA'.out]; unfold atV; (repeat' split) <;> omega
            have bF : -2097152 ≤ F ∧ F ≤ 2097152 := by rw [HF'.out]; unfold fromV; (repeat' split) <;> omega
            have bE : -2097152 ≤ E ∧ E ≤ 2097152 := by rw [HE'.out]; unfold byV; (repeat' split) <;> omega
            go_upto_region 8 with fail
            go_cut [16] from 55 to 154 (fun v16 w' => v16 = .int .i64 A ∧ Since wr w')
            case first =>
              have b0 : wr.cell? ⟨w.heap.size + 1 + 1, 0, none⟩ = some (.int .i64 lx) := HE1.out.2.2.1.cell 0
              have b1 : wr.cell? ⟨w.heap.size + 1 + 1, 1, none⟩ = some (.int .i64 ly) := HE1.out.2.2.1.cell 1
              have b2 : wr.cell? ⟨w.heap.size + 1 + 1, 2, none⟩ = some (.int .i64 hx) := HE1.out.2.2.1.cell 2
              have b3 : wr.cell? ⟨w.heap.size + 1 + 1, 3, none⟩ = some (.int .i64 hy) := HE1.out.2.2.1.cell 3
              have HA2 : Hid (A = atV lx ly hx hy i) := HA'.out
              clear HA' HF' HE' HR
              obtain rfl | rfl | rfl | rfl : i = 0 ∨ i = 1 ∨ i = 2 ∨ i = 3 := by omega
              all_goals
                go_wp2_with fail
                go_meet
                exact ⟨by rw [HA2.out]; rfl, (Since.rfl_ _).alloc _⟩
            case rest =>
              obtain ⟨rfl, hs⟩ := hcut
              obtain ⟨w6, rfl⟩ : ∃ w6, w6 = wc := ⟨_, rfl⟩
              have HE6 := Lib.hid (HE1.out.since hs)
              have H16 := Lib.hid (hs.blk HB1.out)
              have H26 := Lib.hid (hs.blk HB2.out)
              have lg' : g11 < w6.heap.size := H16.out.lt
              have lg2' : g12 < w6.heap.size := H26.out.lt
              have la' : w.heap.size < w6.heap.size := HE6.out.1.lt
              clear hs HE1 HB1 HB2 lg lg2 lb la
              have a0 : w6.cell? ⟨w.heap.size, 0, none⟩ = some (.int .i64 ax) := HE6.out.1.cell 0
              have a1 : w6.cell? ⟨w.heap.size, 1, none⟩ = some (.int .i64 ay) := HE6.out.1.cell 1
              go_upto_if 79 with fail
              go_cut [17, 18] from 55 to 154 (fun v17 v18 w' => v17 = .int .i64 (if 1 < i then ay - A else ax - A) ∧ v18 = .int .i64 (if 1 < i then cy - ay else cx - ax) ∧ w6 = w')
              case first =>
                clear HA' HF' HE' HR
                by_cases h1 : (1 : Int) < i
                · go_wp2_with fail
                  go_meet
                  exact ⟨by rw [if_pos (by omega)], by rw [if_pos (by omega)], rfl⟩
                · go_wp2_with fail
                  go_meet
                  exact ⟨by rw [if_neg (by omega)], by rw [if_neg (by omega)], rfl⟩
              case rest =>
                obtain ⟨rfl, rfl, rfl⟩ := hcut
                clear a0 a1
                go_upto_if 87 with fail
                go_cut [17, 18] from 55 to 154 (fun v17 v18 w' => v17 = .int .i64 F ∧ v18 = .int .i64 E ∧ w6 = w')
                case first =>
                  have HF2 : Hid (F = fromV ax ay lx ly hx hy i) := HF'.out
                  have HE2 : Hid (E = byV (cx - ax) (cy - ay) i) := HE'.out
                  clear HF' HE' HR
                  have HA2 : Hid (A = atV lx ly hx hy i) := HA'.out
                  clear HA'
                  obtain rfl | rfl | rfl | rfl : i = 0 ∨ i = 1 ∨ i = 2 ∨ i = 3 := by omega
                  all_goals
                    have HA3 := HA2.out
                    simp [atV] at HA3
                    subst HA3
                    simp only [Nat.lt_irrefl, Nat.reduceLT, if_true, if_false, ↓reduceIte]
                    go_wp2_with fail
                    go_meet
                    exact ⟨by rw [HF2.out]; rfl, by rw [HE2.out]; rfl, rfl⟩
                case rest =>
                  obtain ⟨rfl, rfl, rfl⟩ := hcut
                  rcases Int.lt_trichotomy E 0 with he | he | he
                  · have hz : ((E : Int) == 0) = false := by rw [beq_eq_false_iff_ne]; omega
                    have hz1 : decide ((E : Int) < 0) = true := by rw [decide_eq_true_eq]; omega
                    have hz2 : decide (0 < (E : Int)) = false := by rw [decide_eq_false_iff_not]; omega
                    go_upto_region 20 with fail
                    go_cut [] from 55 to 154 (fun w' => SegK w w' ax ay cx cy lx ly hx hy g11 g12 w6.heap.size f l (F, -E, A, ay + rnd (F * (cy - ay)) (-E)))
                    case first =>
                      as_aux_lemma =>
                      have m1 : (F * (cy - ay)).natAbs ≤ 17592186044416 := Nat.le_trans (mul_bd (A := 4194304) (B := 4194304) (by omega) (by omega)) (by decide)
                      have e1 : wrap64 (F * (cy - ay)) = F * (cy - ay) := wrap_id (by omega)
                      have dp : 0 < -E := by omega
                      have dm : -E ≤ 8388608 := by omega
                      have rb := rnd_bd m1 dp dm
                      have e2 : wrap64 (ay + rnd (F * (cy - ay)) (-E)) = ay + rnd (F * (cy - ay)) (-E) := wrap_id (by omega)
                      have M1 := Lib.hid (And.intro m1 (And.intro dp dm))
                      clear m1 dp dm rb
                      go_upto_region 20 with fail
                      refine atW (fun w' => SegK w w' ax ay cx cy lx ly hx hy g11 g12 w6.heap.size f l (F, -E, 0, 0)) (SegK.new (k := (F, -E, 0, 0)) HE6.out H16.out H26.out) ?_
                      clear HE6 H16 H26
                      intro w7 hK
                      have a0 : w7.cell? ⟨w.heap.size, 0, none⟩ = some (.int .i64 ax) := hK.1.1.cell 0
                      have a1 : w7.cell? ⟨w.heap.size, 1, none⟩ = some (.int .i64 ay) := hK.1.1.cell 1
                      have k0 : w7.cell? ⟨w6.heap.size, 0, none⟩ = some (.int .i64 (F)) := hK.2.2.2.cell 0
                      have k1 : w7.cell? ⟨w6.heap.size, 1, none⟩ = some (.int .i64 (-E)) := hK.2.2.2.cell 1
                      have HK := Lib.hid hK
                      clear hK
                      refine region_tail 12 (fun w' => w'.cell? ⟨w.heap.size, 0, none⟩ = some (.int .i64 ax) ∧ w'.cell? ⟨w.heap.size, 1, none⟩ = some (.int .i64 ay) ∧ w'.cell? ⟨w6.heap.size, 0, none⟩ = some (.int .i64 (F)) ∧ w'.cell? ⟨w6.heap.size, 1, none⟩ = some (.int .i64 (-E)) ∧ Since w7 w') (by kernel_rfl) (by kernel_rfl) (by (repeat' refine And.intro ?_ ?_) <;> first | (simp (maxDischargeDepth := 9) [a0, a1, k0, k1,  cSetS, cSetO, cellNew, World.cell?_alloc_some, cellDrew]; done) | (repeat (first | with_reducible assumption | with_reducible exact Since.rfl_ _ | refine Since.setCell ?_ (by (try dsimp only); omega) _ | refine Since.alloc ?_ _ | refine Since.drew ?_))) ?_
                      simp only [List.take_succ_cons, List.take_zero, List.drop_succ_cons, List.drop_zero]
                      repeat (go_big_quiet_step ((first | (intro hC; go_at_call 77; refine (round_any _ _ _ (Nat.le_trans M1.out.1 (by decide)) M1.out.2.1 M1.out.2.2).mono ?_; rintro e w' ⟨rfl, rfl⟩; exact ⟨rfl, hC⟩) | (intro hC; have hC := hC.out; (try simp only [hC, Result.andThen]); first | exact ⟨True.intro, rfl⟩ | exact ⟨rfl, rfl⟩ | rfl))))
                      refine tail_end ?_
                      clear a0 a1 k0 k1
                      rintro w8 ⟨-, -, -, -, hs⟩
                      have hK2 := HK.out.since hs
                      have k2 := hK2.2.2.2.cell 2
                      have k3 := hK2.2.2.2.cell 3
                      have f2 := hK2.2.2.2.frozen 2
                      have f3 := hK2.2.2.2.frozen 3
                      simp only [cutV, List.getElem?_toArray, List.getElem?_cons_zero, List.getElem?_cons_succ] at k2 k3
                      have HK2 := Lib.hid hK2
                      clear hs hK2 HK
                      go_wp2_with fail
                      go_meet
                      first
                        | exact HK2.out.set (by omega) (by omega) (by omega) _ _
                        | (rw [HKC.out]; exact HK2.out.set (by omega) (by omega) (by omega) _ _)
                    case rest =>
                      clear HE6 H16 H26
                      have HK := Lib.hid hcut
                      clear hcut
                      obtain ⟨w9, rfl⟩ : ∃ w9, w9 = wc := ⟨_, rfl⟩
                      go_upto_if 124 with fail
                      go_cut [] from 55 to 154 (fun w' => SegK w w' ax ay cx cy lx ly hx hy g11 g12 w6.heap.size f l (kCut ax ay (cx - ax) (cy - ay) A i (F) (-E)))
                      case first =>
                        as_aux_lemma =>
                        by_cases h1 : (1 : Int) < i
                        · have HKC : Hid (kCut ax ay (cx - ax) (cy - ay) A i (F) (-E) = (F, -E, ax + rnd (F * (cx - ax)) (-E), A)) := by
                            show _ = _
                            unfold kCut; rw [if_pos (by omega)]
                          have m1 : (F * (cx - ax)).natAbs ≤ 17592186044416 := Nat.le_trans (mul_bd (A := 4194304) (B := 4194304) (by omega) (by omega)) (by decide)
                          have e1 : wrap64 (F * (cx - ax)) = F * (cx - ax) := wrap_id (by omega)
                          have dp : 0 < -E := by omega
                          have dm : -E ≤ 8388608 := by omega
                          have rb := rnd_bd m1 dp dm
                          have e2 : wrap64 (ax + rnd (F * (cx - ax)) (-E)) = ax + rnd (F * (cx - ax)) (-E) := wrap_id (by omega)
                          have M1 := Lib.hid (And.intro m1 (And.intro dp dm))
                          clear m1 dp dm rb
                          go_upto_region 22 with fail
                          refine atW (fun w' => SegK w w' ax ay cx cy lx ly hx hy g11 g12 w6.heap.size f l (F, -E, A, ay + rnd (F * (cy - ay)) (-E))) HK.out ?_
                          clear HK
                          intro w7 hK
                          have a0 : w7.cell? ⟨w.heap.size, 0, none⟩ = some (.int .i64 ax) := hK.1.1.cell 0
                          have a1 : w7.cell? ⟨w.heap.size, 1, none⟩ = some (.int .i64 ay) := hK.1.1.cell 1
                          have k0 : w7.cell? ⟨w6.heap.size, 0, none⟩ = some (.int .i64 (F)) := hK.2.2.2.cell 0
                          have k1 : w7.cell? ⟨w6.heap.size, 1, none⟩ = some (.int .i64 (-E)) := hK.2.2.2.cell 1
                          have HK := Lib.hid hK
                          clear hK
                          refine region_tail 12 (fun w' => w'.cell? ⟨w.heap.size, 0, none⟩ = some (.int .i64 ax) ∧ w'.cell? ⟨w.heap.size, 1, none⟩ = some (.int .i64 ay) ∧ w'.cell? ⟨w6.heap.size, 0, none⟩ = some (.int .i64 (F)) ∧ w'.cell? ⟨w6.heap.size, 1, none⟩ = some (.int .i64 (-E)) ∧ Since w7 w') (by kernel_rfl) (by kernel_rfl) (by (repeat' refine And.intro ?_ ?_) <;> first | (simp (maxDischargeDepth := 9) [a0, a1, k0, k1,  cSetS, cSetO, cellNew, World.cell?_alloc_some, cellDrew]; done) | (repeat (first | with_reducible assumption | with_reducible exact Since.rfl_ _ | refine Since.setCell ?_ (by (try dsimp only); omega) _ | refine Since.alloc ?_ _ | refine Since.drew ?_))) ?_
                          simp only [List.take_succ_cons, List.take_zero, List.drop_succ_cons, List.drop_zero]
                          repeat (go_big_quiet_step ((first | (intro hC; go_at_call 77; refine (round_any _ _ _ (Nat.le_trans M1.out.1 (by decide)) M1.out.2.1 M1.out.2.2).mono ?_; rintro e w' ⟨rfl, rfl⟩; exact ⟨rfl, hC⟩) | (intro hC; have hC := hC.out; (try simp only [hC, Result.andThen]); first | exact ⟨True.intro, rfl⟩ | exact ⟨rfl, rfl⟩ | rfl))))
                          refine tail_end ?_
                          clear a0 a1 k0 k1
                          rintro w8 ⟨-, -, -, -, hs⟩
                          have hK2 := HK.out.since hs
                          have k2 := hK2.2.2.2.cell 2
                          have k3 := hK2.2.2.2.cell 3
                          have f2 := hK2.2.2.2.frozen 2
                          have f3 := hK2.2.2.2.frozen 3
                          simp only [cutV, List.getElem?_toArray, List.getElem?_cons_zero, List.getElem?_cons_succ] at k2 k3
                          have HK2 := Lib.hid hK2
                          clear hs hK2 HK
                          go_wp2_with fail
                          go_meet
                          first
                            | exact HK2.out.set (by omega) (by omega) (by omega) _ _
                            | (rw [HKC.out]; exact HK2.out.set (by omega) (by omega) (by omega) _ _)
                        · have HKC : Hid (kCut ax ay (cx - ax) (cy - ay) A i (F) (-E) = (F, -E, A, ay + rnd (F * (cy - ay)) (-E))) := by
                            show _ = _
                            unfold kCut; rw [if_neg (by omega)]
                          go_wp2_with fail
                          go_meet
                          rw [HKC.out]
                          exact HK.out
                      case rest =>
                      have hK := hcut
                      obtain ⟨k, HKC⟩ : ∃ k, Hid (k = kCut ax ay (cx - ax) (cy - ay) A i (F) (-E)) := ⟨_, rfl⟩
                      have k_n : k.1 = F := by rw [HKC.out]; unfold kCut; split <;> rfl
                      have k_d : k.2.1 = -E := by rw [HKC.out]; unfold kCut; split <;> rfl
                      rw [← HKC.out] at hK
                      have HR2 : Hid (segRun ax ay (cx - ax) (cy - ay) lx ly hx hy (4 - (i + 1)) (i + 1) f (if ltC k l then k else l) = segRun ax ay (cx - ax) (cy - ay) lx ly hx hy 4 0 (0, 1, ax, ay) (1, 1, cx, cy)) := by
                        show _ = _
                        rw [← HR.out, HKC.out, HA'.out, HF'.out, HE'.out]
                        exact (show segRun ax ay (cx - ax) (cy - ay) lx ly hx hy (4 - i) i f l = _ from by rw [show 4 - i = 4 - (i + 1) + 1 by omega]; exact segRun_neg (by rw [← HE'.out]; exact he) _ f l).symm
                      have bd1 : k.1.natAbs ≤ 16777216 := by omega
                      have bd2 : k.2.1.natAbs ≤ 16777216 := by omega
                      clear k_n k_d HKC HR hcut HA' HF' HE'
                      have HK := Lib.hid hK
                      clear hK
                      obtain ⟨w10, rfl⟩ : ∃ w10, w10 = wc := ⟨_, rfl⟩
                      have lk := HK.out.2.2.2.lt
                      have k_0 : w10.cell? ⟨w6.heap.size, 0, none⟩ = some (.int .i64 k.1) := HK.out.2.2.2.cell 0
                      have k_1 : w10.cell? ⟨w6.heap.size, 1, none⟩ = some (.int .i64 k.2.1) := HK.out.2.2.2.cell 1
                      have k_2 : w10.cell? ⟨w6.heap.size, 2, none⟩ = some (.int .i64 k.2.2.1) := HK.out.2.2.2.cell 2
                      have k_3 : w10.cell? ⟨w6.heap.size, 3, none⟩ = some (.int .i64 k.2.2.2) := HK.out.2.2.2.cell 3
                      have d_0 : w10.cell? ⟨g12, 0, none⟩ = some (.int .i64 l.1) := HK.out.2.2.1.cell 0
                      have d_1 : w10.cell? ⟨g12, 1, none⟩ = some (.int .i64 l.2.1) := HK.out.2.2.1.cell 1
                      have d_2 : w10.cell? ⟨g12, 2, none⟩ = some (.int .i64 l.2.2.1) := HK.out.2.2.1.cell 2
                      have d_3 : w10.cell? ⟨g12, 3, none⟩ = some (.int .i64 l.2.2.2) := HK.out.2.2.1.cell 3
                      go_wp2_with fail
                      refine (less_any _ _ _ _ _ _ _ _ _ bd1 hl.1 bd2 hl.2).mono ?_
                      rintro e w11 ⟨rfl, hs⟩
                      have HK2 := Lib.hid (HK.out.since hs)
                      clear hs HK k_0 k_1 k_2 k_3 d_0 d_1 d_2 d_3
                      cases hb : ltV k.1 k.2.1 l.1 l.2.1
                      · as_aux_lemma =>
                        rw [show ltC _ _ = ltV k.1 k.2.1 l.1 l.2.1 from rfl, hb] at HR2
                        go_wp2_with fail
                        go_roundw
                        case rel => exact ⟨i + 1, f, l, by omega, by go_num, HR2, hf, hl, Lib.hid HK2.out.2.1, Lib.hid HK2.out.2.2.1, Lib.hid HK2.out.1⟩
                        case measure => simp [intOf]; omega
                      · as_aux_lemma =>
                        rw [show ltC _ _ = ltV k.1 k.2.1 l.1 l.2.1 from rfl, hb] at HR2
                        have k_0 : w11.cell? ⟨w6.heap.size, 0, none⟩ = some (.int .i64 k.1) := HK2.out.2.2.2.cell 0
                        have k_1 : w11.cell? ⟨w6.heap.size, 1, none⟩ = some (.int .i64 k.2.1) := HK2.out.2.2.2.cell 1
                        have k_2 : w11.cell? ⟨w6.heap.size, 2, none⟩ = some (.int .i64 k.2.2.1) := HK2.out.2.2.2.cell 2
                        have k_3 : w11.cell? ⟨w6.heap.size, 3, none⟩ = some (.int .i64 k.2.2.2) := HK2.out.2.2.2.cell 3
                        have d_0 : w11.cell? ⟨g12, 0, none⟩ = some (.int .i64 l.1) := HK2.out.2.2.1.cell 0
                        have d_1 : w11.cell? ⟨g12, 1, none⟩ = some (.int .i64 l.2.1) := HK2.out.2.2.1.cell 1
                        have d_2 : w11.cell? ⟨g12, 2, none⟩ = some (.int .i64 l.2.2.1) := HK2.out.2.2.1.cell 2
                        have d_3 : w11.cell? ⟨g12, 3, none⟩ = some (.int .i64 l.2.2.2) := HK2.out.2.2.1.cell 3
                        have fr0 := HK2.out.2.2.1.frozen 0
                        have fr1 := HK2.out.2.2.1.frozen 1
                        have fr2 := HK2.out.2.2.1.frozen 2
                        have fr3 := HK2.out.2.2.1.frozen 3
                        go_wp2_with fail
                        go_roundw
                        case rel => exact ⟨i + 1, f, k, by omega, by go_num, HR2, hf, ⟨bd1, bd2⟩, Lib.hid ((((HK2.out.2.1.far hne _).far hne _).far hne _).far hne _), Lib.hid ((((HK2.out.2.2.1.set_ 0 _).set_ 1 _).set_ 2 _).set_ 3 _), Lib.hid ((((HK2.out.1.far _ l12').far _ l12').far _ l12').far _ l12')⟩
                        case measure => simp [intOf]; omega
                  · have hz : ((E : Int) == 0) = true := by rw [beq_iff_eq]; omega
                    rcases Int.lt_or_le F 0 with hf0 | hf0
                    · have hz1 : decide ((F : Int) < 0) = true := by rw [decide_eq_true_eq]; omega
                      have HN : Hid (segV ax ay cx cy lx ly hx hy = none) := by
                        show _ = _
                        rw [HF.out, if_pos True.intro, ← HR.out, show 4 - i = 4 - (i + 1) + 1 by omega, segRun_none (by rw [← HE'.out]; exact he) (by rw [← HF'.out]; exact hf0)]; rfl
                      clear HA' HF' HE' HR HF
                      have z30 := HE6.out.2.2.2.1.cell 0
                      have z31 := HE6.out.2.2.2.1.cell 1
                      have z40 := HE6.out.2.2.2.2.1.cell 0
                      have z41 := HE6.out.2.2.2.2.1.cell 1
                      have f30 := HE6.out.2.2.2.1.frozen 0
                      have f31 := HE6.out.2.2.2.1.frozen 1
                      have f40 := HE6.out.2.2.2.2.1.frozen 0
                      have f41 := HE6.out.2.2.2.2.1.frozen 1
                      simp only [List.getElem?_toArray, List.getElem?_cons_zero, List.getElem?_cons_succ] at z30 z31 z40 z41
                      have hsz := HE6.out.2.2.2.2.2.size
                      go_wp2
                      refine bodyPost_ret (v := segVal none) (by simp [results, segVal, Try.results29, go_sem, cSetS, cSetO, z30, z31, z40, z41]) rfl ⟨by rw [HN.out], ?_⟩
                      exact (((HE6.out.2.2.2.2.2.setCell (by dsimp only; omega) _).setCell (by dsimp only; omega) _).setCell (by dsimp only; omega) _).setCell (by dsimp only; omega) _
                    · have hz1 : decide ((F : Int) < 0) = false := by rw [decide_eq_false_iff_not]; omega
                      have HR2 : Hid (segRun ax ay (cx - ax) (cy - ay) lx ly hx hy (4 - (i + 1)) (i + 1) f l = segRun ax ay (cx - ax) (cy - ay) lx ly hx hy 4 0 (0, 1, ax, ay) (1, 1, cx, cy)) := by
                        show _ = _
                        rw [← HR.out, show 4 - i = 4 - (i + 1) + 1 by omega, segRun_zero (by rw [← HE'.out]; exact he) (by rw [← HF'.out]; exact hf0)]
                      clear HA' HF' HE' HR HF
                      go_wp2_with fail
                      go_roundw
                      case rel => exact ⟨i + 1, f, l, by omega, by go_num, HR2, hf, hl, H16, H26, HE6⟩
                      case measure => simp [intOf]; omega
                  · have hz : ((E : Int) == 0) = false := by rw [beq_eq_false_iff_ne]; omega
                    have hz1 : decide ((E : Int) < 0) = false := by rw [decide_eq_false_iff_not]; omega
                    have hz2 : decide (0 < (E : Int)) = true := by rw [decide_eq_true_eq]; omega
                    go_upto_region 20 with fail
                    go_cut [] from 55 to 154 (fun w' => SegK w w' ax ay cx cy lx ly hx hy g11 g12 w6.heap.size f l (-F, E, A, ay + rnd (-F * (cy - ay)) (E)))
                    case first =>
                      as_aux_lemma =>
                      have m1 : (-F * (cy - ay)).natAbs ≤ 17592186044416 := Nat.le_trans (mul_bd (A := 4194304) (B := 4194304) (by omega) (by omega)) (by decide)
                      have e1 : wrap64 (-F * (cy - ay)) = -F * (cy - ay) := wrap_id (by omega)
                      have dp : 0 < E := by omega
                      have dm : E ≤ 8388608 := by omega
                      have rb := rnd_bd m1 dp dm
                      have e2 : wrap64 (ay + rnd (-F * (cy - ay)) (E)) = ay + rnd (-F * (cy - ay)) (E) := wrap_id (by omega)
                      have M1 := Lib.hid (And.intro m1 (And.intro dp dm))
                      clear m1 dp dm rb
                      go_upto_region 20 with fail
                      refine atW (fun w' => SegK w w' ax ay cx cy lx ly hx hy g11 g12 w6.heap.size f l (-F, E, 0, 0)) (SegK.new (k := (-F, E, 0, 0)) HE6.out H16.out H26.out) ?_
                      clear HE6 H16 H26
                      intro w7 hK
                      have a0 : w7.cell? ⟨w.heap.size, 0, none⟩ = some (.int .i64 ax) := hK.1.1.cell 0
                      have a1 : w7.cell? ⟨w.heap.size, 1, none⟩ = some (.int .i64 ay) := hK.1.1.cell 1
                      have k0 : w7.cell? ⟨w6.heap.size, 0, none⟩ = some (.int .i64 (-F)) := hK.2.2.2.cell 0
                      have k1 : w7.cell? ⟨w6.heap.size, 1, none⟩ = some (.int .i64 (E)) := hK.2.2.2.cell 1
                      have HK := Lib.hid hK
                      clear hK
                      refine region_tail 12 (fun w' => w'.cell? ⟨w.heap.size, 0, none⟩ = some (.int .i64 ax) ∧ w'.cell? ⟨w.heap.size, 1, none⟩ = some (.int .i64 ay) ∧ w'.cell? ⟨w6.heap.size, 0, none⟩ = some (.int .i64 (-F)) ∧ w'.cell? ⟨w6.heap.size, 1, none⟩ = some (.int .i64 (E)) ∧ Since w7 w') (by kernel_rfl) (by kernel_rfl) (by (repeat' refine And.intro ?_ ?_) <;> first | (simp (maxDischargeDepth := 9) [a0, a1, k0, k1,  cSetS, cSetO, cellNew, World.cell?_alloc_some, cellDrew]; done) | (repeat (first | with_reducible assumption | with_reducible exact Since.rfl_ _ | refine Since.setCell ?_ (by (try dsimp only); omega) _ | refine Since.alloc ?_ _ | refine Since.drew ?_))) ?_
                      simp only [List.take_succ_cons, List.take_zero, List.drop_succ_cons, List.drop_zero]
                      repeat (go_big_quiet_step ((first | (intro hC; go_at_call 77; refine (round_any _ _ _ (Nat.le_trans M1.out.1 (by decide)) M1.out.2.1 M1.out.2.2).mono ?_; rintro e w' ⟨rfl, rfl⟩; exact ⟨rfl, hC⟩) | (intro hC; have hC := hC.out; (try simp only [hC, Result.andThen]); first | exact ⟨True.intro, rfl⟩ | exact ⟨rfl, rfl⟩ | rfl))))
                      refine tail_end ?_
                      clear a0 a1 k0 k1
                      rintro w8 ⟨-, -, -, -, hs⟩
                      have hK2 := HK.out.since hs
                      have k2 := hK2.2.2.2.cell 2
                      have k3 := hK2.2.2.2.cell 3
                      have f2 := hK2.2.2.2.frozen 2
                      have f3 := hK2.2.2.2.frozen 3
                      simp only [cutV, List.getElem?_toArray, List.getElem?_cons_zero, List.getElem?_cons_succ] at k2 k3
                      have HK2 := Lib.hid hK2
                      clear hs hK2 HK
                      go_wp2_with fail
                      go_meet
                      first
                        | exact HK2.out.set (by omega) (by omega) (by omega) _ _
                        | (rw [HKC.out]; exact HK2.out.set (by omega) (by omega) (by omega) _ _)
                    case rest =>
                      clear HE6 H16 H26
                      have HK := Lib.hid hcut
                      clear hcut
                      obtain ⟨w9, rfl⟩ : ∃ w9, w9 = wc := ⟨_, rfl⟩
                      go_upto_if 124 with fail
                      go_cut [] from 55 to 154 (fun w' => SegK w w' ax ay cx cy lx ly hx hy g11 g12 w6.heap.size f l (kCut ax ay (cx - ax) (cy - ay) A i (-F) (E)))
                      case first =>
                        as_aux_lemma =>
                        by_cases h1 : (1 : Int) < i
                        · have HKC : Hid (kCut ax ay (cx - ax) (cy - ay) A i (-F) (E) = (-F, E, ax + rnd (-F * (cx - ax)) (E), A)) := by
                            show _ = _
                            unfold kCut; rw [if_pos (by omega)]
                          have m1 : (-F * (cx - ax)).natAbs ≤ 17592186044416 := Nat.le_trans (mul_bd (A := 4194304) (B := 4194304) (by omega) (by omega)) (by decide)
                          have e1 : wrap64 (-F * (cx - ax)) = -F * (cx - ax) := wrap_id (by omega)
                          have dp : 0 < E := by omega
                          have dm : E ≤ 8388608 := by omega
                          have rb := rnd_bd m1 dp dm
                          have e2 : wrap64 (ax + rnd (-F * (cx - ax)) (E)) = ax + rnd (-F * (cx - ax)) (E) := wrap_id (by omega)
                          have M1 := Lib.hid (And.intro m1 (And.intro dp dm))
                          clear m1 dp dm rb
                          go_upto_region 22 with fail
                          refine atW (fun w' => SegK w w' ax ay cx cy lx ly hx hy g11 g12 w6.heap.size f l (-F, E, A, ay + rnd (-F * (cy - ay)) (E))) HK.out ?_
                          clear HK
                          intro w7 hK
                          have a0 : w7.cell? ⟨w.heap.size, 0, none⟩ = some (.int .i64 ax) := hK.1.1.cell 0
                          have a1 : w7.cell? ⟨w.heap.size, 1, none⟩ = some (.int .i64 ay) := hK.1.1.cell 1
                          have k0 : w7.cell? ⟨w6.heap.size, 0, none⟩ = some (.int .i64 (-F)) := hK.2.2.2.cell 0
                          have k1 : w7.cell? ⟨w6.heap.size, 1, none⟩ = some (.int .i64 (E)) := hK.2.2.2.cell 1
                          have HK := Lib.hid hK
                          clear hK
                          refine region_tail 12 (fun w' => w'.cell? ⟨w.heap.size, 0, none⟩ = some (.int .i64 ax) ∧ w'.cell? ⟨w.heap.size, 1, none⟩ = some (.int .i64 ay) ∧ w'.cell? ⟨w6.heap.size, 0, none⟩ = some (.int .i64 (-F)) ∧ w'.cell? ⟨w6.heap.size, 1, none⟩ = some (.int .i64 (E)) ∧ Since w7 w') (by kernel_rfl) (by kernel_rfl) (by (repeat' refine And.intro ?_ ?_) <;> first | (simp (maxDischargeDepth := 9) [a0, a1, k0, k1,  cSetS, cSetO, cellNew, World.cell?_alloc_some, cellDrew]; done) | (repeat (first | with_reducible assumption | with_reducible exact Since.rfl_ _ | refine Since.setCell ?_ (by (try dsimp only); omega) _ | refine Since.alloc ?_ _ | refine Since.drew ?_))) ?_
                          simp only [List.take_succ_cons, List.take_zero, List.drop_succ_cons, List.drop_zero]
                          repeat (go_big_quiet_step ((first | (intro hC; go_at_call 77; refine (round_any _ _ _ (Nat.le_trans M1.out.1 (by decide)) M1.out.2.1 M1.out.2.2).mono ?_; rintro e w' ⟨rfl, rfl⟩; exact ⟨rfl, hC⟩) | (intro hC; have hC := hC.out; (try simp only [hC, Result.andThen]); first | exact ⟨True.intro, rfl⟩ | exact ⟨rfl, rfl⟩ | rfl))))
                          refine tail_end ?_
                          clear a0 a1 k0 k1
                          rintro w8 ⟨-, -, -, -, hs⟩
                          have hK2 := HK.out.since hs
                          have k2 := hK2.2.2.2.cell 2
                          have k3 := hK2.2.2.2.cell 3
                          have f2 := hK2.2.2.2.frozen 2
                          have f3 := hK2.2.2.2.frozen 3
                          simp only [cutV, List.getElem?_toArray, List.getElem?_cons_zero, List.getElem?_cons_succ] at k2 k3
                          have HK2 := Lib.hid hK2
                          clear hs hK2 HK
                          go_wp2_with fail
                          go_meet
                          first
                            | exact HK2.out.set (by omega) (by omega) (by omega) _ _
                            | (rw [HKC.out]; exact HK2.out.set (by omega) (by omega) (by omega) _ _)
                        · have HKC : Hid (kCut ax ay (cx - ax) (cy - ay) A i (-F) (E) = (-F, E, A, ay + rnd (-F * (cy - ay)) (E))) := by
                            show _ = _
                            unfold kCut; rw [if_neg (by omega)]
                          go_wp2_with fail
                          go_meet
                          rw [HKC.out]
                          exact HK.out
                      case rest =>
                      have hK := hcut
                      obtain ⟨k, HKC⟩ : ∃ k, Hid (k = kCut ax ay (cx - ax) (cy - ay) A i (-F) (E)) := ⟨_, rfl⟩
                      have k_n : k.1 = -F := by rw [HKC.out]; unfold kCut; split <;> rfl
                      have k_d : k.2.1 = E := by rw [HKC.out]; unfold kCut; split <;> rfl
                      rw [← HKC.out] at hK
                      have HR2 : Hid (segRun ax ay (cx - ax) (cy - ay) lx ly hx hy (4 - (i + 1)) (i + 1) (if ltC f k then k else f) l = segRun ax ay (cx - ax) (cy - ay) lx ly hx hy 4 0 (0, 1, ax, ay) (1, 1, cx, cy)) := by
                        show _ = _
                        rw [← HR.out, HKC.out, HA'.out, HF'.out, HE'.out]
                        exact (show segRun ax ay (cx - ax) (cy - ay) lx ly hx hy (4 - i) i f l = _ from by rw [show 4 - i = 4 - (i + 1) + 1 by omega]; exact segRun_pos (by rw [← HE'.out]; exact he) _ f l).symm
                      have bd1 : k.1.natAbs ≤ 16777216 := by omega
                      have bd2 : k.2.1.natAbs ≤ 16777216 := by omega
                      clear k_n k_d HKC HR hcut HA' HF' HE'
                      have HK := Lib.hid hK
                      clear hK
                      obtain ⟨w10, rfl⟩ : ∃ w10, w10 = wc := ⟨_, rfl⟩
                      have lk := HK.out.2.2.2.lt
                      have k_0 : w10.cell? ⟨w6.heap.size, 0, none⟩ = some (.int .i64 k.1) := HK.out.2.2.2.cell 0
                      have k_1 : w10.cell? ⟨w6.heap.size, 1, none⟩ = some (.int .i64 k.2.1) := HK.out.2.2.2.cell 1
                      have k_2 : w10.cell? ⟨w6.heap.size, 2, none⟩ = some (.int .i64 k.2.2.1) := HK.out.2.2.2.cell 2
                      have k_3 : w10.cell? ⟨w6.heap.size, 3, none⟩ = some (.int .i64 k.2.2.2) := HK.out.2.2.2.cell 3
                      have d_0 : w10.cell? ⟨g11, 0, none⟩ = some (.int .i64 f.1) := HK.out.2.1.cell 0
                      have d_1 : w10.cell? ⟨g11, 1, none⟩ = some (.int .i64 f.2.1) := HK.out.2.1.cell 1
                      have d_2 : w10.cell? ⟨g11, 2, none⟩ = some (.int .i64 f.2.2.1) := HK.out.2.1.cell 2
                      have d_3 : w10.cell? ⟨g11, 3, none⟩ = some (.int .i64 f.2.2.2) := HK.out.2.1.cell 3
                      go_wp2_with fail
                      refine (less_any _ _ _ _ _ _ _ _ _ hf.1 bd1 hf.2 bd2).mono ?_
                      rintro e w11 ⟨rfl, hs⟩
                      have HK2 := Lib.hid (HK.out.since hs)
                      clear hs HK k_0 k_1 k_2 k_3 d_0 d_1 d_2 d_3
                      cases hb : ltV f.1 f.2.1 k.1 k.2.1
                      · as_aux_lemma =>
                        rw [show ltC _ _ = ltV f.1 f.2.1 k.1 k.2.1 from rfl, hb] at HR2
                        go_wp2_with fail
                        go_roundw
                        case rel => exact ⟨i + 1, f, l, by omega, by go_num, HR2, hf, hl, Lib.hid HK2.out.2.1, Lib.hid HK2.out.2.2.1, Lib.hid HK2.out.1⟩
                        case measure => simp [intOf]; omega
                      · as_aux_lemma =>
                        rw [show ltC _ _ = ltV f.1 f.2.1 k.1 k.2.1 from rfl, hb] at HR2
                        have k_0 : w11.cell? ⟨w6.heap.size, 0, none⟩ = some (.int .i64 k.1) := HK2.out.2.2.2.cell 0
                        have k_1 : w11.cell? ⟨w6.heap.size, 1, none⟩ = some (.int .i64 k.2.1) := HK2.out.2.2.2.cell 1
                        have k_2 : w11.cell? ⟨w6.heap.size, 2, none⟩ = some (.int .i64 k.2.2.1) := HK2.out.2.2.2.cell 2
                        have k_3 : w11.cell? ⟨w6.heap.size, 3, none⟩ = some (.int .i64 k.2.2.2) := HK2.out.2.2.2.cell 3
                        have d_0 : w11.cell? ⟨g11, 0, none⟩ = some (.int .i64 f.1) := HK2.out.2.1.cell 0
                        have d_1 : w11.cell? ⟨g11, 1, none⟩ = some (.int .i64 f.2.1) := HK2.out.2.1.cell 1
                        have d_2 : w11.cell? ⟨g11, 2, none⟩ = some (.int .i64 f.2.2.1) := HK2.out.2.1.cell 2
                        have d_3 : w11.cell? ⟨g11, 3, none⟩ = some (.int .i64 f.2.2.2) := HK2.out.2.1.cell 3
                        have fr0 := HK2.out.2.1.frozen 0
                        have fr1 := HK2.out.2.1.frozen 1
                        have fr2 := HK2.out.2.1.frozen 2
                        have fr3 := HK2.out.2.1.frozen 3
                        go_wp2_with fail
                        go_roundw
                        case rel => exact ⟨i + 1, k, l, by omega, by go_num, HR2, ⟨bd1, bd2⟩, hl, Lib.hid ((((HK2.out.2.1.set_ 0 _).set_ 1 _).set_ 2 _).set_ 3 _), Lib.hid ((((HK2.out.2.2.1.far hne.symm _).far hne.symm _).far hne.symm _).far hne.symm _), Lib.hid ((((HK2.out.1.far _ l11').far _ l11').far _ l11').far _ l11')⟩
                        case measure => simp [intOf]; omega
          · as_aux_lemma =>
            obtain rfl : i = 4 := by omega
            have HRR : Hid (segRun ax ay (cx - ax) (cy - ay) lx ly hx hy 4 0 (0, 1, ax, ay) (1, 1, cx, cy) = some (f, l)) := HR.out.symm
            clear HR
            have k_0 : wr.cell? ⟨g11, 0, none⟩ = some (.int .i64 f.1) := HB1.out.cell 0
            have k_1 : wr.cell? ⟨g11, 1, none⟩ = some (.int .i64 f.2.1) := HB1.out.cell 1
            have k_2 : wr.cell? ⟨g11, 2, none⟩ = some (.int .i64 f.2.2.1) := HB1.out.cell 2
            have k_3 : wr.cell? ⟨g11, 3, none⟩ = some (.int .i64 f.2.2.2) := HB1.out.cell 3
            have d_0 : wr.cell? ⟨g12, 0, none⟩ = some (.int .i64 l.1) := HB2.out.cell 0
            have d_1 : wr.cell? ⟨g12, 1, none⟩ = some (.int .i64 l.2.1) := HB2.out.cell 1
            have d_2 : wr.cell? ⟨g12, 2, none⟩ = some (.int .i64 l.2.2.1) := HB2.out.cell 2
            have d_3 : wr.cell? ⟨g12, 3, none⟩ = some (.int .i64 l.2.2.2) := HB2.out.cell 3
            go_wp2_with fail
            refine (less_any _ _ _ _ _ _ _ _ _ hf.1 hl.1 hf.2 hl.2).mono ?_
            rintro e w11 ⟨rfl, hs⟩
            have HE2 := Lib.hid (HE1.out.since hs)
            have HB3 := Lib.hid (hs.blk HB1.out)
            have HB4 := Lib.hid (hs.blk HB2.out)
            clear hs k_0 k_1 k_2 k_3 d_0 d_1 d_2 d_3 HE1 HB1 HB2
            cases hb : ltV f.1 f.2.1 l.1 l.2.1
            · have HN : Hid (segV ax ay cx cy lx ly hx hy = none) := by
                show _ = _
                rw [HF.out, if_pos True.intro, HRR.out]
                show (if ltV f.1 f.2.1 l.1 l.2.1 = true then some (f, l) else none) = none
                rw [hb]; rfl
              clear HF HRR
              have z30 := HE2.out.2.2.2.1.cell 0
              have z31 := HE2.out.2.2.2.1.cell 1
              have z40 := HE2.out.2.2.2.2.1.cell 0
              have z41 := HE2.out.2.2.2.2.1.cell 1
              have f30 := HE2.out.2.2.2.1.frozen 0
              have f31 := HE2.out.2.2.2.1.frozen 1
              have f40 := HE2.out.2.2.2.2.1.frozen 0
              have f41 := HE2.out.2.2.2.2.1.frozen 1
              simp only [List.getElem?_toArray, List.getElem?_cons_zero, List.getElem?_cons_succ] at z30 z31 z40 z41
              have hsz := HE2.out.2.2.2.2.2.size
              go_wp2
              refine bodyPost_ret (v := segVal none) (by simp [results, segVal, Try.results29, go_sem, cSetS, cSetO, z30, z31, z40, z41]) rfl ⟨by rw [HN.out], ?_⟩
              exact (((HE2.out.2.2.2.2.2.setCell (by dsimp only; omega) _).setCell (by dsimp only; omega) _).setCell (by dsimp only; omega) _).setCell (by dsimp only; omega) _
            · have HN : Hid (segV ax ay cx cy lx ly hx hy = some (f, l)) := by
                show _ = _
                rw [HF.out, if_pos True.intro, HRR.out]
                show (if ltV f.1 f.2.1 l.1 l.2.1 = true then some (f, l) else none) = some (f, l)
                rw [hb]; rfl
              clear HF HRR
              have k_0 : w11.cell? ⟨g11, 0, none⟩ = some (.int .i64 f.1) := HB3.out.cell 0
              have k_1 : w11.cell? ⟨g11, 1, none⟩ = some (.int .i64 f.2.1) := HB3.out.cell 1
              have k_2 : w11.cell? ⟨g11, 2, none⟩ = some (.int .i64 f.2.2.1) := HB3.out.cell 2
              have k_3 : w11.cell? ⟨g11, 3, none⟩ = some (.int .i64 f.2.2.2) := HB3.out.cell 3
              have d_0 : w11.cell? ⟨g12, 0, none⟩ = some (.int .i64 l.1) := HB4.out.cell 0
              have d_1 : w11.cell? ⟨g12, 1, none⟩ = some (.int .i64 l.2.1) := HB4.out.cell 1
              have d_2 : w11.cell? ⟨g12, 2, none⟩ = some (.int .i64 l.2.2.1) := HB4.out.cell 2
              have d_3 : w11.cell? ⟨g12, 3, none⟩ = some (.int .i64 l.2.2.2) := HB4.out.cell 3
              have z30 := HE2.out.2.2.2.1.cell 0
              have z31 := HE2.out.2.2.2.1.cell 1
              have z40 := HE2.out.2.2.2.2.1.cell 0
              have z41 := HE2.out.2.2.2.2.1.cell 1
              have f30 := HE2.out.2.2.2.1.frozen 0
              have f31 := HE2.out.2.2.2.1.frozen 1
              have f40 := HE2.out.2.2.2.2.1.frozen 0
              have f41 := HE2.out.2.2.2.2.1.frozen 1
              simp only [List.getElem?_toArray, List.getElem?_cons_zero, List.getElem?_cons_succ] at z30 z31 z40 z41
              have hsz := HE2.out.2.2.2.2.2.size
              have hlt := HE2.out.2.2.2.2.1.lt
              have hlt3 := HE2.out.2.2.2.1.lt
              go_wp2
              go_region_held3 (fun w' => w'.cell? ⟨g11, 0, none⟩ = some (.int .i64 f.1) ∧ w'.cell? ⟨g11, 2, none⟩ = some (.int .i64 f.2.2.1) ∧ w'.cell? ⟨g11, 3, none⟩ = some (.int .i64 f.2.2.2) ∧ w'.cell? ⟨g12, 0, none⟩ = some (.int .i64 l.1) ∧ w'.cell? ⟨g12, 1, none⟩ = some (.int .i64 l.2.1) ∧ w'.cell? ⟨g12, 2, none⟩ = some (.int .i64 l.2.2.1) ∧ w'.cell? ⟨g12, 3, none⟩ = some (.int .i64 l.2.2.2)) ((simp (maxDischargeDepth := 9) [*, World.cell?_alloc_some, cSetO, cellDrew])) (fail)
              rename_i hH
              obtain ⟨-, -, -, -, -, -, -⟩ := hH
              go_wp2
              refine bodyPost_ret (v := segVal (some (f, l))) (by simp [results, segVal, Try.results29, go_sem, cSetS, cSetO, cellDrew, z30, z31, z40, z41]) rfl ⟨by rw [HN.out], ?_⟩
              exact ((((HE2.out.2.2.2.2.2.setCell (by dsimp only; omega) _).setCell (by dsimp only; omega) _).setCell (by dsimp only; omega) _).setCell (by dsimp only; omega) _).drew

end Go.Proofs.Ytcckekdfeeghaaa
