/-
  The walk of HotExact. Conditions: the argument's list.
-/
import Derived.Test.YtdbknodifpmmoaaK19
namespace Go.Proofs.Ytdbknodifpmmoaa
set_option linter.unusedSimpArgs false
set_option linter.unusedVariables false
open Go.RowKit Go.BigFrame
attribute [local go_sem ↓] eqPt neqPt

theorem ints_more {w : World} {v : Value} {l : List Int} {B B' : Nat} (h : IntsB w v l B) (hB : B ≤ B') : IntsB w v l B' := by
  obtain ⟨a, c, hv, hc, hm, h⟩ := h
  refine ⟨a, c, hv, hc, hm, fun i hi => ?_⟩
  obtain ⟨g, o, ha, hg, hx⟩ := h i hi
  exact ⟨g, o, ha, by omega, hx⟩
/-- What lies of a slice of segments, block by block. -/
def SegsG (w : World) (v : Option Addr) (l : List Sg) (n G : Nat) : Prop :=
  0 < n → ∃ g, v = some ⟨g, 0, none⟩ ∧ G < g ∧ ∀ i, i < n → w.cell? ⟨g, i * 4, none⟩ = some (.int .i64 (sgAt l i).1.1) ∧ w.cell? ⟨g, i * 4 + 1, none⟩ = some (.int .i64 (sgAt l i).1.2) ∧ w.cell? ⟨g, i * 4 + 2, none⟩ = some (.int .i64 (sgAt l i).2.1) ∧ w.cell? ⟨g, i * 4 + 3, none⟩ = some (.int .i64 (sgAt l i).2.2)
/-- The state of the first loop. -/
structure ExS (w w' : World) (G k : Nat) (vs : Value) (m : List Sg) : Prop where
  only : Only G w w'
  blk : Blk w' G 23 #[vs]
  own : w'.ownsRow w.heap.size 27 4 vs (ysK m k).length ((ysK m k).flatMap sgV)
  nil : ysK m k = [] → vs = .slice none 0 0
theorem ExS.alloc {w w' : World} {G k : Nat} {vs : Value} {m : List Sg} (h : ExS w w' G k vs m) (o : Obj) : ExS w (w'.alloc o) G k vs m :=
  ⟨h.only.alloc o, h.blk.alloc o, own_since ((Since.rfl_ w').alloc o) h.own, h.nil⟩
theorem ExS.set {w w' : World} {G k : Nat} {vs : Value} {m : List Sg} (h : ExS w w' G k vs m) {p : Addr} (hp : G ≠ p.block) (hw : w.heap.size ≤ p.block) (hv : some p.block ≠ vs.ownBlock) (u : Value) : ExS w (w'.setCell p u) G k vs m :=
  ⟨h.only.setCell (.inr hw) u, h.blk.far hp u, own_far h.own hv u, h.nil⟩
theorem ExS.app {w w' w'' : World} {G k : Nat} {vs : Value} {m : List Sg} (h : ExS w w' G k vs m) (o : Obj) (hg : (w'.alloc o).grownBy w'' vs.ownBlock) : Only G w w'' := by
  have ho := h.only.alloc o
  refine ⟨hg.os.trans ho.os, hg.tape.trans ho.tape, hg.output.trans ho.output, Nat.le_trans ho.size hg.size, fun i hi hne => ?_⟩
  exact (hg.block i (Nat.lt_of_lt_of_le hi ho.size) (own_ne h.own hi)).trans (ho.block i hi hne)
theorem Chains_x (v : Value) (m : List Sg) (w : World) (hv : SegsN w v m) (hl : m.length ≤ 12) (hok : ∀ s ∈ m, SgOk s) (hax : ∀ s ∈ m, s.1.1 = s.2.1 ∨ s.1.2 = s.2.2) :
    Calls Try.prog 11 #[v] w fun e w' => ∃ g cs, e = .returned (.tuple #[.slice (some ⟨g, 0, none⟩) m.length m.length, .int .i64 0]) ∧ (∀ i, i < m.length → ∃ u, w'.cell? ⟨g, i, none⟩ = some u ∧ PtsS w' u (chAt cs i)) ∧ (∀ i, i < m.length → (chAt cs i).length ≤ 1000 ∧ ∀ j, j < (chAt cs i).length → onV (sgAt m i).1 (sgAt m i).2 (pAt (chAt cs i) j) = true) ∧ Since w w' := by
  by_cases hm : m = []
  · rw [hv.1 hm]
    refine (chains_nil w).mono ?_
    rintro e w' ⟨g, rfl, hs⟩
    rw [hm]
    exact ⟨g, [], rfl, fun i hi => absurd hi (Nat.not_lt_zero _), fun i hi => absurd hi (Nat.not_lt_zero _), hs⟩
  · have hcap := few_hot hl
    obtain ⟨N, hN⟩ := run_ex hm (by omega) hok hcap
    obtain ⟨hI, hW⟩ := cs0_inv hok
    have hit := iter_inv hI hW (N + 1)
    refine (chains_any v m w (hv.2 hm) (List.length_pos_iff.2 hm) (by omega) hok N hN).mono ?_
    rintro e w' ⟨g, rfl, hch, -, hs⟩
    have hlen : (iterC (N + 1) (cs0 m)).length = m.length := by rw [iterC_len]; simp [cs0]
    obtain ⟨g', c', hv', hx⟩ := hch
    injection hv' with h1 h2 h3
    injection h1 with h1
    injection h1 with h1
    subst h1
    refine ⟨g, _, rfl, fun i hi => hx i (by rw [hlen]; exact hi), fun i hi => ⟨?_, fun j hj => ?_⟩, hs⟩
    · have := ways_len hit.1 hit.2.1 _ (ch_mem.2 ⟨i, by rw [hlen]; exact hi, rfl⟩)
      have := hit.2.2
      omega
    · have hso := hok _ (sgAt_mem hi)
      refine onV_axis hso.1 hso.2.1 ?_ (axis_run hok hax (N + 1) i hi _ (pAt_mem hj))
      exact hit.1.ok _ (ch_mem.2 ⟨i, by rw [hlen]; exact hi, rfl⟩) _ (pAt_mem hj)
set_option maxRecDepth 100000 in
set_option maxHeartbeats 4000000 in
theorem Exact_walk (v : Value) (l : List Int) (w : World) (hi : IntsB w v l w.heap.size) (hlen : l.length ≤ 9223372036854775807) :
    Calls Try.prog 3 #[v] w fun e w' => e = .returned (.bool true) ∧ Since w w' := by
  have HSEG := Lib.hid (fun w' (hs : Since w w') (h : IntsB w' v l w'.heap.size) => Segs_any v l w' h hlen)
  obtain ⟨i0, hi0, hz0, hz1, hz3⟩ := info_parts infoSg
  have HI := Lib.hid hi0
  have HZ := Lib.hid (And.intro hz0 (And.intro hz1 hz3))
  clear hi0 hz0 hz1 hz3
  go_enter Try.func3, Try.ntmps3
  go_upto_region 2 with fail
  obtain ⟨G, HG⟩ : ∃ G, G = w.heap.size := ⟨_, rfl⟩
  rw [← HG]
  refine atW (fun w' => Hid (Since w w') ∧ Hid (Blk w' G 23 #[.slice none 0 0]) ∧ Hid (IntsB w' v l w'.heap.size)) ⟨(Since.rfl_ w).alloc _, Blk.new' HG, ints_more (hi.since ((Since.rfl_ w).alloc _)) (by simp)⟩ ?_
  have hGe : w.heap.size ≤ G := by omega
  clear HG hi
  rintro w1 ⟨HS1, HB1, HI1⟩
  have hG1 : G < w1.heap.size := HB1.out.lt
  go_wp2_with fail
  refine (HSEG.out w1 HS1.out HI1.out).mono ?_
  rintro e w2 ⟨x, rfl, ho, hs, -⟩
  obtain ⟨ax, cx, rfl⟩ := own_slice ho
  have HYS := Lib.hid (ys_ok l)
  obtain ⟨m, HMM⟩ : ∃ m, Hid (m = msegs l) := ⟨_, rfl⟩
  rw [← HMM.out] at ho HYS
  obtain ⟨n, HN⟩ : ∃ n, Hid (n = m.length) := ⟨_, rfl⟩
  have HSX : Hid (SegsG w2 ax m n G) := by
    show SegsG w2 ax m n G
    intro h
    obtain ⟨g, c, hv⟩ := own_some ho (by rw [← HN.out]; exact h)
    injection hv with hv1 hv2 hv3
    rw [hv1, hv3] at ho
    obtain ⟨hr, -, hb, -⟩ := RowG.own ho
    refine ⟨g, hv1, by omega, fun i hi => hr.cells (by rw [← HN.out]; exact hi)⟩
  have hS2 := HS1.out.trans hs
  have HS2 := Lib.hid hS2
  have hG2 : G < w2.heap.size := Nat.lt_of_lt_of_le hG1 hs.size
  have hm12 : n ≤ 12 := by rw [HN.out, HMM.out]; unfold msegs; rw [segsK_len]; omega
  have HE2 : Hid (ExS w2 w2 G 0 (.slice none 0 0) m) := ⟨(Since.rfl_ w2).only G, hs.blk HB1.out, World.ownsRow_nil _ _ _ _, fun _ => rfl⟩
  rw [← HMM.out, ← HN.out]
  clear ho hs HSEG HS1 HB1 HI1 hG1 hS2
  go_wp2_with fail
  go_loopw [14] (fun v14 wr => ∃ (k : Nat) (vs : Value), k ≤ n ∧ v14 = .int .i64 k ∧ Hid (ExS w2 wr G k vs m)) (fun v14 _ => n - (intOf v14).toNat)
  case atStart => exact ⟨0, _, by omega, by go_num, HE2⟩
  case round =>
    clear HE2
    obtain ⟨k, vs, hk, rfl, HE⟩ := hrel
    obtain ⟨ar, cr, rfl⟩ := own_slice HE.out.own
    rcases Nat.lt_or_ge k n with hlt | hge
    · have hz : decide ((k : Int) < (n : Int)) = true := by rw [decide_eq_true_eq]; omega
      obtain ⟨g, rfl, hgG, hce⟩ := HSX.out (by omega)
      obtain ⟨h1, h2, h3, h4⟩ := hce k hlt
      obtain ⟨s, hs⟩ : ∃ s, s = sgAt m k := ⟨_, rfl⟩
      rw [← hs] at h1 h2 h3 h4
      have HSU := ysK_succ m k
      rw [← hs] at HSU
      have HSU := Lib.hid HSU
      have h1 := keepOC HE.out.only _ _ (by simp; omega) h1
      have h2 := keepOC HE.out.only _ _ (by simp; omega) h2
      have h3 := keepOC HE.out.only _ _ (by simp; omega) h3
      have h4 := keepOC HE.out.only _ _ (by simp; omega) h4
      have i1 : (0 : Int) ≤ (k : Int) := by omega
      have i2 : (k : Int) < (n : Int) := by omega
      clear hs hce HSX
      go_upto_region 6 with fail
      obtain ⟨G5, HG5⟩ : ∃ G5, G5 = wr.heap.size := ⟨_, rfl⟩
      rw [← HG5]
      have hGw : G < wr.heap.size := HE.out.blk.lt
      have hsz := HE.out.only.size
      have hlt5 : ∀ g, (Value.slice ar (ysK m k).length cr).ownBlock = some g → g < G5 := fun g e => by have := (HE.out.own.lt g e).2; omega
      refine atW (fun w' => Hid (ExS w2 w' G k (.slice ar (ysK m k).length cr) m) ∧ Blk w' G5 27 #[.int .i64 s.1.1, .int .i64 s.1.2, .int .i64 s.2.1, .int .i64 s.2.2] ∧ Blk w' (G5 + 1) 27 #[.int .i64 s.1.1, .int .i64 s.1.2, .int .i64 s.2.1, .int .i64 s.1.2]) ⟨(HE.out.alloc _).alloc _, (Blk.new' HG5).alloc _, Blk.new' (by simp [HG5])⟩ ?_
      have hG5 : w2.heap.size ≤ G5 := by omega
      have hGG : G < G5 := by omega
      have hng : some (G5 + 1) ≠ (Value.slice ar (ysK m k).length cr).ownBlock := fun e => by have := hlt5 _ e.symm; omega
      have hw5 : w2.heap.size ≤ G5 + 1 := by omega
      have hg5 : G ≠ G5 + 1 := by omega
      clear HE HG5 hGw hsz h1 h2 h3 h4 hlt5
      rintro w3 ⟨HE3, hb5, hb6⟩
      have a_0 := hb5.cell 0
      have a_1 := hb5.cell 1
      have a_2 := hb5.cell 2
      have a_3 := hb5.cell 3
      simp only [List.getElem?_toArray, List.getElem?_cons_zero, List.getElem?_cons_succ] at a_0 a_1 a_2 a_3
      have b_0 := hb6.cell 0
      have b_1 := hb6.cell 1
      have b_2 := hb6.cell 2
      have b_3 := hb6.cell 3
      simp only [List.getElem?_toArray, List.getElem?_cons_zero, List.getElem?_cons_succ] at b_0 b_1 b_2 b_3
      have f0 := hb6.frozen 0
      have f1 := hb6.frozen 1
      have f2 := hb6.frozen 2
      have f3 := hb6.frozen 3
      have HB6 := Lib.hid hb6
      clear hb5 hb6
      obtain ⟨y, HY⟩ : ∃ y : Sg, Hid (y = yOf k s) := ⟨_, rfl⟩
      go_upto_if 31 with fail
      go_cut [] from 15 to 51 (fun w' => Hid (ExS w2 w' G k (.slice ar (ysK m k).length cr) m) ∧ Hid (Blk w' (G5 + 1) 27 #[.int .i64 y.1.1, .int .i64 y.1.2, .int .i64 y.2.1, .int .i64 y.2.2]))
      case first =>
        by_cases hpar : k % 2 = 1
        · have hp1 : ((k : Int) % 2 == 1) = true := by rw [beq_iff_eq]; omega
          have hp2 : ((k : Int).tmod 2 == 1) = true := by rw [beq_iff_eq, Int.tmod_eq_emod_of_nonneg (by omega)]; omega
          have HY2 : Hid (y = (s.1, (s.1.1, s.2.2))) := by show _ = _; rw [HY.out]; unfold yOf; rw [if_pos hpar]
          clear hpar HY
          go_wp2_with fail
          go_meet
          refine ⟨(((HE3.out.set (p := ⟨G5 + 1, 0, none⟩) hg5 hw5 hng _).set (p := ⟨G5 + 1, 1, none⟩) hg5 hw5 hng _).set (p := ⟨G5 + 1, 2, none⟩) hg5 hw5 hng _).set (p := ⟨G5 + 1, 3, none⟩) hg5 hw5 hng _, ?_⟩
          show Blk _ _ _ _
          rw [HY2.out]
          exact (((HB6.out.set_ 0 (.int .i64 s.1.1)).set_ 1 (.int .i64 s.1.2)).set_ 2 (.int .i64 s.1.1)).set_ 3 (.int .i64 s.2.2)
        · have hp1 : ((k : Int) % 2 == 1) = false := by rw [beq_eq_false_iff_ne]; omega
          have hp2 : ((k : Int).tmod 2 == 1) = false := by rw [beq_eq_false_iff_ne, Int.tmod_eq_emod_of_nonneg (by omega)]; omega
          have HY2 : Hid (y = (s.1, (s.2.1, s.1.2))) := by show _ = _; rw [HY.out]; unfold yOf; rw [if_neg hpar]
          clear hpar HY
          go_wp2_with fail
          go_meet
          refine ⟨HE3.out, ?_⟩
          show Blk _ _ _ _
          rw [HY2.out]
          exact HB6.out
      case rest =>
        clear HE3 HB6 a_0 a_1 a_2 a_3 b_0 b_1 b_2 b_3 f0 f1 f2 f3
        obtain ⟨HE4, HB4⟩ := hcut
        obtain ⟨w4, rfl⟩ : ∃ w4, w4 = wc := ⟨_, rfl⟩
        have hb4 := HB4.out
        have b_0 := hb4.cell 0
        have b_1 := hb4.cell 1
        have b_2 := hb4.cell 2
        have b_3 := hb4.cell 3
        simp only [List.getElem?_toArray, List.getElem?_cons_zero, List.getElem?_cons_succ] at b_0 b_1 b_2 b_3
        have g_0 := HE4.out.blk.cell 0
        have g_f := HE4.out.blk.frozen 0
        simp only [List.getElem?_toArray, List.getElem?_cons_zero, List.getElem?_cons_succ] at g_0
        clear hb4 HB4
        by_cases hq : y.1 = y.2
        · have q1 : (y.1.1 == y.2.1 && y.1.2 == y.2.2) = true := by rw [hq]; simp
          have HL : Hid (ysK m (k + 1) = ysK m k) := by show _ = _; rw [HSU.out, ← HY.out, if_pos hq, List.append_nil]
          clear hq HY HSU
          go_wp2_with fail
          go_roundw
          case rel => exact ⟨k + 1, _, by omega, by go_num, ⟨HE4.out.only, HE4.out.blk, by rw [HL.out]; exact HE4.out.own, by rw [HL.out]; exact HE4.out.nil⟩⟩
          case measure => simp [intOf]; omega
        · have q1 : (y.1.1 == y.2.1 && y.1.2 == y.2.2) = false := by
            rw [Bool.eq_false_iff]; intro h; rw [Bool.and_eq_true, beq_iff_eq, beq_iff_eq] at h; exact hq (Prod.ext h.1 h.2)
          have HL : Hid (ysK m (k + 1) = ysK m k ++ [y]) := by show _ = _; rw [HSU.out, ← HY.out, if_neg hq]
          clear hq HY HSU
          go_wp2_with (at_builtin; refine wpList_append_own _ rfl _ _ 23 rfl w2.heap.size 27 i0 _ 4 32 Try.underlying23 HI.out HZ.out.1 HZ.out.2.1 HZ.out.2.2 rfl (by decide) _ _ _ rfl (own_since ((Since.rfl_ w4).alloc _) HE4.out.own) _ _ _ [.int .i64 y.1.1, .int .i64 y.1.2, .int .i64 y.2.1, .int .i64 y.2.2] rfl rfl (cell4_new _ _ _ _ _ _) (one4 _ _ _ _ _ _ _ _) (by have := ysK_len m k; unfold maxLen; omega) (by have := ysK_len m k; omega) (by simp only [World.size_alloc]; have := HE4.out.only.size; omega) ?_)
          intro v' w' hown hgrow _
          obtain ⟨av, cv, rfl⟩ := own_slice hown
          have hA := (Since.rfl_ w4).alloc (.cells #[.int .i64 y.1.1, .int .i64 y.1.2, .int .i64 y.2.1, .int .i64 y.2.2] 27)
          have hoA := own_since hA HE4.out.own
          have hbG := (hA.blk HE4.out.blk).grown hgrow (own_ne hoA hG2)
          have hon := HE4.out.app _ hgrow
          have HW := Lib.hid (And.intro hown (And.intro hbG hon))
          have g_0 := hbG.cell 0
          have g_f := hbG.frozen 0
          simp only [List.getElem?_toArray, List.getElem?_cons_zero, List.getElem?_cons_succ] at g_0
          clear hown hgrow hA hoA hbG hon HE4 b_0 b_1 b_2 b_3
          go_wp2_with fail
          go_roundw
          case rel =>
            refine ⟨k + 1, _, by omega, by go_num, ⟨HW.out.2.2.setCell (.inl rfl) _, HW.out.2.1.set_ 0 _, ?_, fun h => ?_⟩⟩
            · rw [HL.out, List.length_append, List.flatMap_append]
              exact own_far (p := ⟨G, 0, none⟩) (by simpa [sgV] using HW.out.1) (own_ne HW.out.1 hG2) _
            · rw [HL.out] at h
              exact absurd h (by simp)
          case measure => simp [intOf]; omega
    · obtain rfl : k = n := by omega
      have hz : decide ((k : Int) < (k : Int)) = false := by rw [decide_eq_false_iff_not]; omega
      rw [← HN.out] at HYS
      obtain ⟨Y, HYD⟩ : ∃ Y, Hid (Y = ysK m k) := ⟨_, rfl⟩
      have hYl : Y.length ≤ 12 := by rw [HYD.out]; have := ysK_len m k; omega
      have hsn : SegsN wr (.slice ar (ysK m k).length cr) (ysK m k) := own_segsN HE.out.own HE.out.nil
      rw [← HYD.out] at HYS hsn
      have HCH := Lib.hid (Chains_x _ Y wr hsn hYl HYS.out.1 HYS.out.2)
      have HSN := Lib.hid hsn
      have hbk := HE.out.blk
      rw [← HYD.out] at hbk
      have HBK := Lib.hid hbk
      have HSW := Lib.hid (Only.since HS2.out HE.out.only hGe)
      have g_0 := hbk.cell 0
      simp only [List.getElem?_toArray, List.getElem?_cons_zero, List.getElem?_cons_succ] at g_0
      obtain ⟨ny, HNY⟩ : ∃ ny, Hid (ny = Y.length) := ⟨_, rfl⟩
      have hny : ny ≤ 12 := by rw [HNY.out]; exact hYl
      rw [← HNY.out] at HCH HSN HBK g_0
      clear hsn hbk HE HSX
      go_wp2_with fail
      refine (HCH.out).mono ?_
      rintro e w5 ⟨g5, cs, rfl, hc1, hc2, hs⟩
      have HC1 := Lib.hid hc1
      have HC2 := Lib.hid hc2
      have HS5 := Lib.hid (HSW.out.trans hs)
      have HSN5 := Lib.hid (HSN.out.since hs)
      have HBK5 := Lib.hid (hs.blk HBK.out)
      clear hc1 hc2 hs HCH HSN HBK HSW g_0
      go_wp2_with fail
      refine (rounds_any _).mono ?_
      rintro e w6 ⟨rfl, hs⟩
      have HC6 : Hid (∀ i, i < ny → ∃ u, w6.cell? ⟨g5, i, none⟩ = some u ∧ PtsS w6 u (chAt cs i)) := fun i hi => by
        obtain ⟨u, h1, h2⟩ := HC1.out i hi
        exact ⟨u, keepC hs _ _ h1, h2.since hs⟩
      have HS6 := Lib.hid (HS5.out.trans hs)
      have HSN6 := Lib.hid (HSN5.out.since hs)
      have HBK6 := Lib.hid (hs.blk HBK5.out)
      have g_0 := HBK6.out.cell 0
      simp only [List.getElem?_toArray, List.getElem?_cons_zero, List.getElem?_cons_succ] at g_0
      clear hs HC1 HS5 HSN5 HBK5
      go_wp2_with fail
      clear g_0
      obtain ⟨wz, rfl⟩ : ∃ wz, wz = wr := ⟨_, rfl⟩
      go_loopw [72] (fun v72 wr => ∃ j : Nat, j ≤ ny ∧ v72 = .int .i64 j ∧ Hid (Since w6 wr)) (fun v72 _ => ny - (intOf v72).toNat)
      case atStart => exact ⟨0, by omega, by go_num, Since.rfl_ w6⟩
      case round =>
        obtain ⟨j, hj, rfl, HR⟩ := hrel
        rcases Nat.lt_or_ge j ny with hlt2 | hge2
        · have hz2 : decide ((j : Int) < (ny : Int)) = true := by rw [decide_eq_true_eq]; omega
          obtain ⟨u, hu, hpu⟩ := HC6.out j hlt2
          have hu := keepC HR.out _ _ hu
          obtain ⟨hc1, hc2⟩ := HC2.out j hlt2
          have hYne : Y ≠ [] := fun h => by rw [HNY.out, h] at hlt2; exact absurd hlt2 (Nat.not_lt_zero _)
          have j1 : (0 : Int) ≤ (j : Int) := by omega
          have j2 : (j : Int) < (ny : Int) := by omega
          have HPU := Lib.hid (hpu.since HR.out)
          obtain ⟨au, cu, rfl, -⟩ := hpu
          have HCF := Lib.hid (fun w' gi (hs : Since w6 w') (ki : Blk w' gi 3 #[.int .i64 j]) (hp : PtsS w' (.slice au (chAt cs j).length cu) (chAt cs j)) =>
            ContainsEx_any _ (chAt cs j) G gi w' (by omega) hp (fun i hi w'' hs' => Ex1_any (l := Y) (i := j) (by rw [← HNY.out]; exact hlt2) (by omega) (pAt (chAt cs j) i) _ G gi w'' ((hs.trans hs').blk HBK6.out) (hs'.blk ki) ((by have := (HSN6.out.since (hs.trans hs')).2 hYne; exact this)) (hc2 i hi)))
          obtain ⟨nc, HNC⟩ : ∃ nc, Hid (nc = (chAt cs j).length) := ⟨_, rfl⟩
          rw [← HNC.out] at HCF HPU hu
          clear hc1 hc2
          go_upto_region 17 with fail
          obtain ⟨G9, HG9⟩ : ∃ G9, G9 = wr.heap.size := ⟨_, rfl⟩
          rw [← HG9]
          refine atW (fun w' => Hid (Since w6 w') ∧ Hid (Blk w' G9 3 #[.int .i64 j]) ∧ Hid (PtsS w' (.slice au nc cu) (chAt cs j))) ⟨HR.out.alloc _, Blk.new' HG9, HPU.out.since ((Since.rfl_ wr).alloc _)⟩ ?_
          clear HR HG9 HPU hu
          rintro w7 ⟨HS7, HB7, HP7⟩
          have HCC := Lib.hid (HCF.out w7 G9 HS7.out HB7.out HP7.out)
          clear HCF
          go_wp2_with fail
          refine (HCC.out).mono ?_
          rintro e w8 ⟨rfl, hs⟩
          have HS8 := Lib.hid (HS7.out.trans hs)
          clear hs HS7 HB7 HP7 HCC
          go_wp2_with fail
          go_roundw
          case rel => exact ⟨j + 1, by omega, by go_num, HS8⟩
          case measure => simp [intOf]; omega
        · obtain rfl : j = ny := by omega
          have hz2 : decide ((j : Int) < (j : Int)) = false := by rw [decide_eq_false_iff_not]; omega
          have HSE := Lib.hid (HS6.out.trans HR.out)
          go_wp2_with fail
          go_ret
          exact ⟨rfl, HSE.out⟩
theorem Exact_walkL (v : Value) (l : List Int) (w : World) (hi : IntsB w v l w.heap.size) :
    Calls Try.prog 3 #[v] w fun e w' => e = .returned (.bool true) ∧ Since w w' := Exact_walk v l w hi (ints_len hi)
end Go.Proofs.Ytdbknodifpmmoaa
