/-
  The walk of slices.MinFunc with terrref3.byPoint. Conditions: bounds of the numbers.
-/
import Derived.Test.YtcckekdfeeghaaaHullD
namespace Go.Proofs.Ytcckekdfeeghaaa
set_option linter.unusedSimpArgs false
set_option linter.unusedVariables false
open Go.RowKit Go.BigFrame
attribute [local go_sem ↓] eqPt neqPt

theorem Blk.mine {w : World} {g : Nat} {p q : Pt2} (h : Blk w g 23 #[.int .i64 p.1, .int .i64 p.2]) : Blk ((w.setCell ⟨g, 0, none⟩ (.int .i64 q.1)).setCell ⟨g, 1, none⟩ (.int .i64 q.2)) g 23 #[.int .i64 q.1, .int .i64 q.2] := Blk.pair h
set_option maxRecDepth 100000 in
set_option maxHeartbeats 4000000 in
theorem Min_any (v : Value) (l : List Pt2) (w : World) (hv : PtsS w v l) (hne : 0 < l.length) (hl : l.length ≤ 1000000000000) :
    Calls Try.prog 88 #[v, .func (Fn.func 89) #[] #[]] w fun e w' => ∃ m : Pt2, e = .returned (.agg #[.int .i64 m.1, .int .i64 m.2]) ∧ (m ∈ l ∧ ∀ x ∈ l, ¬ lx x m) ∧ Since w w' := by
  obtain ⟨a, c, rfl, hv⟩ := hv
  have HV := Lib.hid hv
  clear hv
  obtain ⟨g, o, ha, e0, e1⟩ := HV.out 0 hne
  subst ha
  have hz1 : decide ((l.length : Int) < 1) = false := by rw [decide_eq_false_iff_not]; omega
  have hlt0 : (0 : Int) < (l.length : Int) := by omega
  simp only [Nat.zero_mul, Nat.add_zero] at e0 e1
  go_enter Try.func88, Try.ntmps88
  have gl : g < w.heap.size := World.block_lt_of_cell? w _ e0
  have gne : ¬ w.heap.size = g := by omega
  go_wp2_with fail
  refine atW (fun w' => Since w w' ∧ Blk w' w.heap.size 23 #[.int .i64 0, .int .i64 0] ∧ Blk w' (w.heap.size + 1) 23 #[.int .i64 (pAt l 0).1, .int .i64 (pAt l 0).2]) ⟨((Since.rfl_ w).alloc _).alloc _, (Blk.new _ _ _).alloc _, Blk.new' (by simp)⟩ ?_
  rintro w1 ⟨hs, hb, hm⟩
  have HW := Lib.hid (And.intro hs (And.intro hb hm))
  clear hs hb hm e0 e1
  go_loopw [6] (fun v wr => ∃ (k : Nat) (m : Pt2), 1 ≤ k ∧ k ≤ l.length ∧ v = .int .i64 k ∧ Hid (m ∈ l ∧ ∀ i, i < k → ¬ lx (pAt l i) m) ∧ Hid (Since w wr ∧ Blk wr w.heap.size 23 #[.int .i64 0, .int .i64 0] ∧ Blk wr (w.heap.size + 1) 23 #[.int .i64 m.1, .int .i64 m.2])) (fun v _ => l.length - (intOf v).toNat)
  case atStart => exact ⟨1, pAt l 0, by omega, by omega, rfl, ⟨pAt_mem hne, fun i hi => by rw [show i = 0 by omega]; exact lx_irr _⟩, HW⟩
  case round =>
    clear HW
    obtain ⟨k, m, hk1, hk, rfl, HG, HW⟩ := hrel
    rcases Nat.lt_or_ge k l.length with hlt | hge
    · have hz : decide ((k : Int) < (l.length : Int)) = true := by rw [decide_eq_true_eq]; omega
      obtain ⟨g', o', ha, c0, c1⟩ := HV.out k hlt
      injection ha with ha
      injection ha with hg' ho'
      subst hg' ho'
      replace c0 := keepC HW.out.1 _ _ c0
      replace c1 := keepC HW.out.1 _ _ c1
      obtain ⟨q, HQ⟩ : ∃ q : Pt2, Hid (q = pAt l k) := ⟨_, rfl⟩
      rw [← HQ.out] at c0 c1
      have m0 : wr.cell? ⟨w.heap.size + 1, 0, none⟩ = some (.int .i64 m.1) := HW.out.2.2.cell 0
      have m1 : wr.cell? ⟨w.heap.size + 1, 1, none⟩ = some (.int .i64 m.2) := HW.out.2.2.cell 1
      have j0 : (0 : Int) ≤ (k : Int) := by omega
      have j1 : (k : Int) < (l.length : Int) := by omega
      go_upto_region 7 with fail
      go_cut [27] from 14 to 31 (fun v27 w' => v27 = .bool (lxB q m) ∧ Since wr w')
      case first =>
        go_region_held3 (fun w' => w'.cell? ⟨g, o + k * 2, none⟩ = some (.int .i64 q.1) ∧ w'.cell? ⟨g, o + k * 2 + 1, none⟩ = some (.int .i64 q.2) ∧ w'.cell? ⟨w.heap.size + 1, 0, none⟩ = some (.int .i64 m.1) ∧ w'.cell? ⟨w.heap.size + 1, 1, none⟩ = some (.int .i64 m.2)) ((simp (maxDischargeDepth := 9) [*, World.cell?_alloc_some, cSetO, cellDrew])) (first
          | (go_at_call 89; (with_reducible refine (byPoint_any q m _).mono ?_); rintro e w5 ⟨r, rfl, hr, hs⟩; have HR := Lib.hid hr; have HS := Lib.hid (Since.trans (Since.rfl_ wr).drew hs); have c0 := keepC HS.out _ _ c0; have c1 := keepC HS.out _ _ c1; have m0 := keepC HS.out _ _ m0; have m1 := keepC HS.out _ _ m1; clear hr hs))
        all_goals
          go_wp2_with fail
          go_meet
          exact ⟨by rw [HR.out], HS.out⟩
      case rest =>
        obtain ⟨rfl, hs⟩ := hcut
        obtain ⟨w3, rfl⟩ : ∃ w3, w3 = wc := ⟨_, rfl⟩
        have HW3 : Hid (Since w w3 ∧ Blk w3 w.heap.size 23 #[.int .i64 0, .int .i64 0] ∧ Blk w3 (w.heap.size + 1) 23 #[.int .i64 m.1, .int .i64 m.2]) := ⟨HW.out.1.trans hs, hs.blk HW.out.2.1, hs.blk HW.out.2.2⟩
        replace c0 := keepC hs _ _ c0
        replace c1 := keepC hs _ _ c1
        clear hs HW m0 m1
        cases ht : lxB q m
        · have HG2 : Hid (m ∈ l ∧ ∀ i, i < k + 1 → ¬ lx (pAt l i) m) := ⟨HG.out.1, fun i hi => by
            rcases Nat.lt_succ_iff_lt_or_eq.1 hi with h | h
            · exact HG.out.2 i h
            · rw [h, ← HQ.out, ← lxB_iff, ht]; simp⟩
          go_wp2_with fail
          go_roundw
          case rel => exact ⟨k + 1, m, by omega, by omega, by go_num, HG2, HW3⟩
          case measure => simp [intOf]; omega
        · have HG2 : Hid (q ∈ l ∧ ∀ i, i < k + 1 → ¬ lx (pAt l i) q) := ⟨by rw [HQ.out]; exact pAt_mem hlt, fun i hi h => by
            rcases Nat.lt_succ_iff_lt_or_eq.1 hi with g | g
            · exact HG.out.2 i g (lx_trans h (lxB_iff.1 ht))
            · rw [g, ← HQ.out] at h; exact lx_irr _ h⟩
          have m0 : w3.cell? ⟨w.heap.size + 1, 0, none⟩ = some (.int .i64 m.1) := HW3.out.2.2.cell 0
          have m1 : w3.cell? ⟨w.heap.size + 1, 1, none⟩ = some (.int .i64 m.2) := HW3.out.2.2.cell 1
          have f0 := HW3.out.2.2.frozen 0
          have f1 := HW3.out.2.2.frozen 1
          have HW4 : Hid (Since w ((w3.setCell ⟨w.heap.size + 1, 0, none⟩ (.int .i64 q.1)).setCell ⟨w.heap.size + 1, 1, none⟩ (.int .i64 q.2)) ∧ Blk ((w3.setCell ⟨w.heap.size + 1, 0, none⟩ (.int .i64 q.1)).setCell ⟨w.heap.size + 1, 1, none⟩ (.int .i64 q.2)) w.heap.size 23 #[.int .i64 0, .int .i64 0] ∧ Blk ((w3.setCell ⟨w.heap.size + 1, 0, none⟩ (.int .i64 q.1)).setCell ⟨w.heap.size + 1, 1, none⟩ (.int .i64 q.2)) (w.heap.size + 1) 23 #[.int .i64 q.1, .int .i64 q.2]) :=
            ⟨(HW3.out.1.setCell (by dsimp only; omega) _).setCell (by dsimp only; omega) _, (HW3.out.2.1.far (by dsimp only; omega) _).far (by dsimp only; omega) _, Blk.mine HW3.out.2.2⟩
          go_wp2_with fail
          go_roundw
          case rel => exact ⟨k + 1, q, by omega, by omega, by go_num, HG2, HW4⟩
          case measure => simp [intOf]; omega
    · have hz : decide ((k : Int) < (l.length : Int)) = false := by rw [decide_eq_false_iff_not]; omega
      have m0 : wr.cell? ⟨w.heap.size + 1, 0, none⟩ = some (.int .i64 m.1) := HW.out.2.2.cell 0
      have m1 : wr.cell? ⟨w.heap.size + 1, 1, none⟩ = some (.int .i64 m.2) := HW.out.2.2.cell 1
      have z0 : wr.cell? ⟨w.heap.size, 0, none⟩ = some (.int .i64 0) := HW.out.2.1.cell 0
      have z1 : wr.cell? ⟨w.heap.size, 1, none⟩ = some (.int .i64 0) := HW.out.2.1.cell 1
      have f0 := HW.out.2.1.frozen 0
      have f1 := HW.out.2.1.frozen 1
      have HM : Hid (m ∈ l ∧ ∀ x ∈ l, ¬ lx x m) := ⟨HG.out.1, fun x hx => by
        obtain ⟨i, hi, rfl⟩ := mem_pAt hx
        exact HG.out.2 i (by omega)⟩
      go_wp2_with fail
      refine bodyPost_ret (v := .agg #[.int .i64 m.1, .int .i64 m.2]) (by simp [results, Try.results88, go_sem, cSetS, cSetO, z0, z1]) rfl ⟨m, rfl, HM.out, (HW.out.1.setCell (Nat.le_refl _) _).setCell (Nat.le_refl _) _⟩
end Go.Proofs.Ytcckekdfeeghaaa
