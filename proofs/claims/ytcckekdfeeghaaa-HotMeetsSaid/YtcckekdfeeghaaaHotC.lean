/-
  The walk of hot.Meets. Conditions: none.
-/
import Derived.Test.YtcckekdfeeghaaaHotB
namespace Go.Proofs.Ytcckekdfeeghaaa
set_option linter.unusedSimpArgs false
set_option linter.unusedVariables false
open Go.RowKit Go.BigFrame

set_option maxRecDepth 100000 in
theorem Meets_any (ax ay bx by_ px py : Int) (w : World) :
    Calls Try.prog 13 #[.agg #[.int .i64 ax, .int .i64 ay], .agg #[.int .i64 bx, .int .i64 by_], .agg #[.int .i64 px, .int .i64 py]] w fun e w' =>
      e = .returned (.bool (meetsV (clampI ax) (clampI ay) (clampI bx) (clampI by_) (clampI px) (clampI py))) ∧ Since w w' := by
  have q1 := clampI_bd ax
  have q2 := clampI_bd ay
  have q3 := clampI_bd bx
  have q4 := clampI_bd by_
  have q5 := clampI_bd px
  have q6 := clampI_bd py
  go_enter Try.func13, Try.ntmps13
  go_wp2
  refine region_tail 6 (fun w' => w'.cell? ⟨w.heap.size, 0, none⟩ = some (.int .i64 ax) ∧ w'.cell? ⟨w.heap.size, 1, none⟩ = some (.int .i64 ay) ∧ w'.cell? ⟨w.heap.size + 1, 0, none⟩ = some (.int .i64 bx) ∧ w'.cell? ⟨w.heap.size + 1, 1, none⟩ = some (.int .i64 by_) ∧ w'.cell? ⟨w.heap.size + 1 + 1, 0, none⟩ = some (.int .i64 px) ∧ w'.cell? ⟨w.heap.size + 1 + 1, 1, none⟩ = some (.int .i64 py) ∧ Since (((w.alloc (.cells #[.int .i64 ax, .int .i64 ay] 23)).alloc (.cells #[.int .i64 bx, .int .i64 by_] 23)).alloc (.cells #[.int .i64 px, .int .i64 py] 23)) w') (by kernel_rfl) (by kernel_rfl) (by (repeat' refine And.intro ?_ ?_) <;> first | (simp (maxDischargeDepth := 9) [ cSetS, cSetO, cellNew, World.cell?_alloc_some, cellDrew]; done) | (repeat (first | with_reducible assumption | with_reducible exact Since.rfl_ _ | refine Since.setCell ?_ (by (try dsimp only); omega) _ | refine Since.alloc ?_ _ | refine Since.drew ?_))) ?_
  simp only [List.take_succ_cons, List.take_zero, List.drop_succ_cons, List.drop_zero]
  repeat (go_big_quiet_step ((first | (intro hC; go_at_call 55; refine (Clamp_any _ _ _).mono ?_; rintro e w' ⟨rfl, hb⟩; refine ⟨rfl, ?_⟩; have k1 := keepC hb; have k2 := keepS hb; have hC := hC.out; (try dsimp only at hC); simp [Cls, hC, k1, k2]) | (intro hC; have hC := hC.out; (try simp only [hC, Result.andThen]); first | exact ⟨True.intro, rfl⟩ | exact ⟨rfl, rfl⟩ | rfl))))
  refine tail_end ?_
  rintro w1 ⟨-, -, -, -, -, -, hs⟩
  have hA := hs.blk (((Blk.new w _ _).alloc _).alloc _)
  have hB := hs.blk ((Blk.new (w.alloc _) _ _).alloc _)
  have hP := hs.blk (Blk.new ((w.alloc _).alloc _) _ _)
  simp only [World.size_alloc] at hB hP
  have hsw : Since w w1 := ((((Since.rfl_ w).alloc _).alloc _).alloc _).trans hs
  have a0 := hA.cell 0
  have a1 := hA.cell 1
  have b0 := hB.cell 0
  have b1 := hB.cell 1
  have p0 := hP.cell 0
  have p1 := hP.cell 1
  have fa0 := hA.frozen 0
  have fa1 := hA.frozen 1
  have fb0 := hB.frozen 0
  have fb1 := hB.frozen 1
  have fp0 := hP.frozen 0
  have fp1 := hP.frozen 1
  simp only [List.getElem?_toArray, List.getElem?_cons_zero, List.getElem?_cons_succ] at a0 a1 b0 b1 p0 p1
  have hsz := hsw.size
  have hlP := hP.lt
  have HSW := Lib.hid hsw
  clear hs hsw hA hB hP
  have hsw0 := HSW.out
  iterate 5 (go_step; go_simp)
  generalize hW : World.setCell _ _ _ = w2
  have hF : w2.cell? ⟨w.heap.size, 0, none⟩ = some (.int .i64 (clampI ax)) ∧ w2.cell? ⟨w.heap.size, 1, none⟩ = some (.int .i64 (clampI ay)) ∧ w2.cell? ⟨w.heap.size + 1, 0, none⟩ = some (.int .i64 (clampI bx)) ∧ w2.cell? ⟨w.heap.size + 1, 1, none⟩ = some (.int .i64 (clampI by_)) ∧ w2.cell? ⟨w.heap.size + 1 + 1, 0, none⟩ = some (.int .i64 (clampI px)) ∧ w2.cell? ⟨w.heap.size + 1 + 1, 1, none⟩ = some (.int .i64 (clampI py)) ∧ w.heap.size + 1 + 1 < w2.heap.size ∧ Since w w2 := by
    subst hW
    exact (by (repeat' refine And.intro ?_ ?_) <;> first | (simp (maxDischargeDepth := 9) [a0, a1, b0, b1, p0, p1, hlP, hsw0,  cSetS, cSetO, cellNew, World.cell?_alloc_some, cellDrew]; done) | (repeat (first | with_reducible assumption | with_reducible exact Since.rfl_ _ | refine Since.setCell ?_ (by (try dsimp only); omega) _ | refine Since.alloc ?_ _ | refine Since.drew ?_)))
  clear hW
  clear a0 a1 b0 b1 p0 p1 fa0 fa1 fb0 fb1 fp0 fp1 hsw0 HSW
  obtain ⟨a0, a1, b0, b1, p0, p1, hl2, hs2⟩ := hF
  have la : w.heap.size < w2.heap.size := by omega
  have lb : w.heap.size + 1 < w2.heap.size := by omega
  go_wp2_with fail
  have F1 : (2 * (clampI ax - clampI px) + 1) = 2 * (clampI ax - clampI px) + 1 := rfl
  refine (cut_any _ (0, 1, true) (1, 1, true) _ _ _ (Blk.new _ _ _) (by omega) (by omega)).mono ?_
  rintro e w3 ⟨rfl, hb3, ho3⟩
  have k3 := newC ho3
  have HS3 := Lib.hid (hs2.trans (newS ho3))
  replace a0 := k3 _ _ a0
  replace a1 := k3 _ _ a1
  replace b0 := k3 _ _ b0
  replace b1 := k3 _ _ b1
  replace p0 := k3 _ _ p0
  replace p1 := k3 _ _ p1
  have HB3 := Lib.hid hb3
  clear k3 ho3 hs2 hb3 F1
  cases hk1 : cutOk (2 * (clampI ax - clampI px) + 1) (2 * (clampI bx - clampI ax))
  · go_wp2
    go_ret
    exact ⟨ret_bool (by unfold meetsV; rw [hk1]; rfl), HS3.out⟩
  · have HK1 := Lib.hid hk1
    clear hk1
    go_wp2_with fail
    refine (cut_any _ _ _ _ _ _ HB3.out (by omega) (by omega)).mono ?_
    rintro e w4 ⟨rfl, hb4, ho4⟩
    have HS4 := Lib.hid (ho4.since HS3.out (by omega))
    have HB4 := Lib.hid hb4
    clear ho4 hb4 HB3 HS3 a0 a1 b0 b1 p0 p1
    cases hk2 : cutOk (2 * (clampI ay - clampI py) + 1) (2 * (clampI by_ - clampI ay))
    · go_wp2
      go_ret
      exact ⟨ret_bool (by unfold meetsV; rw [HK1.out, hk2]; rfl), HS4.out⟩
    · have HK2 := Lib.hid hk2
      clear hk2
      obtain ⟨lo, hlo⟩ : ∃ lo, lo = meetsLo (2 * (clampI ax - clampI px) + 1) (2 * (clampI bx - clampI ax)) (2 * (clampI ay - clampI py) + 1) (2 * (clampI by_ - clampI ay)) := ⟨_, rfl⟩
      obtain ⟨hi, hhi⟩ : ∃ hi, hi = meetsHi (2 * (clampI ax - clampI px) + 1) (2 * (clampI bx - clampI ax)) (2 * (clampI ay - clampI py) + 1) (2 * (clampI by_ - clampI ay)) := ⟨_, rfl⟩
      have HM : Hid (meetsV (clampI ax) (clampI ay) (clampI bx) (clampI by_) (clampI px) (clampI py) = endE lo hi) := by
        show _ = _
        unfold meetsV; rw [HK1.out, HK2.out, hlo, hhi]; rfl
      have HB5 : Hid (Blk w4 w2.heap.size 78 (partV lo hi)) := by rw [hlo, hhi]; exact HB4.out
      clear hlo hhi HB4 HK1 HK2
      obtain ⟨ln, ld, lc⟩ := lo
      obtain ⟨hn, hd, hc⟩ := hi
      have c0 : w4.cell? ⟨w2.heap.size, 0, none⟩ = some (.int .i64 ln) := HB5.out.cell 0
      have c1 : w4.cell? ⟨w2.heap.size, 1, none⟩ = some (.int .i64 ld) := HB5.out.cell 1
      have c2 : w4.cell? ⟨w2.heap.size, 2, none⟩ = some (.bool lc) := HB5.out.cell 2
      have c3 : w4.cell? ⟨w2.heap.size, 3, none⟩ = some (.int .i64 hn) := HB5.out.cell 3
      have c4 : w4.cell? ⟨w2.heap.size, 4, none⟩ = some (.int .i64 hd) := HB5.out.cell 4
      have c5 : w4.cell? ⟨w2.heap.size, 5, none⟩ = some (.bool hc) := HB5.out.cell 5
      clear HB5
      go_wp2_with fail
      refine (cmp_any _ _ _ _ _ _ _).mono ?_
      rintro e w5 ⟨rfl, hb5⟩
      have k5 := keepC hb5
      replace c2 := k5 _ _ c2
      replace c5 := k5 _ _ c5
      have HS5 := Lib.hid (HS4.out.trans hb5)
      clear k5 hb5 c0 c1 c3 c4 HS4
      have HE : Hid (endE (ln, ld, lc) (hn, hd, hc) = if bndCmp ln ld hn hd < 0 then true else if bndCmp ln ld hn hd = 0 then lc && hc else false) := rfl
      generalize bndCmp ln ld hn hd = n at *
      rcases Int.lt_trichotomy n 0 with h | h | h
      · have hz : (n == 0) = false := by rw [beq_eq_false_iff_ne]; omega
        go_wp2
        go_ret
        exact ⟨ret_bool (by rw [HM.out, HE.out, if_pos h]), HS5.out⟩
      · subst h
        cases lc <;> cases hc
        all_goals
          go_wp2
          go_ret
          exact ⟨ret_bool (by rw [HM.out, HE.out]; rfl), HS5.out⟩
      · have hz : (n == 0) = false := by rw [beq_eq_false_iff_ne]; omega
        have hz1 : decide (n < 0) = false := by rw [decide_eq_false_iff_not]; omega
        go_wp2
        go_ret
        exact ⟨ret_bool (by rw [HM.out, HE.out, if_neg (by omega), if_neg (by omega)]), HS5.out⟩

end Go.Proofs.Ytcckekdfeeghaaa
