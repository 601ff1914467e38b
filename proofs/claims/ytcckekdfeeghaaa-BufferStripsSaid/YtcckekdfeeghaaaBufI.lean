/-
  Walks of point.Dot, point.On, terrkeep3.strips. Conditions: bounds of the numbers.
-/
import Derived.Test.YtcckekdfeeghaaaBufH
import Derived.Test.YtcckekdfeeghaaaHullC
namespace Go.Proofs.Ytcckekdfeeghaaa
set_option linter.unusedSimpArgs false
set_option linter.unusedVariables false
open Go.RowKit Go.BigFrame
attribute [local go_sem ↓] eqPt neqPt

def dotV (ax ay bx by_ px py : Int) : Int := (bx - ax) * (px - ax) + (by_ - ay) * (py - ay)
set_option maxHeartbeats 1000000 in
theorem Dot_any (ax ay bx by_ cx cy : Int) (w : World) : Calls Try.prog 86 #[.agg #[.int .i64 ax, .int .i64 ay], .agg #[.int .i64 bx, .int .i64 by_], .agg #[.int .i64 cx, .int .i64 cy]] w fun e w' =>
    e = .returned (.int .i64 (dotV (clampI ax) (clampI ay) (clampI bx) (clampI by_) (clampI cx) (clampI cy))) ∧ Since w w' := by
  have q1 := clampI_bd ax
  have q2 := clampI_bd ay
  have q3 := clampI_bd bx
  have q4 := clampI_bd by_
  have q5 := clampI_bd cx
  have q6 := clampI_bd cy
  have m1 : ((clampI bx - clampI ax) * (clampI cx - clampI ax)).natAbs ≤ 4398046511104 := Nat.le_trans (mul_bd (A := 2097152) (B := 2097152) (by omega) (by omega)) (by decide)
  have m2 : ((clampI by_ - clampI ay) * (clampI cy - clampI ay)).natAbs ≤ 4398046511104 := Nat.le_trans (mul_bd (A := 2097152) (B := 2097152) (by omega) (by omega)) (by decide)
  have e1 : wrap64 ((clampI bx - clampI ax) * (clampI cx - clampI ax)) = (clampI bx - clampI ax) * (clampI cx - clampI ax) := wrap_id (by omega)
  have e2 : wrap64 ((clampI by_ - clampI ay) * (clampI cy - clampI ay)) = (clampI by_ - clampI ay) * (clampI cy - clampI ay) := wrap_id (by omega)
  have e3 : wrap64 ((clampI bx - clampI ax) * (clampI cx - clampI ax) + (clampI by_ - clampI ay) * (clampI cy - clampI ay)) = (clampI bx - clampI ax) * (clampI cx - clampI ax) + (clampI by_ - clampI ay) * (clampI cy - clampI ay) := wrap_id (by omega)
  clear m1 m2 q1 q2 q3 q4 q5 q6
  go_enter Try.func86, Try.ntmps86
  go_upto_region 1 with fail
  refine atW (fun w' => Blk w' w.heap.size 23 #[.int .i64 ax, .int .i64 ay] ∧ Blk w' (w.heap.size + 1) 23 #[.int .i64 bx, .int .i64 by_] ∧ Blk w' (w.heap.size + 1 + 1) 23 #[.int .i64 cx, .int .i64 cy] ∧ Since w w') ⟨((Blk.new w _ _).alloc _).alloc _, (Blk.new' (by simp)).alloc _, Blk.new' (by simp), (((Since.rfl_ w).alloc _).alloc _).alloc _⟩ ?_
  rintro w1 ⟨ha, hb, hr, hs⟩
  have a0 : w1.cell? ⟨w.heap.size, 0, none⟩ = some (.int .i64 ax) := ha.cell 0
  have a1 : w1.cell? ⟨w.heap.size, 1, none⟩ = some (.int .i64 ay) := ha.cell 1
  have b0 : w1.cell? ⟨w.heap.size + 1, 0, none⟩ = some (.int .i64 bx) := hb.cell 0
  have b1 : w1.cell? ⟨w.heap.size + 1, 1, none⟩ = some (.int .i64 by_) := hb.cell 1
  have c0 : w1.cell? ⟨w.heap.size + 1 + 1, 0, none⟩ = some (.int .i64 cx) := hr.cell 0
  have c1 : w1.cell? ⟨w.heap.size + 1 + 1, 1, none⟩ = some (.int .i64 cy) := hr.cell 1
  have HB := Lib.hid (And.intro ha (And.intro hb (And.intro hr hs)))
  clear ha hb hr hs
  apply region_facts 8 (fun w' => w'.cell? ⟨w.heap.size, 0, none⟩ = some (.int .i64 ax) ∧ w'.cell? ⟨w.heap.size, 1, none⟩ = some (.int .i64 ay) ∧ w'.cell? ⟨w.heap.size + 1, 0, none⟩ = some (.int .i64 bx) ∧ w'.cell? ⟨w.heap.size + 1, 1, none⟩ = some (.int .i64 by_) ∧ w'.cell? ⟨w.heap.size + 1 + 1, 0, none⟩ = some (.int .i64 cx) ∧ w'.cell? ⟨w.heap.size + 1 + 1, 1, none⟩ = some (.int .i64 cy) ∧ Since w1 w')
  case hm => kernel_rfl
  case hB => kernel_rfl
  case hS => exact ⟨a0, a1, b0, b1, c0, c1, (Since.rfl_ w1).drew⟩
  case h =>
  simp only [List.take_succ_cons, List.take_zero, List.drop_succ_cons, List.drop_zero]
  apply wpO_det
  case hw => rfl
  case h =>
    intro hFm wx hS_ hF_ K hK
    go_big_quiet_op
    first
      | exact hK _ rfl
      | (apply Exists.intro; refine ⟨fun _ => ?_, ?_⟩; (focus (first | (intro hC; have hC := hC.out; (try simp only [hC, Result.andThen]); first | exact ⟨True.intro, rfl⟩ | exact ⟨rfl, rfl⟩ | rfl))); exact hK _ rfl)
  case k =>
  simp only [Act.put, List.setIfInBounds_toArray, List.set_cons_succ, List.set_cons_zero, List.cons_append, List.nil_append]
  apply wpO_det
  case hw => rfl
  case h =>
    intro hFm wx hS_ hF_ K hK
    go_big_quiet_op
    first
      | exact hK _ rfl
      | (apply Exists.intro; refine ⟨fun _ => ?_, ?_⟩; (focus (first | (intro hC; have hC := hC.out; (try simp only [hC, Result.andThen]); first | exact ⟨True.intro, rfl⟩ | exact ⟨rfl, rfl⟩ | rfl))); exact hK _ rfl)
  case k =>
  simp only [Act.put, List.setIfInBounds_toArray, List.set_cons_succ, List.set_cons_zero, List.cons_append, List.nil_append]
  apply wpO_det
  case hw => rfl
  case h =>
    intro hFm wx hS_ hF_ K hK
    go_big_quiet_op
    first
      | exact hK _ rfl
      | (apply Exists.intro; refine ⟨fun _ => ?_, ?_⟩; (focus (first | (intro hC; go_at_call 111; refine (way_any _ _ _ _ _).mono ?_; rintro e w' ⟨rfl, hb⟩; refine ⟨rfl, ?_⟩; exact cls_call hFm hC hb))); exact hK _ rfl)
  case k =>
  simp only [Act.put, List.setIfInBounds_toArray, List.set_cons_succ, List.set_cons_zero, List.cons_append, List.nil_append]
  apply wpO_det
  case hw => rfl
  case h =>
    intro hFm wx hS_ hF_ K hK
    go_big_quiet_op
    first
      | exact hK _ rfl
      | (apply Exists.intro; refine ⟨fun _ => ?_, ?_⟩; (focus (first | (intro hC; have hC := hC.out; (try simp only [hC, Result.andThen]); first | exact ⟨True.intro, rfl⟩ | exact ⟨rfl, rfl⟩ | rfl))); exact hK _ rfl)
  case k =>
  simp only [Act.put, List.setIfInBounds_toArray, List.set_cons_succ, List.set_cons_zero, List.cons_append, List.nil_append]
  apply wpO_det
  case hw => rfl
  case h =>
    intro hFm wx hS_ hF_ K hK
    go_big_quiet_op
    first
      | exact hK _ rfl
      | (apply Exists.intro; refine ⟨fun _ => ?_, ?_⟩; (focus (first | (intro hC; have hC := hC.out; (try simp only [hC, Result.andThen]); first | exact ⟨True.intro, rfl⟩ | exact ⟨rfl, rfl⟩ | rfl))); exact hK _ rfl)
  case k =>
  simp only [Act.put, List.setIfInBounds_toArray, List.set_cons_succ, List.set_cons_zero, List.cons_append, List.nil_append]
  apply wpO_det
  case hw => rfl
  case h =>
    intro hFm wx hS_ hF_ K hK
    go_big_quiet_op
    first
      | exact hK _ rfl
      | (apply Exists.intro; refine ⟨fun _ => ?_, ?_⟩; (focus (first | (intro hC; go_at_call 111; refine (way_any _ _ _ _ _).mono ?_; rintro e w' ⟨rfl, hb⟩; refine ⟨rfl, ?_⟩; exact cls_call hFm hC hb))); exact hK _ rfl)
  case k =>
  simp only [Act.put, List.setIfInBounds_toArray, List.set_cons_succ, List.set_cons_zero, List.cons_append, List.nil_append]
  apply wpO_mk (f := fun g => .pointer (some ⟨g, 0, none⟩)) (t := 23) (cs := #[.int .i64 0, .int .i64 0])
  case hi => (intro g g' h; simpa using h)
  case hw => rfl
  case h => (intro w; simp [go_sem])
  case k =>
  intro g1
  simp only [Act.put, List.setIfInBounds_toArray, List.set_cons_succ, List.set_cons_zero, List.cons_append, List.nil_append]
  apply wpO_mk (f := fun g => .pointer (some ⟨g, 0, none⟩)) (t := 23) (cs := #[.int .i64 0, .int .i64 0])
  case hi => (intro g g' h; simpa using h)
  case hw => rfl
  case h => (intro w; simp [go_sem])
  case k =>
  intro g2
  simp only [Act.put, List.setIfInBounds_toArray, List.set_cons_succ, List.set_cons_zero, List.cons_append, List.nil_append]
  refine wpO_nil ?_
  intro w2 hS hF hB
  (try simp [allF] at hF)
  (try simp [List.pairwise_cons] at hB)
  obtain ⟨⟨h1, l1⟩, h2, l2⟩ := hF
  have p_0 := h1.cell 0
  have p_1 := h1.cell 1
  have p_f0 := h1.frozen 0
  have p_f1 := h1.frozen 1
  simp only [List.getElem?_toArray, List.getElem?_cons_zero, List.getElem?_cons_succ] at p_0 p_1
  have q_0 := h2.cell 0
  have q_1 := h2.cell 1
  have q_f0 := h2.frozen 0
  have q_f1 := h2.frozen 1
  simp only [List.getElem?_toArray, List.getElem?_cons_zero, List.getElem?_cons_succ] at q_0 q_1
  have HS := Lib.hid (HB.out.2.2.2.trans hS.2.2.2.2.2.2)
  have hsz := HB.out.2.2.2.size
  clear hS h1 h2 a0 a1 b0 b1 c0 c1 HB
  go_wp2
  go_ret
  exact ⟨ret_int (by unfold dotV; first | exact e3 | rfl), (((HS.out.setCell (by dsimp only; omega) _).setCell (by dsimp only; omega) _).setCell (by dsimp only; omega) _).setCell (by dsimp only; omega) _⟩


def onV (a b p : Pt2) : Bool := (turnV a.1 a.2 b.1 b.2 p.1 p.2 == 0) && decide (dotV (clampI p.1) (clampI p.2) (clampI a.1) (clampI a.2) (clampI b.1) (clampI b.2) ≤ 0)
set_option maxHeartbeats 1000000 in
theorem On_any (a b p : Pt2) (w : World) : Calls Try.prog 41 #[.agg #[.int .i64 a.1, .int .i64 a.2], .agg #[.int .i64 b.1, .int .i64 b.2], .agg #[.int .i64 p.1, .int .i64 p.2]] w fun e w' =>
    e = .returned (.bool (onV a b p)) ∧ Since w w' := by
  have HF : Hid (onV a b p = ((turnV a.1 a.2 b.1 b.2 p.1 p.2 == 0) && decide (dotV (clampI p.1) (clampI p.2) (clampI a.1) (clampI a.2) (clampI b.1) (clampI b.2) ≤ 0))) := rfl
  go_enter Try.func41, Try.ntmps41
  go_upto_region 1 with fail
  refine atW (fun w' => Blk w' w.heap.size 23 #[.int .i64 a.1, .int .i64 a.2] ∧ Blk w' (w.heap.size + 1) 23 #[.int .i64 b.1, .int .i64 b.2] ∧ Blk w' (w.heap.size + 1 + 1) 23 #[.int .i64 p.1, .int .i64 p.2] ∧ Since w w') ⟨((Blk.new w _ _).alloc _).alloc _, (Blk.new' (by simp)).alloc _, Blk.new' (by simp), (((Since.rfl_ w).alloc _).alloc _).alloc _⟩ ?_
  rintro w1 ⟨ha, hb, hr, hs⟩
  have a0 : w1.cell? ⟨w.heap.size, 0, none⟩ = some (.int .i64 a.1) := ha.cell 0
  have a1 : w1.cell? ⟨w.heap.size, 1, none⟩ = some (.int .i64 a.2) := ha.cell 1
  have b0 : w1.cell? ⟨w.heap.size + 1, 0, none⟩ = some (.int .i64 b.1) := hb.cell 0
  have b1 : w1.cell? ⟨w.heap.size + 1, 1, none⟩ = some (.int .i64 b.2) := hb.cell 1
  have c0 : w1.cell? ⟨w.heap.size + 1 + 1, 0, none⟩ = some (.int .i64 p.1) := hr.cell 0
  have c1 : w1.cell? ⟨w.heap.size + 1 + 1, 1, none⟩ = some (.int .i64 p.2) := hr.cell 1
  have HB := Lib.hid (And.intro ha (And.intro hb (And.intro hr hs)))
  clear ha hb hr hs
  go_wp2_with fail
  refine (Turn_any _ _ _ _ _ _ _).mono ?_
  rintro e w2 ⟨rfl, hs⟩
  have ha := hs.blk HB.out.1
  have hb := hs.blk HB.out.2.1
  have hr := hs.blk HB.out.2.2.1
  have HS2 := Lib.hid (HB.out.2.2.2.trans hs)
  clear hs a0 a1 b0 b1 c0 c1 HB
  have a0 : w2.cell? ⟨w.heap.size, 0, none⟩ = some (.int .i64 a.1) := ha.cell 0
  have a1 : w2.cell? ⟨w.heap.size, 1, none⟩ = some (.int .i64 a.2) := ha.cell 1
  have b0 : w2.cell? ⟨w.heap.size + 1, 0, none⟩ = some (.int .i64 b.1) := hb.cell 0
  have b1 : w2.cell? ⟨w.heap.size + 1, 1, none⟩ = some (.int .i64 b.2) := hb.cell 1
  have c0 : w2.cell? ⟨w.heap.size + 1 + 1, 0, none⟩ = some (.int .i64 p.1) := hr.cell 0
  have c1 : w2.cell? ⟨w.heap.size + 1 + 1, 1, none⟩ = some (.int .i64 p.2) := hr.cell 1
  clear ha hb hr
  generalize turnV a.1 a.2 b.1 b.2 p.1 p.2 = tv at *
  cases hz : (tv == 0)
  · go_wp2_with fail
    go_ret
    exact ⟨ret_bool (by rw [HF.out, hz]; rfl), HS2.out⟩
  · go_wp2_with fail
    refine (Dot_any _ _ _ _ _ _ _).mono ?_
    rintro e w3 ⟨rfl, hs⟩
    have HS3 := Lib.hid (HS2.out.trans hs)
    clear hs a0 a1 b0 b1 c0 c1
    go_wp2_with fail
    go_ret
    exact ⟨ret_bool (by rw [HF.out, hz]; rfl), HS3.out⟩
theorem onV_ok {a b p : Pt2} (ha : okP a.1 a.2 = true) (hb : okP b.1 b.2 = true) (hp : okP p.1 p.2 = true) (h : onV a b p = true) : crs a b p = 0 ∧ (a.1 - p.1) * (b.1 - p.1) + (a.2 - p.2) * (b.2 - p.2) ≤ 0 := by
  unfold onV at h
  rw [Bool.and_eq_true, decide_eq_true_eq, beq_iff_eq, turn_crs ha hb hp, (clamp_id ha).1, (clamp_id ha).2, (clamp_id hb).1, (clamp_id hb).2, (clamp_id hp).1, (clamp_id hp).2] at h
  refine ⟨?_, h.2⟩
  have := h.1
  unfold cmpI at this
  split at this
  · omega
  · split at this <;> omega

set_option maxRecDepth 100000 in
set_option maxHeartbeats 1000000 in
theorem strips_any (w : World) : Calls Try.prog 40 #[] w fun e w' => e = .returned (.bool true) ∧ Since w w' := by
  have HO : Hid (octE (0, 0) 12 = 0 ∧ hullV (crnV (0, 0) 12) = [(-12, -5), (-5, -12), (5, -12), (12, -5), (12, 5), (5, 12), (-5, 12), (-12, 5)]) := ⟨oct12_err, oct12_hull⟩
  have HC := fun w => Octagon_any (0, 0) 12 w
  rw [HO.out.1, HO.out.2] at HC
  clear HO
  go_enter Try.func40, Try.ntmps40
  go_wp2_with fail
  refine (ptK_any _ _ _).mono ?_
  rintro e w1 ⟨rfl, hs⟩
  have HS1 := Lib.hid hs
  clear hs
  go_wp2_with fail
  refine (HC _).mono ?_
  rintro e w2 ⟨v, rfl, ho, -, hs⟩
  have ho := ho (by trivial)
  obtain ⟨g, c, rfl⟩ := own_some ho (by decide)
  have HS2 := Lib.hid (HS1.out.trans hs)
  have x0 : w2.cell? ⟨g, 0, none⟩ = some (.int .i64 (-12)) := ho.cellAt 0 (by decide)
  have x1 : w2.cell? ⟨g, 1, none⟩ = some (.int .i64 (-5)) := ho.cellAt 1 (by decide)
  clear ho hs HC HS1
  go_upto_region 2 with fail
  refine region_cls (fun w' => w'.cell? ⟨g, 0, none⟩ = some (.int .i64 (-12)) ∧ w'.cell? ⟨g, 1, none⟩ = some (.int .i64 (-5)) ∧ Since w2 w') (by kernel_rfl) (by kernel_rfl) (by (repeat' refine And.intro ?_ ?_) <;> first | (simp (maxDischargeDepth := 9) [x0, x1,  cSetS, cSetO, cellNew, World.cell?_alloc_some, cellDrew]; done) | (repeat (first | with_reducible assumption | with_reducible exact Since.rfl_ _ | refine Since.setCell ?_ (by (try dsimp only); omega) _ | refine Since.alloc ?_ _ | refine Since.drew ?_))) ?_
  repeat (go_big_quiet_step ((first | (intro hC; go_at_call 39; refine (ptK_any _ _ _).mono ?_; rintro e w' ⟨rfl, hb⟩; refine ⟨rfl, ?_⟩; have k1 := keepC hb; have k2 := keepS hb; have hC := hC.out; (try dsimp only at hC); simp [Cls, hC, k1, k2]) | (intro hC; have hC := hC.out; (try simp only [hC, Result.andThen]); first | exact ⟨True.intro, rfl⟩ | exact ⟨rfl, rfl⟩ | rfl))))
  refine cls_end ?_
  rintro w4 ⟨-, -, hs⟩
  have HS4 := Lib.hid (HS2.out.trans hs)
  clear hs x0 x1
  go_wp2_with fail
  go_ret
  exact ⟨rfl, HS4.out⟩
end Go.Proofs.Ytcckekdfeeghaaa
