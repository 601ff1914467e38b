/-
  Walks of cmp.Compare, point.way, Cross, Turn, box.Has, Meet, Join. Conditions: none.
-/
import Derived.Test.YtcckekdfeeghaaaClipM
import Derived.Test.YtcckekdfeeghaaaFacts
namespace Go.Proofs.Ytcckekdfeeghaaa
set_option linter.unusedSimpArgs false
set_option linter.unusedVariables false
open Go.RowKit Go.BigFrame
attribute [local go_sem ↓] eqPt neqPt
attribute [local go_sem] max2_int min2_int max_two min_two

/-- Where a point is, seen along a line. -/
def crossV (ax ay bx by_ px py : Int) : Int := (bx - ax) * (py - ay) - (by_ - ay) * (px - ax)
def cmpI (x y : Int) : Int := if x < y then -1 else if y < x then 1 else 0
theorem Compare_any (x y : Int) (w : World) : Calls Try.prog 103 #[.int .i64 x, .int .i64 y] w fun e w' => e = .returned (.int .i64 (cmpI x y)) ∧ w = w' := by
  go_enter Try.func103, Try.ntmps103
  go_wp2
  all_goals (go_ret; refine ⟨?_, rfl⟩; unfold cmpI; (repeat' split) <;> first | rfl | (exfalso; omega))

theorem ClampS_any (x y : Int) (w : World) : Calls Try.prog 55 #[.agg #[.int .i64 x, .int .i64 y]] w fun e w' => e = .returned (.agg #[.int .i64 (clampI x), .int .i64 (clampI y)]) ∧ Since w w' := Clamp_any x y w

set_option maxHeartbeats 1000000 in
theorem way_any (ax ay bx by_ : Int) (w : World) : Calls Try.prog 111 #[.agg #[.int .i64 ax, .int .i64 ay], .agg #[.int .i64 bx, .int .i64 by_]] w fun e w' =>
    e = .returned (.agg #[.int .i64 (clampI bx - clampI ax), .int .i64 (clampI by_ - clampI ay)]) ∧ Since w w' := by
  have q1 := clampI_bd ax
  have q2 := clampI_bd ay
  have q3 := clampI_bd bx
  have q4 := clampI_bd by_
  go_enter Try.func111, Try.ntmps111
  go_upto_region 1 with fail
  refine atW (fun w' => Blk w' w.heap.size 23 #[.int .i64 ax, .int .i64 ay] ∧ Blk w' (w.heap.size + 1) 23 #[.int .i64 bx, .int .i64 by_] ∧ Blk w' (w.heap.size + 1 + 1) 23 #[.int .i64 0, .int .i64 0] ∧ Since w w') ⟨((Blk.new w _ _).alloc _).alloc _, (Blk.new' (by simp)).alloc _, Blk.new' (by simp), (((Since.rfl_ w).alloc _).alloc _).alloc _⟩ ?_
  rintro w1 ⟨ha, hb, hr, hs⟩
  have a0 : w1.cell? ⟨w.heap.size, 0, none⟩ = some (.int .i64 ax) := ha.cell 0
  have a1 : w1.cell? ⟨w.heap.size, 1, none⟩ = some (.int .i64 ay) := ha.cell 1
  have b0 : w1.cell? ⟨w.heap.size + 1, 0, none⟩ = some (.int .i64 bx) := hb.cell 0
  have b1 : w1.cell? ⟨w.heap.size + 1, 1, none⟩ = some (.int .i64 by_) := hb.cell 1
  have HB := Lib.hid (And.intro ha (And.intro hb (And.intro hr hs)))
  clear ha hb hr hs
  refine region_tail 4 (fun w' => w'.cell? ⟨w.heap.size, 0, none⟩ = some (.int .i64 ax) ∧ w'.cell? ⟨w.heap.size, 1, none⟩ = some (.int .i64 ay) ∧ w'.cell? ⟨w.heap.size + 1, 0, none⟩ = some (.int .i64 bx) ∧ w'.cell? ⟨w.heap.size + 1, 1, none⟩ = some (.int .i64 by_) ∧ Since w1 w') (by kernel_rfl) (by kernel_rfl) (by (repeat' refine And.intro ?_ ?_) <;> first | (simp (maxDischargeDepth := 9) [a0, a1, b0, b1,  cSetS, cSetO, cellNew, World.cell?_alloc_some, cellDrew]; done) | (repeat (first | with_reducible assumption | with_reducible exact Since.rfl_ _ | refine Since.setCell ?_ (by (try dsimp only); omega) _ | refine Since.alloc ?_ _ | refine Since.drew ?_))) ?_
  simp only [List.take_succ_cons, List.take_zero, List.drop_succ_cons, List.drop_zero]
  repeat (go_big_quiet_step ((first | (intro hC; go_at_call 55; refine (Clamp_any _ _ _).mono ?_; rintro e w' ⟨rfl, hb⟩; refine ⟨rfl, ?_⟩; have k1 := keepC hb; have k2 := keepS hb; have hC := hC.out; (try dsimp only at hC); simp [Cls, hC, k1, k2]) | (intro hC; have hC := hC.out; (try simp only [hC, Result.andThen]); first | exact ⟨True.intro, rfl⟩ | exact ⟨rfl, rfl⟩ | rfl))))
  refine tail_end ?_
  clear a0 a1 b0 b1
  rintro w2 ⟨-, -, -, -, hs⟩
  have ha := hs.blk HB.out.1
  have hb := hs.blk HB.out.2.1
  have hr := hs.blk HB.out.2.2.1
  have HS := Lib.hid (HB.out.2.2.2.trans hs)
  have hsz : w.heap.size + 1 + 1 < w2.heap.size := hr.lt
  have a_0 := ha.cell 0
  have a_1 := ha.cell 1
  have a_f0 := ha.frozen 0
  have a_f1 := ha.frozen 1
  simp only [List.getElem?_toArray, List.getElem?_cons_zero, List.getElem?_cons_succ] at a_0 a_1
  have b_0 := hb.cell 0
  have b_1 := hb.cell 1
  have b_f0 := hb.frozen 0
  have b_f1 := hb.frozen 1
  simp only [List.getElem?_toArray, List.getElem?_cons_zero, List.getElem?_cons_succ] at b_0 b_1
  have r_0 := hr.cell 0
  have r_1 := hr.cell 1
  have r_f0 := hr.frozen 0
  have r_f1 := hr.frozen 1
  simp only [List.getElem?_toArray, List.getElem?_cons_zero, List.getElem?_cons_succ] at r_0 r_1
  clear hs ha hb hr
  go_wp2
  refine bodyPost_ret (v := .agg #[.int .i64 (clampI bx - clampI ax), .int .i64 (clampI by_ - clampI ay)]) (by simp [results, Try.results111, go_sem, cSetS, cSetO, r_0, r_1]) rfl ⟨rfl, ?_⟩
  exact (((((HS.out.setCell (by dsimp only; omega) _).setCell (by dsimp only; omega) _).setCell (by dsimp only; omega) _).setCell (by dsimp only; omega) _).setCell (by dsimp only; omega) _).setCell (by dsimp only; omega) _

set_option maxHeartbeats 1000000 in
theorem Cross_any (ax ay bx by_ cx cy : Int) (w : World) : Calls Try.prog 104 #[.agg #[.int .i64 ax, .int .i64 ay], .agg #[.int .i64 bx, .int .i64 by_], .agg #[.int .i64 cx, .int .i64 cy]] w fun e w' =>
    e = .returned (.int .i64 (crossV (clampI ax) (clampI ay) (clampI bx) (clampI by_) (clampI cx) (clampI cy))) ∧ Since w w' := by
  have q1 := clampI_bd ax
  have q2 := clampI_bd ay
  have q3 := clampI_bd bx
  have q4 := clampI_bd by_
  have q5 := clampI_bd cx
  have q6 := clampI_bd cy
  have m1 : ((clampI bx - clampI ax) * (clampI cy - clampI ay)).natAbs ≤ 4398046511104 := Nat.le_trans (mul_bd (A := 2097152) (B := 2097152) (by omega) (by omega)) (by decide)
  have m2 : ((clampI by_ - clampI ay) * (clampI cx - clampI ax)).natAbs ≤ 4398046511104 := Nat.le_trans (mul_bd (A := 2097152) (B := 2097152) (by omega) (by omega)) (by decide)
  have e1 : wrap64 ((clampI bx - clampI ax) * (clampI cy - clampI ay)) = (clampI bx - clampI ax) * (clampI cy - clampI ay) := wrap_id (by omega)
  have e2 : wrap64 ((clampI by_ - clampI ay) * (clampI cx - clampI ax)) = (clampI by_ - clampI ay) * (clampI cx - clampI ax) := wrap_id (by omega)
  have e3 : wrap64 ((clampI bx - clampI ax) * (clampI cy - clampI ay) - (clampI by_ - clampI ay) * (clampI cx - clampI ax)) = (clampI bx - clampI ax) * (clampI cy - clampI ay) - (clampI by_ - clampI ay) * (clampI cx - clampI ax) := wrap_id (by omega)
  clear m1 m2 q1 q2 q3 q4 q5 q6
  go_enter Try.func104, Try.ntmps104
  go_upto_region 1 with fail
  refine atW (fun w' => Blk w' w.heap.size 23 #[.int .i64 ax, .int .i64 ay] ∧ Blk w' (w.heap.size + 1) 23 #[.int .i64 bx, .int .i64 by_] ∧ Blk w' (w.heap.size + 1 + 1) 23 #[.int .i64 cx, .int .i64 cy] ∧ Since w w') ⟨((Blk.new w _ _).alloc _).alloc _, (Blk.new' (by simp)).alloc _, Blk.new' (by simp), (((Since.rfl_ w).alloc _).alloc _).alloc _⟩ ?_
  rintro w1 ⟨ha, hb, hr, hs⟩
  have a0 : w1.cell? ⟨w.heap.size, 0, none⟩ = some (.int .i64 ax) := ha.cell 0
  have a1 : w1.cell? ⟨w.heap.size, 1, none⟩ = some (.int .i64 ay) := ha.cell 1
  have b0 : w1.cell? ⟨w.heap.size + 1, 0, none⟩ = some (.int .i64 bx) := hb.cell 0
  have b1 : w1.cell? ⟨w.heap.size + 1, 1, none⟩ = some (.int .i64 by_) := hb.cell 1
  have c0 : w1.cell? ⟨w.heap.size + 1 + 1, 0, none⟩ = some (.int .i64 cx) := hr.cell 0
  have c1 : w1.cell? ⟨w.heap.size + 1 + 1, 1, none⟩ = some (.int .i64 cy) := hr.cell 1
  have HB := Lib.hid (And.intro ha (And.intro hb (And.intro hr hs)))
  clear ha hb hr hs
  apply region_facts 8 (fun w' => w'.cell? ⟨w.heap.size, 0, none⟩ = some (.int .i64 ax) ∧ w'.cell? ⟨w.heap.size, 1, none⟩ = some (.int .i64 ay) ∧ w'.cell? ⟨w.heap.size + 1, 0, none⟩ = some (.int .i64 bx) ∧ w'.cell? ⟨w.heap.size + 1, 1, none⟩ = some (.int .i64 by_) ∧ w'.cell? ⟨w.heap.size + 1 + 1, 0, none⟩ = some (.int .i64 cx) ∧ w'.cell? ⟨w.heap.size + 1 + 1, 1, none⟩ = some (.int .i64 cy) ∧ Since w1 w')
  case hm => kernel_rfl
  case hB => kernel_rfl
  case hS => exact ⟨a0, a1, b0, b1, c0, c1, (Since.rfl_ w1).drew⟩
  case h =>
  simp only [List.take_succ_cons, List.take_zero, List.drop_succ_cons, List.drop_zero]
  apply wpO_det
  case hw => rfl
  case h =>
    intro hFm wx hS_ hF_ K hK
    go_big_quiet_op
    first
      | exact hK _ rfl
      | (apply Exists.intro; refine ⟨fun _ => ?_, ?_⟩; (focus (first | (intro hC; have hC := hC.out; (try simp only [hC, Result.andThen]); first | exact ⟨True.intro, rfl⟩ | exact ⟨rfl, rfl⟩ | rfl))); exact hK _ rfl)
  case k =>
  simp only [Act.put, List.setIfInBounds_toArray, List.set_cons_succ, List.set_cons_zero, List.cons_append, List.nil_append]
  apply wpO_det
  case hw => rfl
  case h =>
    intro hFm wx hS_ hF_ K hK
    go_big_quiet_op
    first
      | exact hK _ rfl
      | (apply Exists.intro; refine ⟨fun _ => ?_, ?_⟩; (focus (first | (intro hC; have hC := hC.out; (try simp only [hC, Result.andThen]); first | exact ⟨True.intro, rfl⟩ | exact ⟨rfl, rfl⟩ | rfl))); exact hK _ rfl)
  case k =>
  simp only [Act.put, List.setIfInBounds_toArray, List.set_cons_succ, List.set_cons_zero, List.cons_append, List.nil_append]
  apply wpO_det
  case hw => rfl
  case h =>
    intro hFm wx hS_ hF_ K hK
    go_big_quiet_op
    first
      | exact hK _ rfl
      | (apply Exists.intro; refine ⟨fun _ => ?_, ?_⟩; (focus (first | (intro hC; go_at_call 111; refine (way_any _ _ _ _ _).mono ?_; rintro e w' ⟨rfl, hb⟩; refine ⟨rfl, ?_⟩; exact cls_call hFm hC hb))); exact hK _ rfl)
  case k =>
  simp only [Act.put, List.setIfInBounds_toArray, List.set_cons_succ, List.set_cons_zero, List.cons_append, List.nil_append]
  apply wpO_det
  case hw => rfl
  case h =>
    intro hFm wx hS_ hF_ K hK
    go_big_quiet_op
    first
      | exact hK _ rfl
      | (apply Exists.intro; refine ⟨fun _ => ?_, ?_⟩; (focus (first | (intro hC; have hC := hC.out; (try simp only [hC, Result.andThen]); first | exact ⟨True.intro, rfl⟩ | exact ⟨rfl, rfl⟩ | rfl))); exact hK _ rfl)
  case k =>
  simp only [Act.put, List.setIfInBounds_toArray, List.set_cons_succ, List.set_cons_zero, List.cons_append, List.nil_append]
  apply wpO_det
  case hw => rfl
  case h =>
    intro hFm wx hS_ hF_ K hK
    go_big_quiet_op
    first
      | exact hK _ rfl
      | (apply Exists.intro; refine ⟨fun _ => ?_, ?_⟩; (focus (first | (intro hC; have hC := hC.out; (try simp only [hC, Result.andThen]); first | exact ⟨True.intro, rfl⟩ | exact ⟨rfl, rfl⟩ | rfl))); exact hK _ rfl)
  case k =>
  simp only [Act.put, List.setIfInBounds_toArray, List.set_cons_succ, List.set_cons_zero, List.cons_append, List.nil_append]
  apply wpO_det
  case hw => rfl
  case h =>
    intro hFm wx hS_ hF_ K hK
    go_big_quiet_op
    first
      | exact hK _ rfl
      | (apply Exists.intro; refine ⟨fun _ => ?_, ?_⟩; (focus (first | (intro hC; go_at_call 111; refine (way_any _ _ _ _ _).mono ?_; rintro e w' ⟨rfl, hb⟩; refine ⟨rfl, ?_⟩; exact cls_call hFm hC hb))); exact hK _ rfl)
  case k =>
  simp only [Act.put, List.setIfInBounds_toArray, List.set_cons_succ, List.set_cons_zero, List.cons_append, List.nil_append]
  apply wpO_mk (f := fun g => .pointer (some ⟨g, 0, none⟩)) (t := 23) (cs := #[.int .i64 0, .int .i64 0])
  case hi => (intro g g' h; simpa using h)
  case hw => rfl
  case h => (intro w; simp [go_sem])
  case k =>
  intro g1
  simp only [Act.put, List.setIfInBounds_toArray, List.set_cons_succ, List.set_cons_zero, List.cons_append, List.nil_append]
  apply wpO_mk (f := fun g => .pointer (some ⟨g, 0, none⟩)) (t := 23) (cs := #[.int .i64 0, .int .i64 0])
  case hi => (intro g g' h; simpa using h)
  case hw => rfl
  case h => (intro w; simp [go_sem])
  case k =>
  intro g2
  simp only [Act.put, List.setIfInBounds_toArray, List.set_cons_succ, List.set_cons_zero, List.cons_append, List.nil_append]
  refine wpO_nil ?_
  intro w2 hS hF hB
  (try simp [allF] at hF)
  (try simp [List.pairwise_cons] at hB)
  obtain ⟨⟨h1, l1⟩, h2, l2⟩ := hF
  have p_0 := h1.cell 0
  have p_1 := h1.cell 1
  have p_f0 := h1.frozen 0
  have p_f1 := h1.frozen 1
  simp only [List.getElem?_toArray, List.getElem?_cons_zero, List.getElem?_cons_succ] at p_0 p_1
  have q_0 := h2.cell 0
  have q_1 := h2.cell 1
  have q_f0 := h2.frozen 0
  have q_f1 := h2.frozen 1
  simp only [List.getElem?_toArray, List.getElem?_cons_zero, List.getElem?_cons_succ] at q_0 q_1
  have HS := Lib.hid (HB.out.2.2.2.trans hS.2.2.2.2.2.2)
  have hsz := HB.out.2.2.2.size
  clear hS h1 h2 a0 a1 b0 b1 c0 c1 HB
  go_wp2
  go_ret
  exact ⟨ret_int (by unfold crossV; first | exact e3 | rfl), (((HS.out.setCell (by dsimp only; omega) _).setCell (by dsimp only; omega) _).setCell (by dsimp only; omega) _).setCell (by dsimp only; omega) _⟩

def turnV (ax ay bx by_ px py : Int) : Int := cmpI (crossV (clampI ax) (clampI ay) (clampI bx) (clampI by_) (clampI px) (clampI py)) 0
theorem Turn_any (ax ay bx by_ cx cy : Int) (w : World) : Calls Try.prog 80 #[.agg #[.int .i64 ax, .int .i64 ay], .agg #[.int .i64 bx, .int .i64 by_], .agg #[.int .i64 cx, .int .i64 cy]] w fun e w' =>
    e = .returned (.int .i64 (turnV ax ay bx by_ cx cy)) ∧ Since w w' := by
  go_enter Try.func80, Try.ntmps80
  go_wp2_with fail
  refine (Cross_any _ _ _ _ _ _ _).mono ?_
  rintro e w1 ⟨rfl, hs⟩
  have HS := Lib.hid ((((Since.rfl_ w).alloc _).alloc _).alloc _ |>.trans hs)
  clear hs
  go_wp2_with (go_at_call 103; refine (Compare_any _ _ _).mono ?_; rintro e w' ⟨rfl, rfl⟩)
  go_ret
  exact ⟨rfl, HS.out⟩

def hasV (lx ly hx hy px py : Int) : Bool := decide (lx ≤ px) && decide (px ≤ hx) && decide (ly ≤ py) && decide (py ≤ hy)
set_option maxHeartbeats 1000000 in
theorem Has_any (lx ly hx hy px py : Int) (w : World) : Calls Try.prog 23 #[.agg #[.int .i64 lx, .int .i64 ly, .int .i64 hx, .int .i64 hy], .agg #[.int .i64 px, .int .i64 py]] w fun e w' =>
    e = .returned (.bool (hasV lx ly hx hy px py)) ∧ Since w w' := by
  have HF : Hid (hasV lx ly hx hy px py = (decide (lx ≤ px) && decide (px ≤ hx) && decide (ly ≤ py) && decide (py ≤ hy))) := rfl
  cases h1 : decide (lx ≤ px) <;> cases h2 : decide (px ≤ hx) <;> cases h3 : decide (ly ≤ py) <;> cases h4 : decide (py ≤ hy)
  all_goals
    go_enter Try.func23, Try.ntmps23
    go_wp2
    go_ret
    exact ⟨ret_bool (by rw [HF.out, h1, h2, h3, h4]; rfl), ((Since.rfl_ w).alloc _).alloc _⟩

def meetV (lx ly hx hy mx my nx ny : Int) : Bool := hasV lx ly hx hy (max lx mx) (max ly my) && hasV mx my nx ny (max lx mx) (max ly my)
theorem Meet_any (lx ly hx hy mx my nx ny : Int) (w : World) : Calls Try.prog 79 #[.agg #[.int .i64 lx, .int .i64 ly, .int .i64 hx, .int .i64 hy], .agg #[.int .i64 mx, .int .i64 my, .int .i64 nx, .int .i64 ny]] w fun e w' =>
    e = .returned (.bool (meetV lx ly hx hy mx my nx ny)) ∧ Since w w' := by
  have HF : Hid (meetV lx ly hx hy mx my nx ny = (hasV lx ly hx hy (max lx mx) (max ly my) && hasV mx my nx ny (max lx mx) (max ly my))) := rfl
  have hA := (((Since.rfl_ w).alloc (.cells #[.int .i64 lx, .int .i64 ly, .int .i64 hx, .int .i64 hy] 28)).alloc (.cells #[.int .i64 mx, .int .i64 my, .int .i64 nx, .int .i64 ny] 28)).alloc (.cells #[.int .i64 (max lx mx), .int .i64 (max ly my)] 23)
  have hB1 : Blk _ (w.heap.size + 1) 28 #[.int .i64 mx, .int .i64 my, .int .i64 nx, .int .i64 ny] := (Blk.new' (w := w.alloc (.cells #[.int .i64 lx, .int .i64 ly, .int .i64 hx, .int .i64 hy] 28)) (by simp)).alloc (.cells #[.int .i64 (max lx mx), .int .i64 (max ly my)] 23)
  have hP1 : Blk _ (w.heap.size + 1 + 1) 23 #[.int .i64 (max lx mx), .int .i64 (max ly my)] := Blk.new' (w := (w.alloc (.cells #[.int .i64 lx, .int .i64 ly, .int .i64 hx, .int .i64 hy] 28)).alloc (.cells #[.int .i64 mx, .int .i64 my, .int .i64 nx, .int .i64 ny] 28)) (by simp)
  have HA := Lib.hid (And.intro hA (And.intro hB1 hP1))
  clear hA hB1 hP1
  cases h1 : hasV lx ly hx hy (max lx mx) (max ly my)
  · go_enter Try.func79, Try.ntmps79
    go_wp2_with fail
    refine (Has_any _ _ _ _ _ _ _).mono ?_
    rintro e w1 ⟨rfl, hs⟩
    have HS := Lib.hid (HA.out.1.trans hs)
    clear hs
    go_wp2
    go_ret
    exact ⟨ret_bool (by rw [HF.out, h1]; rfl), HS.out⟩
  · go_enter Try.func79, Try.ntmps79
    go_wp2_with fail
    refine (Has_any _ _ _ _ _ _ _).mono ?_
    rintro e w1 ⟨rfl, hs⟩
    have HS := Lib.hid (HA.out.1.trans hs)
    have hb := hs.blk HA.out.2.1
    have hp := hs.blk HA.out.2.2
    have c0 : w1.cell? ⟨w.heap.size + 1, 0, none⟩ = some (.int .i64 mx) := hb.cell 0
    have c1 : w1.cell? ⟨w.heap.size + 1, 1, none⟩ = some (.int .i64 my) := hb.cell 1
    have c2 : w1.cell? ⟨w.heap.size + 1, 2, none⟩ = some (.int .i64 nx) := hb.cell 2
    have c3 : w1.cell? ⟨w.heap.size + 1, 3, none⟩ = some (.int .i64 ny) := hb.cell 3
    have d0 : w1.cell? ⟨w.heap.size + 1 + 1, 0, none⟩ = some (.int .i64 (max lx mx)) := hp.cell 0
    have d1 : w1.cell? ⟨w.heap.size + 1 + 1, 1, none⟩ = some (.int .i64 (max ly my)) := hp.cell 1
    clear hs hb hp
    go_wp2_with fail
    refine (Has_any _ _ _ _ _ _ _).mono ?_
    rintro e w2 ⟨rfl, hs⟩
    have HS2 := Lib.hid (HS.out.trans hs)
    clear hs
    go_wp2
    go_ret
    exact ⟨ret_bool (by rw [HF.out, h1]; rfl), HS2.out⟩

theorem Join_any (lx ly hx hy mx my nx ny : Int) (w : World) : Calls Try.prog 73 #[.agg #[.int .i64 lx, .int .i64 ly, .int .i64 hx, .int .i64 hy], .agg #[.int .i64 mx, .int .i64 my, .int .i64 nx, .int .i64 ny]] w fun e w' =>
    e = .returned (.agg #[.int .i64 (min lx mx), .int .i64 (min ly my), .int .i64 (max hx nx), .int .i64 (max hy ny)]) ∧ Since w w' := by
  go_enter Try.func73, Try.ntmps73
  go_wp2
  exact bodyPost_ret (v := .agg #[.int .i64 (min lx mx), .int .i64 (min ly my), .int .i64 (max hx nx), .int .i64 (max hy ny)]) (by simp [results, Try.results73, go_sem]) rfl ⟨rfl, (((Since.rfl_ w).alloc _).alloc _).alloc _⟩
end Go.Proofs.Ytcckekdfeeghaaa
