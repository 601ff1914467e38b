/-
  Walks of cmp.Compare, point.way, Cross, Turn, box.Has, Meet, Join; Plain laws of convex hulls: chains, the ring, its uniqueness; Walks of buffer: corners, Octagon, Strip; Walks of box.Of, box.Hit; The walk of hull.chain; The library's sort and Reverse over points, in this seat's words. Conditions: those that each lemma names.
-/
import Derived.Test.YtdbknodifpmmoaaK02
import Derived.Test.YtdbknodifpmmoaaK03
import Derived.Deep.Onto
import Derived.Shelf.SlSortCmp.NoneTotal
import Derived.Shelf.SlicesQ.Reverse
import Derived.Ground.SlsfProg
import Derived.Ground.SlgnProg
section
namespace Go.Proofs.Ytdbknodifpmmoaa
set_option linter.unusedSimpArgs false
set_option linter.unusedVariables false
open Go.RowKit Go.BigFrame
attribute [local go_sem ↓] eqPt neqPt
attribute [local go_sem] max2_int min2_int max_two min_two

/-- Where a point is, seen along a line. -/
def crossV (ax ay bx by_ px py : Int) : Int := (bx - ax) * (py - ay) - (by_ - ay) * (px - ax)
def cmpI (x y : Int) : Int := if x < y then -1 else if y < x then 1 else 0
theorem Compare_any (x y : Int) (w : World) : Calls Try.prog 77 #[.int .i64 x, .int .i64 y] w fun e w' => e = .returned (.int .i64 (cmpI x y)) ∧ w = w' := by
  go_enter Try.func77, Try.ntmps77
  go_wp2
  all_goals (go_ret; refine ⟨?_, rfl⟩; unfold cmpI; (repeat' split) <;> first | rfl | (exfalso; omega))

theorem ClampS_any (x y : Int) (w : World) : Calls Try.prog 41 #[.agg #[.int .i64 x, .int .i64 y]] w fun e w' => e = .returned (.agg #[.int .i64 (clampI x), .int .i64 (clampI y)]) ∧ Since w w' := Clamp_any x y w

set_option maxHeartbeats 1000000 in
theorem way_any (ax ay bx by_ : Int) (w : World) : Calls Try.prog 79 #[.agg #[.int .i64 ax, .int .i64 ay], .agg #[.int .i64 bx, .int .i64 by_]] w fun e w' =>
    e = .returned (.agg #[.int .i64 (clampI bx - clampI ax), .int .i64 (clampI by_ - clampI ay)]) ∧ Since w w' := by
  have q1 := clampI_bd ax
  have q2 := clampI_bd ay
  have q3 := clampI_bd bx
  have q4 := clampI_bd by_
  go_enter Try.func79, Try.ntmps79
  go_upto_region 1 with fail
  refine atW (fun w' => Blk w' w.heap.size 26 #[.int .i64 ax, .int .i64 ay] ∧ Blk w' (w.heap.size + 1) 26 #[.int .i64 bx, .int .i64 by_] ∧ Blk w' (w.heap.size + 1 + 1) 26 #[.int .i64 0, .int .i64 0] ∧ Since w w') ⟨((Blk.new w _ _).alloc _).alloc _, (Blk.new' (by simp)).alloc _, Blk.new' (by simp), (((Since.rfl_ w).alloc _).alloc _).alloc _⟩ ?_
  rintro w1 ⟨ha, hb, hr, hs⟩
  have a0 : w1.cell? ⟨w.heap.size, 0, none⟩ = some (.int .i64 ax) := ha.cell 0
  have a1 : w1.cell? ⟨w.heap.size, 1, none⟩ = some (.int .i64 ay) := ha.cell 1
  have b0 : w1.cell? ⟨w.heap.size + 1, 0, none⟩ = some (.int .i64 bx) := hb.cell 0
  have b1 : w1.cell? ⟨w.heap.size + 1, 1, none⟩ = some (.int .i64 by_) := hb.cell 1
  have HB := Lib.hid (And.intro ha (And.intro hb (And.intro hr hs)))
  clear ha hb hr hs
  refine region_tail 4 (fun w' => w'.cell? ⟨w.heap.size, 0, none⟩ = some (.int .i64 ax) ∧ w'.cell? ⟨w.heap.size, 1, none⟩ = some (.int .i64 ay) ∧ w'.cell? ⟨w.heap.size + 1, 0, none⟩ = some (.int .i64 bx) ∧ w'.cell? ⟨w.heap.size + 1, 1, none⟩ = some (.int .i64 by_) ∧ Since w1 w') (by kernel_rfl) (by kernel_rfl) (by (repeat' refine And.intro ?_ ?_) <;> first | (simp (maxDischargeDepth := 9) [a0, a1, b0, b1,  cSetS, cSetO, cellNew, World.cell?_alloc_some, cellDrew]; done) | (repeat (first | with_reducible assumption | with_reducible exact Since.rfl_ _ | refine Since.setCell ?_ (by (try dsimp only); omega) _ | refine Since.alloc ?_ _ | refine Since.drew ?_))) ?_
  simp only [List.take_succ_cons, List.take_zero, List.drop_succ_cons, List.drop_zero]
  repeat (go_big_quiet_step ((first | (intro hC; go_at_call 41; refine (Clamp_any _ _ _).mono ?_; rintro e w' ⟨rfl, hb⟩; refine ⟨rfl, ?_⟩; have k1 := keepC hb; have k2 := keepS hb; have hC := hC.out; (try dsimp only at hC); simp [Cls, hC, k1, k2]) | (intro hC; have hC := hC.out; (try simp only [hC, Result.andThen]); first | exact ⟨True.intro, rfl⟩ | exact ⟨rfl, rfl⟩ | rfl))))
  refine tail_end ?_
  clear a0 a1 b0 b1
  rintro w2 ⟨-, -, -, -, hs⟩
  have ha := hs.blk HB.out.1
  have hb := hs.blk HB.out.2.1
  have hr := hs.blk HB.out.2.2.1
  have HS := Lib.hid (HB.out.2.2.2.trans hs)
  have hsz : w.heap.size + 1 + 1 < w2.heap.size := hr.lt
  have a_0 := ha.cell 0
  have a_1 := ha.cell 1
  have a_f0 := ha.frozen 0
  have a_f1 := ha.frozen 1
  simp only [List.getElem?_toArray, List.getElem?_cons_zero, List.getElem?_cons_succ] at a_0 a_1
  have b_0 := hb.cell 0
  have b_1 := hb.cell 1
  have b_f0 := hb.frozen 0
  have b_f1 := hb.frozen 1
  simp only [List.getElem?_toArray, List.getElem?_cons_zero, List.getElem?_cons_succ] at b_0 b_1
  have r_0 := hr.cell 0
  have r_1 := hr.cell 1
  have r_f0 := hr.frozen 0
  have r_f1 := hr.frozen 1
  simp only [List.getElem?_toArray, List.getElem?_cons_zero, List.getElem?_cons_succ] at r_0 r_1
  clear hs ha hb hr
  go_wp2
  refine bodyPost_ret (v := .agg #[.int .i64 (clampI bx - clampI ax), .int .i64 (clampI by_ - clampI ay)]) (by simp [results, Try.results79, go_sem, cSetS, cSetO, r_0, r_1]) rfl ⟨rfl, ?_⟩
  exact (((((HS.out.setCell (by dsimp only; omega) _).setCell (by dsimp only; omega) _).setCell (by dsimp only; omega) _).setCell (by dsimp only; omega) _).setCell (by dsimp only; omega) _).setCell (by dsimp only; omega) _

set_option maxHeartbeats 1000000 in
theorem Cross_any (ax ay bx by_ cx cy : Int) (w : World) : Calls Try.prog 78 #[.agg #[.int .i64 ax, .int .i64 ay], .agg #[.int .i64 bx, .int .i64 by_], .agg #[.int .i64 cx, .int .i64 cy]] w fun e w' =>
    e = .returned (.int .i64 (crossV (clampI ax) (clampI ay) (clampI bx) (clampI by_) (clampI cx) (clampI cy))) ∧ Since w w' := by
  have q1 := clampI_bd ax
  have q2 := clampI_bd ay
  have q3 := clampI_bd bx
  have q4 := clampI_bd by_
  have q5 := clampI_bd cx
  have q6 := clampI_bd cy
  have m1 : ((clampI bx - clampI ax) * (clampI cy - clampI ay)).natAbs ≤ 4398046511104 := Nat.le_trans (mul_bd (A := 2097152) (B := 2097152) (by omega) (by omega)) (by decide)
  have m2 : ((clampI by_ - clampI ay) * (clampI cx - clampI ax)).natAbs ≤ 4398046511104 := Nat.le_trans (mul_bd (A := 2097152) (B := 2097152) (by omega) (by omega)) (by decide)
  have e1 : wrap64 ((clampI bx - clampI ax) * (clampI cy - clampI ay)) = (clampI bx - clampI ax) * (clampI cy - clampI ay) := wrap_id (by omega)
  have e2 : wrap64 ((clampI by_ - clampI ay) * (clampI cx - clampI ax)) = (clampI by_ - clampI ay) * (clampI cx - clampI ax) := wrap_id (by omega)
  have e3 : wrap64 ((clampI bx - clampI ax) * (clampI cy - clampI ay) - (clampI by_ - clampI ay) * (clampI cx - clampI ax)) = (clampI bx - clampI ax) * (clampI cy - clampI ay) - (clampI by_ - clampI ay) * (clampI cx - clampI ax) := wrap_id (by omega)
  clear m1 m2 q1 q2 q3 q4 q5 q6
  go_enter Try.func78, Try.ntmps78
  go_upto_region 1 with fail
  refine atW (fun w' => Blk w' w.heap.size 26 #[.int .i64 ax, .int .i64 ay] ∧ Blk w' (w.heap.size + 1) 26 #[.int .i64 bx, .int .i64 by_] ∧ Blk w' (w.heap.size + 1 + 1) 26 #[.int .i64 cx, .int .i64 cy] ∧ Since w w') ⟨((Blk.new w _ _).alloc _).alloc _, (Blk.new' (by simp)).alloc _, Blk.new' (by simp), (((Since.rfl_ w).alloc _).alloc _).alloc _⟩ ?_
  rintro w1 ⟨ha, hb, hr, hs⟩
  have a0 : w1.cell? ⟨w.heap.size, 0, none⟩ = some (.int .i64 ax) := ha.cell 0
  have a1 : w1.cell? ⟨w.heap.size, 1, none⟩ = some (.int .i64 ay) := ha.cell 1
  have b0 : w1.cell? ⟨w.heap.size + 1, 0, none⟩ = some (.int .i64 bx) := hb.cell 0
  have b1 : w1.cell? ⟨w.heap.size + 1, 1, none⟩ = some (.int .i64 by_) := hb.cell 1
  have c0 : w1.cell? ⟨w.heap.size + 1 + 1, 0, none⟩ = some (.int .i64 cx) := hr.cell 0
  have c1 : w1.cell? ⟨w.heap.size + 1 + 1, 1, none⟩ = some (.int .i64 cy) := hr.cell 1
  have HB := Lib.hid (And.intro ha (And.intro hb (And.intro hr hs)))
  clear ha hb hr hs
  apply region_facts 8 (fun w' => w'.cell? ⟨w.heap.size, 0, none⟩ = some (.int .i64 ax) ∧ w'.cell? ⟨w.heap.size, 1, none⟩ = some (.int .i64 ay) ∧ w'.cell? ⟨w.heap.size + 1, 0, none⟩ = some (.int .i64 bx) ∧ w'.cell? ⟨w.heap.size + 1, 1, none⟩ = some (.int .i64 by_) ∧ w'.cell? ⟨w.heap.size + 1 + 1, 0, none⟩ = some (.int .i64 cx) ∧ w'.cell? ⟨w.heap.size + 1 + 1, 1, none⟩ = some (.int .i64 cy) ∧ Since w1 w')
  case hm => kernel_rfl
  case hB => kernel_rfl
  case hS => exact ⟨a0, a1, b0, b1, c0, c1, (Since.rfl_ w1).drew⟩
  case h =>
  simp only [List.take_succ_cons, List.take_zero, List.drop_succ_cons, List.drop_zero]
  apply wpO_det
  case hw => rfl
  case h =>
    intro hFm wx hS_ hF_ K hK
    go_big_quiet_op
    first
      | exact hK _ rfl
      | (apply Exists.intro; refine ⟨fun _ => ?_, ?_⟩; (focus (first | (intro hC; have hC := hC.out; (try simp only [hC, Result.andThen]); first | exact ⟨True.intro, rfl⟩ | exact ⟨rfl, rfl⟩ | rfl))); exact hK _ rfl)
  case k =>
  simp only [Act.put, List.setIfInBounds_toArray, List.set_cons_succ, List.set_cons_zero, List.cons_append, List.nil_append]
  apply wpO_det
  case hw => rfl
  case h =>
    intro hFm wx hS_ hF_ K hK
    go_big_quiet_op
    first
      | exact hK _ rfl
      | (apply Exists.intro; refine ⟨fun _ => ?_, ?_⟩; (focus (first | (intro hC; have hC := hC.out; (try simp only [hC, Result.andThen]); first | exact ⟨True.intro, rfl⟩ | exact ⟨rfl, rfl⟩ | rfl))); exact hK _ rfl)
  case k =>
  simp only [Act.put, List.setIfInBounds_toArray, List.set_cons_succ, List.set_cons_zero, List.cons_append, List.nil_append]
  apply wpO_det
  case hw => rfl
  case h =>
    intro hFm wx hS_ hF_ K hK
    go_big_quiet_op
    first
      | exact hK _ rfl
      | (apply Exists.intro; refine ⟨fun _ => ?_, ?_⟩; (focus (first | (intro hC; go_at_call 79; refine (way_any _ _ _ _ _).mono ?_; rintro e w' ⟨rfl, hb⟩; refine ⟨rfl, ?_⟩; exact cls_call hFm hC hb))); exact hK _ rfl)
  case k =>
  simp only [Act.put, List.setIfInBounds_toArray, List.set_cons_succ, List.set_cons_zero, List.cons_append, List.nil_append]
  apply wpO_det
  case hw => rfl
  case h =>
    intro hFm wx hS_ hF_ K hK
    go_big_quiet_op
    first
      | exact hK _ rfl
      | (apply Exists.intro; refine ⟨fun _ => ?_, ?_⟩; (focus (first | (intro hC; have hC := hC.out; (try simp only [hC, Result.andThen]); first | exact ⟨True.intro, rfl⟩ | exact ⟨rfl, rfl⟩ | rfl))); exact hK _ rfl)
  case k =>
  simp only [Act.put, List.setIfInBounds_toArray, List.set_cons_succ, List.set_cons_zero, List.cons_append, List.nil_append]
  apply wpO_det
  case hw => rfl
  case h =>
    intro hFm wx hS_ hF_ K hK
    go_big_quiet_op
    first
      | exact hK _ rfl
      | (apply Exists.intro; refine ⟨fun _ => ?_, ?_⟩; (focus (first | (intro hC; have hC := hC.out; (try simp only [hC, Result.andThen]); first | exact ⟨True.intro, rfl⟩ | exact ⟨rfl, rfl⟩ | rfl))); exact hK _ rfl)
  case k =>
  simp only [Act.put, List.setIfInBounds_toArray, List.set_cons_succ, List.set_cons_zero, List.cons_append, List.nil_append]
  apply wpO_det
  case hw => rfl
  case h =>
    intro hFm wx hS_ hF_ K hK
    go_big_quiet_op
    first
      | exact hK _ rfl
      | (apply Exists.intro; refine ⟨fun _ => ?_, ?_⟩; (focus (first | (intro hC; go_at_call 79; refine (way_any _ _ _ _ _).mono ?_; rintro e w' ⟨rfl, hb⟩; refine ⟨rfl, ?_⟩; exact cls_call hFm hC hb))); exact hK _ rfl)
  case k =>
  simp only [Act.put, List.setIfInBounds_toArray, List.set_cons_succ, List.set_cons_zero, List.cons_append, List.nil_append]
  apply wpO_mk (f := fun g => .pointer (some ⟨g, 0, none⟩)) (t := 26) (cs := #[.int .i64 0, .int .i64 0])
  case hi => (intro g g' h; simpa using h)
  case hw => rfl
  case h => (intro w; simp [go_sem])
  case k =>
  intro g1
  simp only [Act.put, List.setIfInBounds_toArray, List.set_cons_succ, List.set_cons_zero, List.cons_append, List.nil_append]
  apply wpO_mk (f := fun g => .pointer (some ⟨g, 0, none⟩)) (t := 26) (cs := #[.int .i64 0, .int .i64 0])
  case hi => (intro g g' h; simpa using h)
  case hw => rfl
  case h => (intro w; simp [go_sem])
  case k =>
  intro g2
  simp only [Act.put, List.setIfInBounds_toArray, List.set_cons_succ, List.set_cons_zero, List.cons_append, List.nil_append]
  refine wpO_nil ?_
  intro w2 hS hF hB
  (try simp [allF] at hF)
  (try simp [List.pairwise_cons] at hB)
  obtain ⟨⟨h1, l1⟩, h2, l2⟩ := hF
  have p_0 := h1.cell 0
  have p_1 := h1.cell 1
  have p_f0 := h1.frozen 0
  have p_f1 := h1.frozen 1
  simp only [List.getElem?_toArray, List.getElem?_cons_zero, List.getElem?_cons_succ] at p_0 p_1
  have q_0 := h2.cell 0
  have q_1 := h2.cell 1
  have q_f0 := h2.frozen 0
  have q_f1 := h2.frozen 1
  simp only [List.getElem?_toArray, List.getElem?_cons_zero, List.getElem?_cons_succ] at q_0 q_1
  have HS := Lib.hid (HB.out.2.2.2.trans hS.2.2.2.2.2.2)
  have hsz := HB.out.2.2.2.size
  clear hS h1 h2 a0 a1 b0 b1 c0 c1 HB
  go_wp2
  go_ret
  exact ⟨ret_int (by unfold crossV; first | exact e3 | rfl), (((HS.out.setCell (by dsimp only; omega) _).setCell (by dsimp only; omega) _).setCell (by dsimp only; omega) _).setCell (by dsimp only; omega) _⟩

def turnV (ax ay bx by_ px py : Int) : Int := cmpI (crossV (clampI ax) (clampI ay) (clampI bx) (clampI by_) (clampI px) (clampI py)) 0
theorem Turn_any (ax ay bx by_ cx cy : Int) (w : World) : Calls Try.prog 38 #[.agg #[.int .i64 ax, .int .i64 ay], .agg #[.int .i64 bx, .int .i64 by_], .agg #[.int .i64 cx, .int .i64 cy]] w fun e w' =>
    e = .returned (.int .i64 (turnV ax ay bx by_ cx cy)) ∧ Since w w' := by
  go_enter Try.func38, Try.ntmps38
  go_wp2_with fail
  refine (Cross_any _ _ _ _ _ _ _).mono ?_
  rintro e w1 ⟨rfl, hs⟩
  have HS := Lib.hid ((((Since.rfl_ w).alloc _).alloc _).alloc _ |>.trans hs)
  clear hs
  go_wp2_with (go_at_call 77; refine (Compare_any _ _ _).mono ?_; rintro e w' ⟨rfl, rfl⟩)
  go_ret
  exact ⟨rfl, HS.out⟩

def hasV (lx ly hx hy px py : Int) : Bool := decide (lx ≤ px) && decide (px ≤ hx) && decide (ly ≤ py) && decide (py ≤ hy)
def meetV (lx ly hx hy mx my nx ny : Int) : Bool := hasV lx ly hx hy (max lx mx) (max ly my) && hasV mx my nx ny (max lx mx) (max ly my)
end Go.Proofs.Ytdbknodifpmmoaa
end
section
namespace Go.Proofs.Ytdbknodifpmmoaa
set_option linter.unusedSimpArgs false
set_option linter.unusedVariables false

/-- The cross product of the ways from a to b and from a to c. -/
def crs (a b c : Pt2) : Int := crossV a.1 a.2 b.1 b.2 c.1 c.2
/-- Before, by X, then by Y. -/
def lxB (a b : Pt2) : Bool := decide (a.1 < b.1) || (decide (a.1 = b.1) && decide (a.2 < b.2))
def lx (a b : Pt2) : Prop := a.1 < b.1 ∨ (a.1 = b.1 ∧ a.2 < b.2)
theorem lx_trans {a b c : Pt2} (h : lx a b) (k : lx b c) : lx a c := by unfold lx at *; omega
theorem lx_irr (a : Pt2) : ¬ lx a a := by unfold lx; omega
theorem lx_tri (a b : Pt2) : lx a b ∨ a = b ∨ lx b a := by
  obtain ⟨a1, a2⟩ := a
  obtain ⟨b1, b2⟩ := b
  simp only [lx, Prod.mk.injEq]; omega
theorem lx_asy {a b : Pt2} (h : lx a b) (k : lx b a) : False := lx_irr _ (lx_trans h k)
/-- A way to a later point. -/
def upw (x y : Int) : Prop := 0 < x ∨ (x = 0 ∧ 0 < y)
theorem lx_upw {a b : Pt2} : lx a b ↔ upw (b.1 - a.1) (b.2 - a.2) := by unfold lx upw; omega
/-- Among ways to later points 'at most as steep' is transitive. -/
theorem steep_trans {x1 y1 x2 y2 x3 y3 : Int} (u1 : upw x1 y1) (u2 : upw x2 y2) (u3 : upw x3 y3) (h : 0 ≤ x1 * y2 - y1 * x2) (k : 0 ≤ x2 * y3 - y2 * x3) : 0 ≤ x1 * y3 - y1 * x3 := by
  rcases u2 with h2 | ⟨h2, h2'⟩
  · rcases u1 with h1 | ⟨h1, h1'⟩
    · rcases u3 with h3 | ⟨h3, h3'⟩
      · have a := Int.mul_nonneg h (Int.le_of_lt h3)
        have b := Int.mul_nonneg k (Int.le_of_lt h1)
        have : 0 ≤ x2 * (x1 * y3 - y1 * x3) := by grind
        exact Int.nonneg_of_mul_nonneg_right this h2 |> id
      · subst h3
        have := Int.mul_nonneg (Int.le_of_lt h1) (Int.le_of_lt h3')
        grind
    · subst h1
      have := Int.mul_pos h1' h2
      grind
  · subst h2
    rcases u3 with h3 | ⟨h3, h3'⟩
    · have := Int.mul_pos h2' h3
      grind
    · subst h3
      rcases u1 with h1 | ⟨h1, h1'⟩
      · have := Int.mul_nonneg (Int.le_of_lt h1) (Int.le_of_lt h3')
        grind
      · subst h1; simp
theorem steep_lt {x1 y1 x2 y2 x3 y3 : Int} (u1 : upw x1 y1) (u2 : upw x2 y2) (u3 : upw x3 y3) (h : 0 < x1 * y2 - y1 * x2) (k : 0 ≤ x2 * y3 - y2 * x3) : 0 < x1 * y3 - y1 * x3 := by
  have h1 := steep_trans u1 u2 u3 (Int.le_of_lt h) k
  rcases Int.lt_or_eq_of_le h1 with g | g
  · exact g
  · exfalso
    have h2 := steep_trans u2 u3 u1 k (by grind)
    grind
theorem steep_lt' {x1 y1 x2 y2 x3 y3 : Int} (u1 : upw x1 y1) (u2 : upw x2 y2) (u3 : upw x3 y3) (h : 0 ≤ x1 * y2 - y1 * x2) (k : 0 < x2 * y3 - y2 * x3) : 0 < x1 * y3 - y1 * x3 := by
  have h1 := steep_trans u1 u2 u3 h (Int.le_of_lt k)
  rcases Int.lt_or_eq_of_le h1 with g | g
  · exact g
  · exfalso
    have h2 := steep_trans u3 u1 u2 (by grind) h
    grind

/-- The chain (the last point first) without the points at which it does not turn left on the way to p. -/
def popC (p : Pt2) : List Pt2 → List Pt2
  | b :: a :: s => if crs a b p ≤ 0 then popC p (a :: s) else b :: a :: s
  | s => s
def pushC (s : List Pt2) (p : Pt2) : List Pt2 := p :: popC p s
def chainT (l : List Pt2) : List Pt2 := l.foldl pushC []
def Inc : List Pt2 → Prop
  | b :: a :: s => lx a b ∧ Inc (a :: s)
  | _ => True
def Conv : List Pt2 → Prop
  | c :: b :: a :: s => 0 < crs a b c ∧ Conv (b :: a :: s)
  | _ => True
/-- All points of X lie to the left of each edge, or on it. -/
def Lft (X : List Pt2) : List Pt2 → Prop
  | b :: a :: s => (∀ x ∈ X, 0 ≤ crs a b x) ∧ Lft X (a :: s)
  | _ => True
theorem inc_lt : ∀ {s : List Pt2} {b q : Pt2}, Inc (b :: s) → q ∈ s → lx q b
  | a :: s, b, q, h, hq => by
    rcases List.mem_cons.1 hq with rfl | hq
    · exact h.1
    · exact lx_trans (inc_lt h.2 hq) h.1
theorem crs_sub (a b c : Pt2) : crs a b c = (b.1 - a.1) * (c.2 - b.2) - (b.2 - a.2) * (c.1 - b.1) := by unfold crs crossV; grind
theorem crs_self (a b : Pt2) : crs a b b = 0 ∧ crs a b a = 0 ∧ crs a a b = 0 := by unfold crs crossV; refine ⟨?_, ?_, ?_⟩ <;> grind
/-- a, b, x, p ..: from a, b is at least as steep as p, and x at least as steep as b. -/
theorem crs_mid {a b p x : Pt2} (hp : lx a p) (hb : lx a b) (hx : lx a x) (h : crs a b p ≤ 0) (k : 0 ≤ crs a b x) : 0 ≤ crs a p x := by
  have := steep_trans (lx_upw.1 hp) (lx_upw.1 hb) (lx_upw.1 hx) (by unfold crs crossV at h; grind) (by unfold crs crossV at k; exact k)
  unfold crs crossV; exact this
/-- x before b, a before b, p behind b. -/
theorem crs_end {a b p x : Pt2} (hx : lx x b) (ha : lx a b) (hp : lx b p) (h : 0 < crs a b p) (k : 0 ≤ crs a b x) : 0 < crs b p x := by
  have := steep_lt' (lx_upw.1 hx) (lx_upw.1 ha) (lx_upw.1 hp) (by unfold crs crossV at k; grind) (by rw [crs_sub] at h; exact h)
  unfold crs crossV; grind
/-- c, a, b, p in this order, turning left. -/
theorem crs_far {c a b p : Pt2} (hc : lx c a) (hb : lx a b) (hp : lx a p) (h : 0 < crs c a b) (k : 0 ≤ crs a b p) : 0 < crs c a p := by
  have := steep_lt (lx_upw.1 hc) (lx_upw.1 hb) (lx_upw.1 hp) (by rw [crs_sub] at h; exact h) (by unfold crs crossV at k; exact k)
  rw [crs_sub]; exact this
theorem popC_spec {X : List Pt2} {p : Pt2} (hp : ∀ x ∈ X, lx x p) : ∀ (s : List Pt2), s ≠ [] → Inc s → Conv s → Lft X s → (∀ q ∈ s, q ∈ X) → (∀ b r, s = b :: r → ∀ x ∈ X, lx b x → 0 ≤ crs b p x) →
    popC p s ≠ [] ∧ Inc (popC p s) ∧ Conv (popC p s) ∧ Lft X (popC p s) ∧ (∀ q ∈ popC p s, q ∈ X) ∧ (popC p s).getLast? = s.getLast? ∧
    (∀ b a r, popC p s = b :: a :: r → 0 < crs a b p) ∧ (∀ b r, popC p s = b :: r → ∀ x ∈ X, lx b x → 0 ≤ crs b p x)
  | [], h, _, _, _, _, _ => absurd rfl h
  | [b], _, hi, hc, hl, hm, hk => ⟨by simp [popC], hi, hc, hl, hm, rfl, fun b a r e => by simp [popC] at e, hk⟩
  | b :: a :: s, _, hi, hc, hl, hm, hk => by
    rw [popC]
    by_cases h : crs a b p ≤ 0
    · rw [if_pos h]
      have hc' : Conv (a :: s) := by
        cases s with
        | nil => trivial
        | cons c s => exact hc.2
      have := popC_spec hp (a :: s) (by simp) hi.2 hc' hl.2 (fun q hq => hm q (List.mem_cons_of_mem _ hq)) (fun b' r e x hx hlt => by
        injection e with e1 e2
        subst e1
        exact crs_mid (hp _ (hm _ (by simp))) hi.1 hlt h (hl.1 x hx))
      refine ⟨this.1, this.2.1, this.2.2.1, this.2.2.2.1, this.2.2.2.2.1, ?_, this.2.2.2.2.2.2⟩
      rw [this.2.2.2.2.2.1]; rfl
    · rw [if_neg h]
      refine ⟨by simp, hi, hc, hl, hm, rfl, fun b' a' r e => ?_, hk⟩
      injection e with e1 e2
      injection e2 with e2 e3
      subst e1 e2
      omega
structure GoodC (X s : List Pt2) : Prop where
  ne : s ≠ []
  inc : Inc s
  conv : Conv s
  lft : Lft X s
  mem : ∀ q ∈ s, q ∈ X
  top : ∀ b r, s = b :: r → ∀ x ∈ X, x = b ∨ lx x b
  bot : ∀ b, s.getLast? = some b → ∀ x ∈ X, x = b ∨ lx b x
theorem lft_far {X : List Pt2} {p : Pt2} : ∀ (s : List Pt2), Inc s → Conv s → (∀ q ∈ s, lx q p) → (∀ b a r, s = b :: a :: r → 0 < crs a b p) → Lft X s → Lft (X ++ [p]) s
  | [], _, _, _, _, _ => trivial
  | [_], _, _, _, _, _ => trivial
  | b :: a :: s, hi, hc, hq, hk, hl => by
    have h1 := hk b a s rfl
    refine ⟨fun x hx => ?_, ?_⟩
    · rcases List.mem_append.1 hx with h | h
      · exact hl.1 x h
      · rw [List.mem_singleton.1 h]; omega
    · cases s with
      | nil => trivial
      | cons c s =>
        refine lft_far (a :: c :: s) hi.2 hc.2 (fun q h => hq q (List.mem_cons_of_mem _ h)) (fun b' a' r e => ?_) hl.2
        injection e with e1 e2
        injection e2 with e2 e3
        subst e1 e2
        exact crs_far hi.2.1 hi.1 (hq _ (by simp)) hc.1 (Int.le_of_lt h1)
theorem GoodC.push {X s : List Pt2} {p : Pt2} (h : GoodC X s) (hp : ∀ x ∈ X, lx x p) : GoodC (X ++ [p]) (pushC s p) := by
  have key := popC_spec hp s h.ne h.inc h.conv h.lft h.mem (fun b r e x hx hlt => by
    rcases h.top b r e x hx with g | g
    · rw [g] at hlt; exact absurd hlt (lx_irr _)
    · exact (lx_asy hlt g).elim)
  unfold pushC
  obtain ⟨k1, k2, k3, k4, k5, k6, k7, k8⟩ := key
  cases hs : popC p s with
  | nil => exact absurd hs k1
  | cons b r =>
    rw [hs] at k2 k3 k4 k5 k6 k7 k8
    have hb := k5 b (by simp)
    refine ⟨by simp, ⟨hp b hb, k2⟩, ?_, ⟨fun x hx => ?_, ?_⟩, fun q hq => ?_, fun b' r' e x hx => ?_, fun q hq x hx => ?_⟩
    · cases r with
      | nil => trivial
      | cons a r => exact ⟨k7 b a r rfl, k3⟩
    · rcases List.mem_append.1 hx with g | g
      · rcases lx_tri x b with t | t | t
        · cases r with
          | nil =>
            have := h.bot b (by rw [← k6]; rfl) x g
            rcases this with u | u
            · rw [u] at t; exact absurd t (lx_irr _)
            · exact (lx_asy t u).elim
          | cons a r => exact Int.le_of_lt (crs_end t k2.1 (hp b hb) (k7 b a r rfl) (k4.1 x g))
        · rw [t]; have := (crs_self b p).2.1; omega
        · exact k8 b r rfl x g t
      · rw [List.mem_singleton.1 g]; have := (crs_self b p).1; omega
    · exact lft_far _ k2 k3 (fun q hq => hp q (k5 q hq)) k7 k4
    · rcases List.mem_cons.1 hq with rfl | hq
      · simp
      · exact List.mem_append.2 (.inl (k5 q hq))
    · injection e with e1 e2
      subst e1
      rcases List.mem_append.1 hx with g | g
      · exact .inr (hp x g)
      · exact .inl (List.mem_singleton.1 g)
    · rw [List.getLast?_cons_cons, k6] at hq
      rcases List.mem_append.1 hx with g | g
      · exact h.bot q hq x g
      · rw [List.mem_singleton.1 g]
        exact .inr (hp q (h.mem q (List.mem_of_getLast? hq)))
/-- Points in their order, each one once. -/
def Srt (X : List Pt2) : Prop := X.Pairwise lx
theorem chain_fold {p : Pt2} : ∀ (Y X s : List Pt2), GoodC X s → (∀ x ∈ X, ∀ y ∈ Y, lx x y) → Srt Y → GoodC (X ++ Y) (Y.foldl pushC s)
  | [], X, s, h, _, _ => by rw [List.append_nil]; exact h
  | y :: Y, X, s, h, hxy, hs => by
    rw [List.foldl_cons, show X ++ y :: Y = (X ++ [y]) ++ Y by simp]
    unfold Srt at hs
    rw [List.pairwise_cons] at hs
    refine chain_fold (p := p) Y (X ++ [y]) _ (h.push fun x hx => hxy x hx y (by simp)) (fun x hx z hz => ?_) hs.2
    rcases List.mem_append.1 hx with g | g
    · exact hxy x g z (by simp [hz])
    · rw [List.mem_singleton.1 g]; exact hs.1 z hz
theorem chain_good {X : List Pt2} (hs : Srt X) (hne : X ≠ []) : GoodC X (chainT X) := by
  cases X with
  | nil => exact absurd rfl hne
  | cons x X =>
    unfold Srt at hs
    rw [List.pairwise_cons] at hs
    unfold chainT
    rw [List.foldl_cons]
    have h0 : GoodC [x] (pushC [] x) := by
      refine ⟨by simp [pushC], trivial, trivial, trivial, fun q hq => by simpa [pushC, popC] using hq, fun b r e y hy => ?_, fun b hb y hy => ?_⟩
      · simp [pushC, popC] at e; left; rw [List.mem_singleton.1 hy]; exact e.1
      · simp [pushC, popC] at hb; left; rw [List.mem_singleton.1 hy]; exact hb
    exact chain_fold (p := x) X [x] _ h0 (fun a ha b hb => by rw [List.mem_singleton.1 ha]; exact hs.1 b hb) hs.2
/-- There is one such chain. -/
theorem chain_one {X : List Pt2} : ∀ (s s' : List Pt2) (t : Pt2) (r r' : List Pt2), s = t :: r → s' = t :: r' → Inc s → Conv s → Lft X s → (∀ q ∈ s, q ∈ X) → (∀ b, s.getLast? = some b → ∀ x ∈ X, x = b ∨ lx b x) →
    Inc s' → Conv s' → Lft X s' → (∀ q ∈ s', q ∈ X) → (∀ b, s'.getLast? = some b → ∀ x ∈ X, x = b ∨ lx b x) → s = s'
  | _, _, t, [], [], rfl, rfl, _, _, _, _, _, _, _, _, _, _ => rfl
  | _, _, t, [], b' :: r', rfl, rfl, i, c, l, m, b, i', c', l', m', _ => by
    exfalso
    rcases b t rfl b' (m' b' (by simp)) with h | h
    · rw [h] at i'; exact lx_irr _ i'.1
    · exact lx_asy h i'.1
  | _, _, t, b' :: r', [], rfl, rfl, i, c, l, m, _, i', c', l', m', b => by
    exfalso
    rcases b t rfl b' (m b' (by simp)) with h | h
    · rw [h] at i; exact lx_irr _ i.1
    · exact lx_asy h i.1
  | _, _, t, a :: r, b :: r', rfl, rfl, i, c, l, m, bo, i', c', l', m', bo' => by
    have key : ∀ {a b : Pt2} {r : List Pt2}, Inc (t :: a :: r) → Conv (t :: a :: r) → Lft X (t :: a :: r) → (∀ q, (t :: a :: r).getLast? = some q → ∀ x ∈ X, x = q ∨ lx q x) → b ∈ X → lx b t → 0 ≤ crs b t a → ¬ lx b a := by
      intro a b r i c l bo hb hbt h1 hlt
      have h0 := l.1 b hb
      cases r with
      | nil =>
        rcases bo a rfl b hb with h | h
        · rw [h] at hlt; exact lx_irr _ hlt
        · exact lx_asy h hlt
      | cons d r =>
        have h2 := l.2.1 b hb
        have h3 := crs_end hlt i.2.1 i.1 c.1 h2
        unfold crs crossV at h0 h1 h3
        grind
    have hbX := m' b (by simp)
    have haX := m a (by simp)
    have e : a = b := by
      rcases lx_tri a b with h | h | h
      · exact absurd h (key i' c' l' bo' haX i.1 (l.1 b hbX))
      · exact h
      · exact absurd h (key i c l bo hbX i'.1 (l'.1 a haX))
    subst e
    have cr : Conv (a :: r) := by cases r with | nil => trivial | cons _ _ => exact c.2
    have cr' : Conv (a :: r') := by cases r' with | nil => trivial | cons _ _ => exact c'.2
    have := chain_one (a :: r) (a :: r') a r r' rfl rfl i.2 cr l.2 (fun q hq => m q (List.mem_cons_of_mem _ hq)) (fun q hq => bo q (by rw [List.getLast?_cons_cons]; exact hq)) i'.2 cr' l'.2 (fun q hq => m' q (List.mem_cons_of_mem _ hq)) (fun q hq => bo' q (by rw [List.getLast?_cons_cons]; exact hq))
    rw [this]
theorem GoodC.one {X s s' : List Pt2} (h : GoodC X s) (h' : GoodC X s') : s = s' := by
  cases hs : s with
  | nil => exact absurd hs h.ne
  | cons t r =>
    cases hs' : s' with
    | nil => exact absurd hs' h'.ne
    | cons t' r' =>
      have e : t = t' := by
        rcases h.top t r hs t' (h'.mem t' (by rw [hs']; simp)) with g | g
        · exact g.symm
        · rcases h'.top t' r' hs' t (h.mem t (by rw [hs]; simp)) with k | k
          · exact k
          · exact (lx_asy g k).elim
      subst e
      rw [← hs, ← hs']
      exact chain_one s s' t r r' hs hs' h.inc h.conv h.lft h.mem h.bot h'.inc h'.conv h'.lft h'.mem h'.bot

/-- On no edge's line lies a point of X that is beyond the edge's ends. -/
def Btw (X : List Pt2) : List Pt2 → Prop
  | b :: a :: s => (∀ x ∈ X, crs a b x = 0 → ¬ lx x a ∧ ¬ lx b x) ∧ Btw X (a :: s)
  | _ => True
theorem btw_of {X : List Pt2} : ∀ (s : List Pt2), Inc s → Conv s → Lft X s → (∀ b, s.getLast? = some b → ∀ x ∈ X, x = b ∨ lx b x) → (∀ b a r, s = b :: a :: r → ∀ x ∈ X, lx b x → 0 < crs a b x) → Btw X s
  | [], _, _, _, _, _ => trivial
  | [_], _, _, _, _, _ => trivial
  | [b, a], i, c, l, bo, up => ⟨fun x hx h => ⟨fun hlt => by
      rcases bo a rfl x hx with g | g
      · rw [g] at hlt; exact lx_irr _ hlt
      · exact lx_asy hlt g, fun hlt => by have := up b a [] rfl x hx hlt; omega⟩, trivial⟩
  | b :: a :: d :: s, i, c, l, bo, up => by
    refine ⟨fun x hx h => ⟨fun hlt => ?_, fun hlt => by have := up b a (d :: s) rfl x hx hlt; omega⟩, ?_⟩
    · have := crs_end hlt i.2.1 i.1 c.1 (l.2.1 x hx)
      omega
    · refine btw_of (a :: d :: s) i.2 c.2 l.2 (fun q hq => bo q (by rw [List.getLast?_cons_cons]; exact hq)) (fun b' a' r e x hx hlt => ?_)
      injection e with e1 e2
      injection e2 with e2 e3
      subst e1 e2
      have := crs_far i.2.1 i.1 hlt c.1 (l.1 x hx)
      rw [crs_sub] at this ⊢; exact this
theorem GoodC.btw {X s : List Pt2} (h : GoodC X s) : Btw X s := btw_of s h.inc h.conv h.lft h.bot fun b a r e x hx hlt => by
  rcases h.top b _ e x hx with g | g
  · rw [g] at hlt; exact absurd hlt (lx_irr _)
  · exact (lx_asy hlt g).elim
/-- Turned by half a circle. -/
def ng (p : Pt2) : Pt2 := (-p.1, -p.2)
theorem ng_ng (p : Pt2) : ng (ng p) = p := by unfold ng; simp
theorem crs_ng (a b c : Pt2) : crs (ng a) (ng b) (ng c) = crs a b c := by unfold crs crossV ng; grind
theorem lx_ng {a b : Pt2} : lx (ng a) (ng b) ↔ lx b a := by unfold lx ng; simp only; omega
theorem ng_inj {a b : Pt2} (h : ng a = ng b) : a = b := by rw [← ng_ng a, h, ng_ng]
theorem popC_ng (p : Pt2) : ∀ s : List Pt2, popC (ng p) (s.map ng) = (popC p s).map ng
  | [] => rfl
  | [_] => rfl
  | b :: a :: s => by
    have ih := popC_ng p (a :: s)
    rw [List.map_cons, List.map_cons, popC, popC, crs_ng]
    rw [List.map_cons] at ih
    split
    · exact ih
    · rfl
theorem fold_ng : ∀ (l s : List Pt2), (l.map ng).foldl pushC (s.map ng) = (l.foldl pushC s).map ng
  | [], s => rfl
  | p :: l, s => by
    rw [List.map_cons, List.foldl_cons, List.foldl_cons, ← fold_ng l]
    unfold pushC
    rw [popC_ng]; rfl
theorem chain_ng (l : List Pt2) : chainT (l.map ng) = (chainT l).map ng := fold_ng l []
theorem srt_ng {X : List Pt2} (h : Srt X) : Srt (X.reverse.map ng) := by
  unfold Srt at *
  rw [List.pairwise_map, List.pairwise_reverse]
  exact h.imp fun h => lx_ng.2 h
theorem upper_good {X : List Pt2} (hs : Srt X) (hne : X ≠ []) : GoodC (X.reverse.map ng) ((chainT X.reverse).map ng) := by
  rw [← chain_ng]
  exact chain_good (srt_ng hs) (by simpa using hne)
/-- The hull of points in their order. -/
def hullX (X : List Pt2) : List Pt2 := if X.length < 2 then X else (chainT X).tail.reverse ++ (chainT X.reverse).tail.reverse

theorem inc_at : ∀ {s : List Pt2}, Inc s → ∀ j, j + 1 < s.length → lx (pAt s (j + 1)) (pAt s j)
  | [], _, j, hj => by simp at hj
  | [_], _, j, hj => by simp at hj
  | b :: a :: s, h, 0, _ => h.1
  | b :: a :: s, h, j + 1, hj => inc_at h.2 j (by simpa using hj)
theorem conv_at : ∀ {s : List Pt2}, Conv s → ∀ j, j + 2 < s.length → 0 < crs (pAt s (j + 2)) (pAt s (j + 1)) (pAt s j)
  | [], _, j, hj => by simp at hj
  | [_], _, j, hj => by simp at hj
  | [_, _], _, j, hj => by simp only [List.length_cons, List.length_nil] at hj; omega
  | c :: b :: a :: s, h, 0, _ => h.1
  | c :: b :: a :: s, h, j + 1, hj => conv_at h.2 j (by simpa using hj)
theorem lft_at {X : List Pt2} : ∀ {s : List Pt2}, Lft X s → ∀ j, j + 1 < s.length → ∀ x ∈ X, 0 ≤ crs (pAt s (j + 1)) (pAt s j) x
  | [], _, j, hj => by simp at hj
  | [_], _, j, hj => by simp at hj
  | b :: a :: s, h, 0, _ => h.1
  | b :: a :: s, h, j + 1, hj => lft_at h.2 j (by simpa using hj)
theorem btw_at {X : List Pt2} : ∀ {s : List Pt2}, Btw X s → ∀ j, j + 1 < s.length → ∀ x ∈ X, crs (pAt s (j + 1)) (pAt s j) x = 0 → ¬ lx x (pAt s (j + 1)) ∧ ¬ lx (pAt s j) x
  | [], _, j, hj => by simp at hj
  | [_], _, j, hj => by simp at hj
  | b :: a :: s, h, 0, _ => h.1
  | b :: a :: s, h, j + 1, hj => btw_at h.2 j (by simpa using hj)
theorem inc_lt_at {s : List Pt2} (h : Inc s) : ∀ k j, 0 < k → j + k < s.length → lx (pAt s (j + k)) (pAt s j)
  | 0, _, h0, _ => by omega
  | 1, j, _, hj => inc_at h j hj
  | k + 2, j, _, hj => lx_trans (inc_at h (j + (k + 1)) (by omega)) (inc_lt_at h (k + 1) j (by omega) (by omega))
theorem pAt_mem {s : List Pt2} {i : Nat} (h : i < s.length) : pAt s i ∈ s := by unfold pAt; simp [List.getD, h]
theorem mem_pAt {s : List Pt2} {p : Pt2} (h : p ∈ s) : ∃ i, i < s.length ∧ pAt s i = p := by
  obtain ⟨i, hi, rfl⟩ := List.mem_iff_getElem.1 h
  exact ⟨i, hi, by simp [pAt, List.getD, hi]⟩
theorem pAt_map {s : List Pt2} {i : Nat} (h : i < s.length) : pAt (s.map ng) i = ng (pAt s i) := by unfold pAt; simp [List.getD, h]
/-- x lies at an end or between the ends, in the order of points. -/
def bet (a b x : Pt2) : Prop := x = a ∨ x = b ∨ (lx a x ∧ lx x b) ∨ (lx b x ∧ lx x a)
/-- An edge: all points lie to the left of it, or on it, between its ends. -/
def Edge (X : List Pt2) (a b : Pt2) : Prop := a ≠ b ∧ (∀ x ∈ X, 0 ≤ crs a b x) ∧ ∀ x ∈ X, crs a b x = 0 → bet a b x
/-- What is known of the two chains: s from the greatest point down to the least one, u back. -/
structure Two (X s u : List Pt2) : Prop where
  s2 : 2 ≤ s.length
  u2 : 2 ≤ u.length
  low : GoodC X s
  upp : GoodC (X.reverse.map ng) (u.map ng)
  e1 : pAt s 0 = pAt u (u.length - 1)
  e2 : pAt u 0 = pAt s (s.length - 1)
theorem srt_two {X : List Pt2} (hs : Srt X) (h2 : 2 ≤ X.length) : ∃ x y, x ∈ X ∧ y ∈ X ∧ lx x y := by
  match X, hs, h2 with
  | x :: y :: r, hs, _ =>
    unfold Srt at hs
    rw [List.pairwise_cons] at hs
    exact ⟨x, y, by simp, by simp, hs.1 y (by simp)⟩
theorem good_two {X s : List Pt2} (h : GoodC X s) {x y : Pt2} (hx : x ∈ X) (hy : y ∈ X) (hl : lx x y) : 2 ≤ s.length := by
  match s, h with
  | [], h => exact absurd rfl h.ne
  | [b], h =>
    exfalso
    have h1 := h.top b [] rfl
    have h2 := h.bot b rfl
    have a : ∀ z ∈ X, z = b := fun z hz => by
      rcases h1 z hz with g | g
      · exact g
      · rcases h2 z hz with k | k
        · exact k
        · exact (lx_asy g k).elim
    rw [a x hx, a y hy] at hl
    exact lx_irr _ hl
  | _ :: _ :: _, _ => simp
theorem last_pAt {s : List Pt2} (h : s ≠ []) : s.getLast? = some (pAt s (s.length - 1)) := by
  rw [List.getLast?_eq_getElem?]
  have : s.length - 1 < s.length := by have := List.length_pos_iff.2 h; omega
  simp [pAt, List.getD, this]
theorem head_pAt {s : List Pt2} (h : s ≠ []) : ∃ r, s = pAt s 0 :: r := by
  cases s with
  | nil => exact absurd rfl h
  | cons b r => exact ⟨r, rfl⟩
theorem GoodC.greatest {X s : List Pt2} (h : GoodC X s) : ∀ x ∈ X, x = pAt s 0 ∨ lx x (pAt s 0) := by
  obtain ⟨r, hr⟩ := head_pAt h.ne
  exact h.top _ r hr
theorem GoodC.least {X s : List Pt2} (h : GoodC X s) : ∀ x ∈ X, x = pAt s (s.length - 1) ∨ lx (pAt s (s.length - 1)) x := h.bot _ (last_pAt h.ne)
theorem mem_ng {X : List Pt2} {x : Pt2} : x ∈ X → ng x ∈ X.reverse.map ng := fun h => List.mem_map.2 ⟨x, by simpa using h, rfl⟩
theorem two_of {X : List Pt2} (hs : Srt X) (h2 : 2 ≤ X.length) : Two X (chainT X) (chainT X.reverse) := by
  have hne : X ≠ [] := by intro e; rw [e] at h2; simp at h2
  have g1 := chain_good hs hne
  have g2 := upper_good hs hne
  obtain ⟨x, y, hx, hy, hl⟩ := srt_two hs h2
  have l1 := good_two g1 hx hy hl
  have l2 := good_two g2 (mem_ng hy) (mem_ng hx) (lx_ng.2 hl)
  rw [List.length_map] at l2
  refine ⟨l1, l2, g1, g2, ?_, ?_⟩
  · -- both are the greatest
    have m1 := g1.mem _ (pAt_mem (i := 0) (by omega))
    have m2 := g2.mem _ (pAt_mem (i := (chainT X.reverse).length - 1) (by rw [List.length_map]; omega))
    rw [pAt_map (by omega)] at m2
    obtain ⟨z, hz, e⟩ := List.mem_map.1 m2
    have e := ng_inj e
    subst e
    have a1 := g1.greatest _ (by simpa using hz)
    have a2 := g2.least _ (mem_ng m1)
    rw [List.length_map, pAt_map (by omega)] at a2
    rcases a1 with a | a
    · exact a.symm
    · rcases a2 with b | b
      · exact ng_inj b
      · exact (lx_asy a (lx_ng.1 b)).elim
  · have m1 := g1.mem _ (pAt_mem (i := (chainT X).length - 1) (by omega))
    have m2 := g2.mem _ (pAt_mem (i := 0) (by rw [List.length_map]; omega))
    rw [pAt_map (by omega)] at m2
    obtain ⟨z, hz, e⟩ := List.mem_map.1 m2
    have e := ng_inj e
    subst e
    have a1 := g1.least _ (by simpa using hz)
    have a2 := g2.greatest _ (mem_ng m1)
    rw [pAt_map (by omega)] at a2
    rcases a1 with a | a
    · exact a
    · rcases a2 with b | b
      · exact (ng_inj b).symm
      · exact (lx_asy a (lx_ng.1 b)).elim
section
variable {X s u : List Pt2} (h : Two X s u)
include h
theorem Two.edgeS {j : Nat} (hj : j + 1 < s.length) : Edge X (pAt s (j + 1)) (pAt s j) := by
  have hi := inc_at h.low.inc j hj
  refine ⟨fun e => by rw [e] at hi; exact lx_irr _ hi, lft_at h.low.lft j hj, fun x hx h0 => ?_⟩
  obtain ⟨a, b⟩ := btw_at h.low.btw j hj x hx h0
  rcases lx_tri x (pAt s (j + 1)) with t | t | t
  · exact absurd t a
  · exact .inl t
  · rcases lx_tri x (pAt s j) with v | v | v
    · exact .inr (.inr (.inl ⟨t, v⟩))
    · exact .inr (.inl v)
    · exact absurd v b
theorem Two.edgeU {j : Nat} (hj : j + 1 < u.length) : Edge X (pAt u (j + 1)) (pAt u j) := by
  have hl : (u.map ng).length = u.length := List.length_map _
  have hi := inc_at h.upp.inc j (by omega)
  rw [pAt_map hj, pAt_map (by omega), lx_ng] at hi
  refine ⟨fun e => by rw [e] at hi; exact lx_irr _ hi, fun x hx => ?_, fun x hx h0 => ?_⟩
  · have := lft_at h.upp.lft j (by omega) _ (mem_ng hx)
    rwa [pAt_map hj, pAt_map (by omega), crs_ng] at this
  · have := btw_at h.upp.btw j (by omega) _ (mem_ng hx)
    rw [pAt_map hj, pAt_map (by omega), crs_ng] at this
    obtain ⟨a, b⟩ := this h0
    rw [lx_ng] at a b
    rcases lx_tri x (pAt u (j + 1)) with t | t | t
    · rcases lx_tri x (pAt u j) with v | v | v
      · exact absurd v b
      · exact .inr (.inl v)
      · exact .inr (.inr (.inr ⟨v, t⟩))
    · exact .inl t
    · exact absurd t a
/-- The ring of the two chains, from the least point on. -/
def ringOf (s u : List Pt2) : List Pt2 := s.tail.reverse ++ u.tail.reverse
omit h in
theorem ring_len : (ringOf s u).length = (s.length - 1) + (u.length - 1) := by unfold ringOf; simp
omit h in
theorem ring_low {i : Nat} (hi : i < s.length - 1) : pAt (ringOf s u) i = pAt s (s.length - 1 - i) := by
  unfold ringOf pAt
  simp only [List.getD]
  rw [List.getElem?_append_left (by simp; omega), List.getElem?_reverse (by simp; omega), List.getElem?_tail]
  congr 2
  simp; omega
omit h in
theorem ring_upp {i : Nat} (hi : i < u.length - 1) : pAt (ringOf s u) (s.length - 1 + i) = pAt u (u.length - 1 - i) := by
  unfold ringOf pAt
  simp only [List.getD]
  rw [List.getElem?_append_right (by simp), List.getElem?_reverse (by simp; omega), List.getElem?_tail]
  congr 2
  simp; omega
/-- Edge after edge round the ring. -/
theorem Two.cyc {i : Nat} (hi : i < (ringOf s u).length) : Edge X (pAt (ringOf s u) i) (pAt (ringOf s u) ((i + 1) % (ringOf s u).length)) := by
  have h1 := h.s2
  have h2 := h.u2
  have hn := ring_len (s := s) (u := u)
  rcases Nat.lt_or_ge i (s.length - 1) with g | g
  · rw [ring_low g, Nat.mod_eq_of_lt (show i + 1 < (ringOf s u).length by omega)]
    have e := h.edgeS (j := s.length - 1 - (i + 1)) (by omega)
    rw [show s.length - 1 - (i + 1) + 1 = s.length - 1 - i by omega] at e
    rcases Nat.lt_or_ge (i + 1) (s.length - 1) with k | k
    · rw [ring_low k]; exact e
    · have k : i + 1 = s.length - 1 + 0 := by omega
      rw [k, ring_upp (by omega), Nat.sub_zero, ← h.e1]
      rw [show s.length - 1 - (i + 1) = 0 by omega] at e
      exact e
  · obtain ⟨t, rfl⟩ : ∃ t, i = s.length - 1 + t := ⟨i - (s.length - 1), by omega⟩
    rw [ring_upp (by omega)]
    have e := h.edgeU (j := u.length - 1 - (t + 1)) (by omega)
    rw [show u.length - 1 - (t + 1) + 1 = u.length - 1 - t by omega] at e
    rcases Nat.lt_or_ge (t + 1) (u.length - 1) with k | k
    · rw [Nat.mod_eq_of_lt (show s.length - 1 + t + 1 < (ringOf s u).length by omega), Nat.add_assoc, ring_upp k]; exact e
    · rw [show s.length - 1 + t + 1 = (ringOf s u).length by omega, Nat.mod_self, ring_low (by omega), Nat.sub_zero, ← h.e2]
      rw [show u.length - 1 - (t + 1) = 0 by omega] at e
      exact e
/-- All corners of the ring are different. -/
theorem Two.nodup {i j : Nat} (hij : i < j) (hj : j < (ringOf s u).length) : pAt (ringOf s u) i ≠ pAt (ringOf s u) j := by
  have h1 := h.s2
  have h2 := h.u2
  have hn := ring_len (s := s) (u := u)
  have hl : (u.map ng).length = u.length := List.length_map _
  have incU : ∀ k j, 0 < k → j + k < u.length → lx (pAt u j) (pAt u (j + k)) := fun k j hk hj => by
    have := inc_lt_at h.upp.inc k j hk (by omega)
    rwa [pAt_map hj, pAt_map (by omega), lx_ng] at this
  intro e
  rcases Nat.lt_or_ge i (s.length - 1) with g | g
  · rw [ring_low g] at e
    rcases Nat.lt_or_ge j (s.length - 1) with k | k
    · rw [ring_low k] at e
      have := inc_lt_at h.low.inc (j - i) (s.length - 1 - j) (by omega) (by omega)
      rw [show s.length - 1 - j + (j - i) = s.length - 1 - i by omega, e] at this
      exact lx_irr _ this
    · obtain ⟨t, rfl⟩ : ∃ t, j = s.length - 1 + t := ⟨j - (s.length - 1), by omega⟩
      rw [ring_upp (by omega)] at e
      by_cases t0 : t = 0
      · subst t0
        rw [Nat.sub_zero, ← h.e1] at e
        have := inc_lt_at h.low.inc (s.length - 1 - i) 0 (by omega) (by omega)
        rw [Nat.zero_add, e] at this
        exact lx_irr _ this
      · by_cases i0 : i = 0
        · subst i0
          rw [Nat.sub_zero, ← h.e2] at e
          have := incU (u.length - 1 - t) 0 (by omega) (by omega)
          rw [Nat.zero_add, ← e] at this
          exact lx_irr _ this
        · obtain ⟨p, hp⟩ : ∃ p, s.length - 1 - i = p + 1 := ⟨s.length - 1 - i - 1, by omega⟩
          obtain ⟨q, hq⟩ : ∃ q, u.length - 1 - t = q := ⟨_, rfl⟩
          rw [hp, hq] at e
          have c1 := conv_at h.low.conv p (by omega)
          have i1 := inc_at h.low.inc p (by omega)
          have i2 := inc_at h.low.inc (p + 1) (by omega)
          have eU := h.edgeU (j := q) (by omega)
          have eS := h.edgeS (j := p + 1) (by omega)
          have iu := incU 1 q (by omega) (by omega)
          have mA := h.low.mem _ (pAt_mem (s := s) (i := p + 2) (by omega))
          have mC := h.low.mem _ (pAt_mem (s := s) (i := p) (by omega))
          have mE : pAt u (q + 1) ∈ X := by
            have := h.upp.mem _ (pAt_mem (s := u.map ng) (i := q + 1) (by omega))
            rw [pAt_map (by omega)] at this
            obtain ⟨z, hz, ez⟩ := List.mem_map.1 this
            rw [← ng_inj ez]; simpa using hz
          have k1 := eS.2.1 _ mE
          have k2 := eU.2.1 _ mA
          have k3 := eU.2.1 _ mC
          rw [← e] at k2 k3 iu
          have := steep_lt (lx_upw.1 i2) (lx_upw.1 i1) (lx_upw.1 iu) (by rw [crs_sub] at c1; exact c1) (by unfold crs crossV at k3; grind)
          unfold crs crossV at k2
          grind
  · obtain ⟨t, rfl⟩ : ∃ t, i = s.length - 1 + t := ⟨i - (s.length - 1), by omega⟩
    obtain ⟨t2, rfl⟩ : ∃ t, j = s.length - 1 + t := ⟨j - (s.length - 1), by omega⟩
    rw [ring_upp (by omega), ring_upp (by omega)] at e
    have := incU (t2 - t) (u.length - 1 - t2) (by omega) (by omega)
    rw [show u.length - 1 - t2 + (t2 - t) = u.length - 1 - t by omega, e] at this
    exact lx_irr _ this
theorem Two.memX {i : Nat} (hi : i < (ringOf s u).length) : pAt (ringOf s u) i ∈ X := by
  have h1 := h.s2
  have h2 := h.u2
  have hn := ring_len (s := s) (u := u)
  rcases Nat.lt_or_ge i (s.length - 1) with g | g
  · rw [ring_low g]; exact h.low.mem _ (pAt_mem (by omega))
  · obtain ⟨t, rfl⟩ : ∃ t, i = s.length - 1 + t := ⟨i - (s.length - 1), by omega⟩
    rw [ring_upp (by omega)]
    have := h.upp.mem _ (pAt_mem (s := u.map ng) (i := u.length - 1 - t) (by rw [List.length_map]; omega))
    rw [pAt_map (by omega)] at this
    obtain ⟨z, hz, ez⟩ := List.mem_map.1 this
    rw [← ng_inj ez]; simpa using hz
theorem Two.first : ∀ x ∈ X, x = pAt (ringOf s u) 0 ∨ lx (pAt (ringOf s u) 0) x := by
  have h1 := h.s2
  rw [ring_low (by omega), Nat.sub_zero]
  exact h.low.least
/-- The corners of both chains are those of the ring. -/
theorem Two.memS {p : Pt2} (hp : p ∈ s) : p ∈ ringOf s u := by
  have h1 := h.s2
  have h2 := h.u2
  obtain ⟨i, hi, rfl⟩ := mem_pAt hp
  have hn := ring_len (s := s) (u := u)
  by_cases h0 : i = 0
  · subst h0
    rw [h.e1]
    have := pAt_mem (s := ringOf s u) (i := s.length - 1 + 0) (by omega)
    rwa [ring_upp (by omega), Nat.sub_zero] at this
  · have := pAt_mem (s := ringOf s u) (i := s.length - 1 - i) (by omega)
    rwa [ring_low (by omega), show s.length - 1 - (s.length - 1 - i) = i by omega] at this
theorem Two.memU {p : Pt2} (hp : p ∈ u) : p ∈ ringOf s u := by
  have h1 := h.s2
  have h2 := h.u2
  obtain ⟨i, hi, rfl⟩ := mem_pAt hp
  have hn := ring_len (s := s) (u := u)
  by_cases h0 : i = 0
  · subst h0
    rw [h.e2]
    have := pAt_mem (s := ringOf s u) (i := 0) (by omega)
    rwa [ring_low (by omega), Nat.sub_zero] at this
  · have := pAt_mem (s := ringOf s u) (i := s.length - 1 + (u.length - 1 - i)) (by omega)
    rwa [ring_upp (by omega), show u.length - 1 - (u.length - 1 - i) = i by omega] at this
end
theorem GoodC.sub {X Y s : List Pt2} (h : GoodC X s) (hm : ∀ q ∈ s, q ∈ Y) (hY : ∀ y ∈ Y, y ∈ X) : GoodC Y s := by
  have hl : ∀ {s : List Pt2}, Lft X s → Lft Y s := by
    intro s
    induction s with
    | nil => exact fun _ => trivial
    | cons b s ih =>
      cases s with
      | nil => exact fun _ => trivial
      | cons a s => exact fun h => ⟨fun x hx => h.1 x (hY x hx), ih h.2⟩
  exact ⟨h.ne, h.inc, h.conv, hl h.lft, hm, fun b r e x hx => h.top b r e x (hY x hx), fun b e x hx => h.bot b e x (hY x hx)⟩
/-- The hull of a hull's corners is that hull. -/
theorem hull_again {X Y : List Pt2} (hX : Srt X) (h2 : 2 ≤ X.length) (hY : Srt Y) (hm : ∀ x, x ∈ Y ↔ x ∈ ringOf (chainT X) (chainT X.reverse)) : chainT Y = chainT X ∧ chainT Y.reverse = chainT X.reverse ∧ 2 ≤ Y.length := by
  have T := two_of hX h2
  have hYX : ∀ y ∈ Y, y ∈ X := fun y hy => by
    obtain ⟨i, hi, rfl⟩ := mem_pAt ((hm y).1 hy)
    exact T.memX hi
  have g1 := T.low.sub (fun q hq => (hm q).2 (T.memS hq)) hYX
  have g2 := T.upp.sub (Y := Y.reverse.map ng) (fun q hq => by
    obtain ⟨z, hz, rfl⟩ := List.mem_map.1 hq
    exact mem_ng ((hm z).2 (T.memU hz))) (fun y hy => by
    obtain ⟨z, hz, rfl⟩ := List.mem_map.1 hy
    exact mem_ng (hYX z (by simpa using hz)))
  have hne : Y ≠ [] := by
    intro e
    have := (hm _).2 (T.memS (pAt_mem (i := 0) (by have := T.s2; omega)))
    rw [e] at this; cases this
  refine ⟨(chain_good hY hne).one g1, ?_, ?_⟩
  · have := (upper_good hY hne).one g2
    have inj : ∀ {a b : List Pt2}, a.map ng = b.map ng → a = b := fun {a b} e => by
      have := congrArg (List.map ng) e
      simpa [List.map_map, show ng ∘ ng = id from funext ng_ng] using this
    exact inj this
  · match Y, hne, hm with
    | [y], _, hm =>
      exfalso
      have m0 := (hm _).2 (T.memS (pAt_mem (i := 0) (by have := T.s2; omega)))
      have m1 := (hm _).2 (T.memS (pAt_mem (i := 1) (by have := T.s2; omega)))
      have := inc_at T.low.inc 0 (by have := T.s2; omega)
      rw [List.mem_singleton.1 m0, List.mem_singleton.1 m1] at this
      exact lx_irr _ this
    | _ :: _ :: _, _, _ => simp
theorem srt_ext : ∀ {X Y : List Pt2}, Srt X → Srt Y → (∀ x, x ∈ X ↔ x ∈ Y) → X = Y
  | [], [], _, _, _ => rfl
  | [], y :: Y, _, _, h => by have := (h y).2 (by simp); cases this
  | x :: X, [], _, _, h => by have := (h x).1 (by simp); cases this
  | x :: X, y :: Y, hX, hY, h => by
    unfold Srt at hX hY
    rw [List.pairwise_cons] at hX hY
    have e : x = y := by
      rcases List.mem_cons.1 ((h x).1 (by simp)) with a | a
      · exact a
      · rcases List.mem_cons.1 ((h y).2 (by simp)) with b | b
        · exact b.symm
        · exact (lx_asy (hX.1 y b) (hY.1 x a)).elim
    subst e
    congr 1
    refine srt_ext hX.2 hY.2 fun z => ⟨fun hz => ?_, fun hz => ?_⟩
    · rcases List.mem_cons.1 ((h z).1 (by simp [hz])) with b | b
      · rw [b] at hz; exact absurd (hX.1 _ hz) (lx_irr _)
      · exact b
    · rcases List.mem_cons.1 ((h z).2 (by simp [hz])) with b | b
      · rw [b] at hz; exact absurd (hY.1 _ hz) (lx_irr _)
      · exact b

end Go.Proofs.Ytdbknodifpmmoaa
end
section
namespace Go.Proofs.Ytdbknodifpmmoaa
set_option linter.unusedSimpArgs false
set_option linter.unusedVariables false
open Go.RowKit Go.BigFrame
attribute [local go_sem ↓] eqPt neqPt

theorem cell2_at {w : World} {g : Nat} {t : TypeId} {a b : Value} (h : Blk w g t #[a, b]) : ∀ (j : Nat) (u : Value), [a, b][j]? = some u → w.cell? ((⟨g, 0, none⟩ : Addr).add j) = some u := fun j u hu => by
  have hadd : (⟨g, 0, none⟩ : Addr).add j = ⟨g, j, none⟩ := by unfold Addr.add; split <;> simp_all
  rw [hadd, h.cell j]; simpa using hu
def crnS (j : Nat) : Pt2 := [(-1, -1), (1, -1), (1, 1), (-1, 1)].getD j (0, 0)
def crnD (k y : Int) (i : Nat) : Pt2 := if i = 0 then (k, y) else (y, k)
/-- The corner j of the round i. -/
def crn (p : Pt2) (k y : Int) (i j : Nat) : Pt2 := (p.1 + (crnS j).1 * (crnD k y i).1, p.2 + (crnS j).2 * (crnD k y i).2)
def crnI (p : Pt2) (k y : Int) (i m : Nat) : List Pt2 := (List.range m).map (crn p k y i)
def crnN (p : Pt2) (k y : Int) : Nat → List Pt2
  | 0 => []
  | i + 1 => crnN p k y i ++ crnI p k y i 4
theorem crnI_succ (p : Pt2) (k y : Int) (i m : Nat) : crnI p k y i (m + 1) = crnI p k y i m ++ [crn p k y i m] := by unfold crnI; rw [List.range_succ, List.map_append]; rfl
theorem crnI_len (p : Pt2) (k y : Int) (i m : Nat) : (crnI p k y i m).length = m := by unfold crnI; simp
theorem crnN_len (p : Pt2) (k y : Int) : ∀ i, (crnN p k y i).length = 4 * i
  | 0 => rfl
  | i + 1 => by rw [crnN, List.length_append, crnN_len, crnI_len]; omega
/-- The corners around a point. -/
def crnV (p : Pt2) (b : Int) : List Pt2 := crnN p (5 * b / 12) b 2

end Go.Proofs.Ytdbknodifpmmoaa
end
section
namespace Go.Proofs.Ytdbknodifpmmoaa
set_option linter.unusedSimpArgs false
set_option linter.unusedVariables false
open Go.RowKit Go.BigFrame
attribute [local go_sem ↓] eqPt neqPt
attribute [local go_sem] max2_int min2_int max_two min_two

abbrev BoxT := Int × Int × Int × Int
def clampP (p : Pt2) : Pt2 := (clampI p.1, clampI p.2)
def joinP (b : BoxT) (p : Pt2) : BoxT := (min b.1 p.1, min b.2.1 p.2, max b.2.2.1 p.1, max b.2.2.2 p.2)
/-- The least box of points. -/
def ofV : List Pt2 → BoxT
  | [] => (0, 0, 0, 0)
  | p :: l => (l.map clampP).foldl joinP ((clampP p).1, (clampP p).2, (clampP p).1, (clampP p).2)
def ofK (l : List Pt2) (k : Nat) : BoxT := ofV (l.take k)
theorem ofK_succ {l : List Pt2} {k : Nat} (h : k < l.length) (hk : 0 < k) : ofK l (k + 1) = joinP (ofK l k) (clampP (pAt l k)) := by
  unfold ofK
  rw [List.take_succ_eq_append_getElem h]
  have hp : pAt l k = l[k] := by unfold pAt; simp [List.getD, h]
  cases hl : l.take k with
  | nil => simp at hl; rcases hl with hl | hl; · omega
           · subst hl; simp at h
  | cons p t => simp [ofV, hp]
theorem ofK_one {l : List Pt2} (h : 0 < l.length) : ofK l 1 = joinP ((clampP (pAt l 0)).1, (clampP (pAt l 0)).2, (clampP (pAt l 0)).1, (clampP (pAt l 0)).2) (clampP (pAt l 0)) := by
  cases l with
  | nil => simp at h
  | cons p t => simp [ofK, ofV, joinP, pAt]

theorem clamp_id {x y : Int} (h : okP x y = true) : clampI x = x ∧ clampI y = y := by rw [okP_iff] at h; unfold clampI; omega
theorem Clamp_val {x y : Int} (h : okP x y = true) (w : World) : Calls Try.prog 41 #[.agg #[.int .i64 x, .int .i64 y]] w fun e w' => e = .returned (.agg #[.int .i64 x, .int .i64 y]) ∧ Since w w' := by
  have := ClampS_any x y w
  rwa [(clamp_id h).1, (clamp_id h).2] at this
theorem pts_two {w : World} {g : Nat} {ax ay cx cy : Int} (h : Blk w g 26 #[.int .i64 ax, .int .i64 ay, .int .i64 cx, .int .i64 cy]) : PtsS w (.slice (some ⟨g, 0, none⟩) 2 2) [(ax, ay), (cx, cy)] :=
  ⟨_, _, rfl, fun i hi => ⟨g, 0, rfl, by
    have : i = 0 ∨ i = 1 := by simp at hi; omega
    rcases this with rfl | rfl
    · exact ⟨h.cell 0, h.cell 1⟩
    · exact ⟨h.cell 2, h.cell 3⟩⟩⟩
def meetOf (lx ly hx hy ax ay cx cy : Int) : Bool := meetV lx ly hx hy (ofV [(ax, ay), (cx, cy)]).1 (ofV [(ax, ay), (cx, cy)]).2.1 (ofV [(ax, ay), (cx, cy)]).2.2.1 (ofV [(ax, ay), (cx, cy)]).2.2.2
def cornersV (lx ly hx hy : Int) : List Pt2 := [(lx, ly), (hx, ly), (hx, hy), (lx, hy)]
def leftK (lx ly hx hy ax ay cx cy : Int) (k : Nat) : Bool := ((cornersV lx ly hx hy).take k).any fun p => decide (0 ≤ turnV ax ay cx cy p.1 p.2)
def rightK (lx ly hx hy ax ay cx cy : Int) (k : Nat) : Bool := ((cornersV lx ly hx hy).take k).any fun p => decide (turnV ax ay cx cy p.1 p.2 ≤ 0)
def hitV (lx ly hx hy ax ay cx cy : Int) : Bool := meetOf lx ly hx hy ax ay cx cy && (leftK lx ly hx hy ax ay cx cy 4 && rightK lx ly hx hy ax ay cx cy 4)

end Go.Proofs.Ytdbknodifpmmoaa
end
section
namespace Go.Proofs.Ytdbknodifpmmoaa
set_option linter.unusedSimpArgs false
set_option linter.unusedVariables false
open Go.RowKit Go.BigFrame
attribute [local go_sem ↓] eqPt neqPt

theorem flatP_len (l : List Pt2) : (l.flatMap ptV).length = l.length * 2 := by
  induction l with
  | nil => rfl
  | cons p l ih => rw [List.flatMap_cons, List.length_append, ih, ptV_len, List.length_cons]; omega
theorem own_cut {w : World} {B n m c : Nat} {e : TypeId} {k : Nat} {a : Option Addr} {xs ys zs : List Value} (h : w.ownsRow B e k (.slice a n c) n xs) (hm : m ≤ n) (hx : xs = ys ++ zs) (hy : ys.length = m * k) (hp : 0 < n) : w.ownsRow B e k (.slice a m c) m ys := by
  obtain ⟨hl, ⟨h1, hn⟩ | ⟨g, cap, cur, h1, hb, hg, hc, hmx, hs, ht⟩⟩ := h
  · omega
  · injection h1 with h1 h2 h3
    subst h1 h3
    refine ⟨hy, .inr ⟨g, c, cur, rfl, hb, hg, by omega, hmx, hs, ?_⟩⟩
    have : (cur.toList.take (n * k)).take (m * k) = ys := by rw [ht, hx, ← hy, List.take_left]
    rw [List.take_take, Nat.min_eq_left (Nat.mul_le_mul_right k hm)] at this
    exact this
theorem stk_cells {w : World} {B n c g : Nat} {lo s : List Pt2} {a b : Pt2} (h : w.ownsRow B 26 2 (.slice (some ⟨g, 0, none⟩) n c) n ((lo ++ (b :: a :: s).reverse).flatMap ptV)) {i : Nat} (hi : i = lo.length + s.length) :
    (w.cell? ⟨g, i * 2, none⟩ = some (.int .i64 a.1) ∧ w.cell? ⟨g, i * 2 + 1, none⟩ = some (.int .i64 a.2)) ∧ w.cell? ⟨g, (i + 1) * 2, none⟩ = some (.int .i64 b.1) ∧ w.cell? ⟨g, (i + 1) * 2 + 1, none⟩ = some (.int .i64 b.2) := by
  have e : lo ++ (b :: a :: s).reverse = (lo ++ s.reverse) ++ [a, b] := by simp
  have hl : (lo ++ s.reverse).length = i := by simp [hi]
  rw [e] at h
  have h1 : i < ((lo ++ s.reverse) ++ [a, b]).length := by simp [hi]
  have h2 : i + 1 < ((lo ++ s.reverse) ++ [a, b]).length := by simp [hi]; omega
  have e1 : ((lo ++ s.reverse) ++ [a, b])[i] = a := by rw [List.getElem_append_right (by omega)]; simp [hl]
  have e2 : ((lo ++ s.reverse) ++ [a, b])[i + 1] = b := by rw [List.getElem_append_right (by omega)]; simp [hl]
  refine ⟨⟨?_, ?_⟩, ?_, ?_⟩
  · have := row_at h ptV_len i h1 0 (.int .i64 a.1) (by rw [e1]; rfl)
    simpa using this
  · exact row_at h ptV_len i h1 1 (.int .i64 a.2) (by rw [e1]; rfl)
  · have := row_at h ptV_len (i + 1) h2 0 (.int .i64 b.1) (by rw [e2]; rfl)
    simpa using this
  · exact row_at h ptV_len (i + 1) h2 1 (.int .i64 b.2) (by rw [e2]; rfl)
theorem cmpI_le (x : Int) : decide (cmpI x 0 ≤ 0) = decide (x ≤ 0) := by
  unfold cmpI
  rw [Bool.eq_iff_iff, decide_eq_true_eq, decide_eq_true_eq]
  split <;> (try split) <;> omega
theorem cmpI_lt (x : Int) : decide (cmpI x 0 < 0) = decide (x < 0) := by
  unfold cmpI
  rw [Bool.eq_iff_iff, decide_eq_true_eq, decide_eq_true_eq]
  split <;> (try split) <;> omega
theorem turn_crs {a b c : Pt2} (ha : okP a.1 a.2 = true) (hb : okP b.1 b.2 = true) (hc : okP c.1 c.2 = true) : turnV a.1 a.2 b.1 b.2 c.1 c.2 = cmpI (crs a b c) 0 := by
  unfold turnV crs
  rw [(clamp_id ha).1, (clamp_id ha).2, (clamp_id hb).1, (clamp_id hb).2, (clamp_id hc).1, (clamp_id hc).2]
theorem popC_ok {p : Pt2} : ∀ {s : List Pt2}, (∀ q ∈ s, okP q.1 q.2 = true) → ∀ q ∈ popC p s, okP q.1 q.2 = true
  | [], h => h
  | [_], h => h
  | b :: a :: s, h => by
    rw [popC]
    split
    · exact popC_ok fun q hq => h q (List.mem_cons_of_mem _ hq)
    · exact h
theorem PtsB.below {w w' : World} {v : Value} {l : List Pt2} {B : Nat} (h : PtsB w v l B) (k : Below B w w') : PtsB w' v l B := h.keep (Nat.le_refl _) fun g cs hg hb => hb.below k hg

/-- The chain does not turn left at its last point on the way to p. -/
def topB (p : Pt2) : List Pt2 → Bool
  | b :: a :: _ => decide (crs a b p ≤ 0)
  | _ => false
theorem topB_no {p : Pt2} : ∀ {s : List Pt2}, topB p s = false → popC p s = s
  | [], _ => rfl
  | [_], _ => rfl
  | b :: a :: s, h => by
    rw [popC, if_neg]
    simpa [topB] using h
def lenV : Value → Nat
  | .slice _ n _ => n
  | _ => 0
end Go.Proofs.Ytdbknodifpmmoaa
end
section
namespace Go.Proofs.Ytdbknodifpmmoaa
set_option linter.unusedSimpArgs false
set_option linter.unusedVariables false
open Go.RowKit Go.BigFrame Go.Shelf Go.Lib Go.Proofs
attribute [local go_sem ↓] eqPt neqPt

theorem flatK_ptV (l : List Pt2) : Go.Sort.flatK ptV 2 l.toArray = (l.flatMap ptV).toArray := by
  refine Go.Sort.ext_get! (by rw [Go.Sort.size_flatK, List.size_toArray, List.size_toArray, flatP_len]) fun t ht => ?_
  rw [Go.Sort.size_flatK] at ht
  rw [Go.Sort.get_flatK _ _ _ _ ht]
  have ht' : t < l.length * 2 := by simpa using ht
  have hi : t / 2 < l.length := by omega
  have h1 := flat_at ptV_len l (t / 2) (t % 2) hi (by omega)
  rw [show t / 2 * 2 + t % 2 = t by omega] at h1
  have h2 : (l.flatMap ptV).toArray[t]! = (ptV l[t / 2])[t % 2]! := by
    rw [getElem!_def, getElem!_def, List.getElem?_toArray, h1]
  rw [h2, getElem!_pos l.toArray (t / 2) (by simpa using hi), List.getElem_toArray]
section
variable {w : World} {B g n c m : Nat} {l l' : List Pt2} {os : Array Obj}
theorem own_holds (h : w.ownsRow B 26 2 (.slice (some ⟨g, 0, none⟩) n c) n (l.flatMap ptV)) (hn : n = l.length) : Go.Sort.HoldsK ptV 2 w g 0 l.toArray := by
  intro j hj
  rw [flatK_ptV] at hj ⊢
  have hj' : j < n * 2 := by simp only [List.size_toArray, flatP_len] at hj; omega
  refine ⟨?_, h.frozenAt _⟩
  rw [Nat.zero_add, h.cellAt j hj']
  rw [getElem!_pos _ j hj, List.getElem_toArray, List.getElem?_eq_getElem]
  rfl
theorem only_sort (d : Array Pt2) (hg : g < w.heap.size) : Only g w (Go.Sort.grow (Go.Sort.putRowK ptV 2 (Go.Sort.ahead w m) g 0 d) os) := by
  refine ⟨rfl, rfl, rfl, by simp [Go.Sort.putRowK], fun k hk hne => ?_⟩
  rw [Go.Sort.heap_grow_old _ _ (by simpa [Go.Sort.putRowK] using hk)]
  have : g ≠ k := fun e => hne (by rw [e])
  simp [Go.Sort.putRowK, Go.Sort.putRow, Go.Sort.mapBlock, Go.Sort.ahead, Array.getElem?_modify, this]
theorem own_sort (h : w.ownsRow B 26 2 (.slice (some ⟨g, 0, none⟩) n c) n (l.flatMap ptV)) (hn : n = l.length) (hl : l'.length = l.length) :
    (Go.Sort.grow (Go.Sort.putRowK ptV 2 (Go.Sort.ahead w m) g 0 l'.toArray) os).ownsRow B 26 2 (.slice (some ⟨g, 0, none⟩) n c) n (l'.flatMap ptV) := by
  obtain ⟨h0, ⟨h1, -⟩ | ⟨g', cap, cur, h1, hb, hg, hc, hm, hs, ht⟩⟩ := h
  · cases h1
  · injection h1 with h1 h2 h3
    injection h1 with h1
    injection h1 with h1
    subst h1 h3
    have hlt : g < w.heap.size := (Array.getElem?_eq_some_iff.1 hg).1
    refine ⟨by rw [flatP_len, hn, hl], .inr ⟨g, c, Go.Sort.putCells id 0 (l'.flatMap ptV).toArray cur, rfl, hb, ?_, hc, hm, by simp [Go.Sort.putCells, hs], ?_⟩⟩
    · rw [Go.Sort.heap_grow_old _ _ (by simpa [Go.Sort.putRowK] using hlt)]
      simp [Go.Sort.putRowK, Go.Sort.putRow, Go.Sort.mapBlock, Go.Sort.ahead, Array.getElem?_modify, hg, Go.Sort.onCells, flatK_ptV]
    · have hle : n * 2 ≤ cur.size := by rw [hs]; exact Nat.mul_le_mul_right 2 hc
      apply List.ext_getElem?
      intro j
      have hlen : (l'.flatMap ptV).length = n * 2 := by rw [flatP_len, hn, hl]
      by_cases hj : j < n * 2
      · rw [List.getElem?_take_of_lt hj, Array.getElem?_toList]
        simp [Go.Sort.putCells, hj, hlen, show j < cur.size by omega]
      · rw [List.getElem?_take_eq_none (by omega), List.getElem?_eq_none (by omega)]
end

/-- point.Cmp. -/
def cmpP (a b : Pt2) : Int := if cmpI a.1 b.1 = 0 then cmpI a.2 b.2 else cmpI a.1 b.1
theorem Cmp_any (a b : Pt2) (w : World) : Calls Try.prog 70 #[.agg #[.int .i64 a.1, .int .i64 a.2], .agg #[.int .i64 b.1, .int .i64 b.2]] w fun e w' => e = .returned (.int .i64 (cmpP a b)) ∧ ∃ q os', w' = Go.Sort.grow (w.drewN q) os' := by
  cases hc : (cmpI a.1 b.1 == 0)
  · have HE : Hid (cmpI a.1 b.1 = cmpP a b) := by
      show _ = _
      unfold cmpP; rw [if_neg (by simpa using hc)]
    have hc2 : (cmpI a.1 b.1 != 0) = true := by simpa [bne] using hc
    go_enter Try.func70, Try.ntmps70
    go_wp2_with (go_at_call 77; refine (Compare_any _ _ _).mono ?_; rintro e w' ⟨rfl, rfl⟩)
    go_ret
    exact ⟨ret_int HE.out, 0, _, by rw [Go.Sort.alloc_eq_grow, Go.Sort.alloc_eq_grow, Go.Sort.grow_grow]; rfl⟩
  · have HE : Hid (cmpI a.2 b.2 = cmpP a b) := by
      show _ = _
      unfold cmpP; rw [if_pos (by simpa using hc)]
    have hc2 : (cmpI a.1 b.1 != 0) = false := by simpa [bne] using hc
    go_enter Try.func70, Try.ntmps70
    go_wp2_with (go_at_call 77; refine (Compare_any _ _ _).mono ?_; rintro e w' ⟨rfl, rfl⟩)
    go_ret
    exact ⟨ret_int HE.out, 0, _, by rw [Go.Sort.alloc_eq_grow, Go.Sort.alloc_eq_grow, Go.Sort.grow_grow]; rfl⟩
theorem cmpP_lt (a b : Pt2) : Go.Proofs.ltOf cmpP a b = lxB a b := by
  unfold Go.Proofs.ltOf cmpP lxB cmpI
  rw [Bool.eq_iff_iff]
  simp only [decide_eq_true_eq, Bool.or_eq_true, Bool.and_eq_true]
  repeat' split
  all_goals omega
end Go.Proofs.Ytdbknodifpmmoaa
end
