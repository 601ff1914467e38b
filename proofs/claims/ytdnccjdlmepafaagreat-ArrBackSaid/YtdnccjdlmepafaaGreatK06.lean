/-
  Walks of point.Dot, point.On, terrkeep3.strips; Plain law: the edges of a hull meet at their common corners alone; The walk of seg.shared's closure; The walk of seg.shared. Conditions: those that each lemma names.
-/
import Derived.Test.YtdnccjdlmepafaaGreatK05
set_option linter.unusedSimpArgs false
set_option linter.unusedVariables false
set_option linter.constructorNameAsVariable false
namespace Go.Proofs.YtdnccjdlmepafaaGreat
section
open Go.RowKit Go.BigFrame
attribute [local go_sem ↓] eqPt neqPt
def dotV (ax ay bx by_ px py : Int) : Int := (bx - ax) * (px - ax) + (by_ - ay) * (py - ay)
set_option maxHeartbeats 1000000 in
theorem Dot_any (ax ay bx by_ cx cy : Int) (w : World) : Calls Tryz.prog 53 #[.agg #[.int .i64 ax, .int .i64 ay], .agg #[.int .i64 bx, .int .i64 by_], .agg #[.int .i64 cx, .int .i64 cy]] w fun e w' =>
  e = .returned (.int .i64 (dotV (clampI ax) (clampI ay) (clampI bx) (clampI by_) (clampI cx) (clampI cy))) ∧ Since w w' := by
 have q1 := clampI_bd ax
 have q2 := clampI_bd ay
 have q3 := clampI_bd bx
 have q4 := clampI_bd by_
 have q5 := clampI_bd cx
 have q6 := clampI_bd cy
 have m1 : ((clampI bx - clampI ax) * (clampI cx - clampI ax)).natAbs ≤ 4398046511104 := Nat.le_trans (mul_bd (A := 2097152) (B := 2097152) (by omega) (by omega)) (by decide)
 have m2 : ((clampI by_ - clampI ay) * (clampI cy - clampI ay)).natAbs ≤ 4398046511104 := Nat.le_trans (mul_bd (A := 2097152) (B := 2097152) (by omega) (by omega)) (by decide)
 have e1 : wrap64 ((clampI bx - clampI ax) * (clampI cx - clampI ax)) = (clampI bx - clampI ax) * (clampI cx - clampI ax) := wrap_id (by omega)
 have e2 : wrap64 ((clampI by_ - clampI ay) * (clampI cy - clampI ay)) = (clampI by_ - clampI ay) * (clampI cy - clampI ay) := wrap_id (by omega)
 have e3 : wrap64 ((clampI bx - clampI ax) * (clampI cx - clampI ax) + (clampI by_ - clampI ay) * (clampI cy - clampI ay)) = (clampI bx - clampI ax) * (clampI cx - clampI ax) + (clampI by_ - clampI ay) * (clampI cy - clampI ay) := wrap_id (by omega)
 clear m1 m2 q1 q2 q3 q4 q5 q6
 go_enter Tryz.func53, Tryz.ntmps53
 go_upto_region 1 with fail
 refine atW (fun w' => Blk w' w.heap.size 36 #[.int .i64 ax, .int .i64 ay] ∧ Blk w' (w.heap.size + 1) 36 #[.int .i64 bx, .int .i64 by_] ∧ Blk w' (w.heap.size + 1 + 1) 36 #[.int .i64 cx, .int .i64 cy] ∧ Since w w') ⟨((Blk.new w _ _).alloc _).alloc _, (Blk.new' (by simp)).alloc _, Blk.new' (by simp), (((Since.rfl_ w).alloc _).alloc _).alloc _⟩ ?_
 rintro w1 ⟨ha, hb, hr, hs⟩
 have a0 : w1.cell? ⟨w.heap.size, 0, none⟩ = some (.int .i64 ax) := ha.cell 0
 have a1 : w1.cell? ⟨w.heap.size, 1, none⟩ = some (.int .i64 ay) := ha.cell 1
 have b0 : w1.cell? ⟨w.heap.size + 1, 0, none⟩ = some (.int .i64 bx) := hb.cell 0
 have b1 : w1.cell? ⟨w.heap.size + 1, 1, none⟩ = some (.int .i64 by_) := hb.cell 1
 have c0 : w1.cell? ⟨w.heap.size + 1 + 1, 0, none⟩ = some (.int .i64 cx) := hr.cell 0
 have c1 : w1.cell? ⟨w.heap.size + 1 + 1, 1, none⟩ = some (.int .i64 cy) := hr.cell 1
 have HB := Lib.hid (And.intro ha (And.intro hb (And.intro hr hs)))
 clear ha hb hr hs
 apply region_facts 8 (fun w' => w'.cell? ⟨w.heap.size, 0, none⟩ = some (.int .i64 ax) ∧ w'.cell? ⟨w.heap.size, 1, none⟩ = some (.int .i64 ay) ∧ w'.cell? ⟨w.heap.size + 1, 0, none⟩ = some (.int .i64 bx) ∧ w'.cell? ⟨w.heap.size + 1, 1, none⟩ = some (.int .i64 by_) ∧ w'.cell? ⟨w.heap.size + 1 + 1, 0, none⟩ = some (.int .i64 cx) ∧ w'.cell? ⟨w.heap.size + 1 + 1, 1, none⟩ = some (.int .i64 cy) ∧ Since w1 w')
 case hm => kernel_rfl
 case hB => kernel_rfl
 case hS => exact ⟨a0, a1, b0, b1, c0, c1, (Since.rfl_ w1).drew⟩
 case h =>
 simp only [List.take_succ_cons, List.take_zero, List.drop_succ_cons, List.drop_zero]
 iterate 2 (apply wpO_det; (case hw => rfl); (case h => intro hFm wx hS_ hF_ K hK; go_big_quiet_op; first | exact hK _ rfl | (apply Exists.intro; refine ⟨fun _ => ?_, ?_⟩; (focus (first | (intro hC; have hC := hC.out; (try simp only [hC, Result.andThen]); first | exact ⟨True.intro, rfl⟩ | exact ⟨rfl, rfl⟩ | rfl))); exact hK _ rfl)); (case' k => simp only [Act.put, List.setIfInBounds_toArray, List.set_cons_succ, List.set_cons_zero, List.cons_append, List.nil_append]))
 (apply wpO_det; (case hw => rfl); (case h => intro hFm wx hS_ hF_ K hK; go_big_quiet_op; first | exact hK _ rfl | (apply Exists.intro; refine ⟨fun _ => ?_, ?_⟩; (focus (first | (intro hC; go_at_call 75; refine (way_any _ _ _ _ _).mono ?_; rintro e w' ⟨rfl, hb⟩; refine ⟨rfl, ?_⟩; exact cls_call hFm hC hb))); exact hK _ rfl)); (case' k => simp only [Act.put, List.setIfInBounds_toArray, List.set_cons_succ, List.set_cons_zero, List.cons_append, List.nil_append]))
 iterate 2 (apply wpO_det; (case hw => rfl); (case h => intro hFm wx hS_ hF_ K hK; go_big_quiet_op; first | exact hK _ rfl | (apply Exists.intro; refine ⟨fun _ => ?_, ?_⟩; (focus (first | (intro hC; have hC := hC.out; (try simp only [hC, Result.andThen]); first | exact ⟨True.intro, rfl⟩ | exact ⟨rfl, rfl⟩ | rfl))); exact hK _ rfl)); (case' k => simp only [Act.put, List.setIfInBounds_toArray, List.set_cons_succ, List.set_cons_zero, List.cons_append, List.nil_append]))
 (apply wpO_det; (case hw => rfl); (case h => intro hFm wx hS_ hF_ K hK; go_big_quiet_op; first | exact hK _ rfl | (apply Exists.intro; refine ⟨fun _ => ?_, ?_⟩; (focus (first | (intro hC; go_at_call 75; refine (way_any _ _ _ _ _).mono ?_; rintro e w' ⟨rfl, hb⟩; refine ⟨rfl, ?_⟩; exact cls_call hFm hC hb))); exact hK _ rfl)); (case' k => simp only [Act.put, List.setIfInBounds_toArray, List.set_cons_succ, List.set_cons_zero, List.cons_append, List.nil_append]))
 apply wpO_mk (f := fun g => .pointer (some ⟨g, 0, none⟩)) (t := 36) (cs := #[.int .i64 0, .int .i64 0])
 case hi => (intro g g' h; simpa using h)
 case hw => rfl
 case h => (intro w; simp [go_sem])
 case k =>
 intro g1
 simp only [Act.put, List.setIfInBounds_toArray, List.set_cons_succ, List.set_cons_zero, List.cons_append, List.nil_append]
 apply wpO_mk (f := fun g => .pointer (some ⟨g, 0, none⟩)) (t := 36) (cs := #[.int .i64 0, .int .i64 0])
 case hi => (intro g g' h; simpa using h)
 case hw => rfl
 case h => (intro w; simp [go_sem])
 case k =>
 intro g2
 simp only [Act.put, List.setIfInBounds_toArray, List.set_cons_succ, List.set_cons_zero, List.cons_append, List.nil_append]
 refine wpO_nil ?_
 intro w2 hS hF hB
 (try simp [allF] at hF)
 (try simp [List.pairwise_cons] at hB)
 obtain ⟨⟨h1, l1⟩, h2, l2⟩ := hF
 have p_0 := h1.cell 0
 have p_1 := h1.cell 1
 have p_f0 := h1.frozen 0
 have p_f1 := h1.frozen 1
 simp only [List.getElem?_toArray, List.getElem?_cons_zero, List.getElem?_cons_succ] at p_0 p_1
 have q_0 := h2.cell 0
 have q_1 := h2.cell 1
 have q_f0 := h2.frozen 0
 have q_f1 := h2.frozen 1
 simp only [List.getElem?_toArray, List.getElem?_cons_zero, List.getElem?_cons_succ] at q_0 q_1
 have HS := Lib.hid (HB.out.2.2.2.trans hS.2.2.2.2.2.2)
 have hsz := HB.out.2.2.2.size
 clear hS h1 h2 a0 a1 b0 b1 c0 c1 HB
 go_wp2
 go_ret
 exact ⟨ret_int (by unfold dotV; first | exact e3 | rfl), (((HS.out.setCell (by dsimp only; omega) _).setCell (by dsimp only; omega) _).setCell (by dsimp only; omega) _).setCell (by dsimp only; omega) _⟩
def onV (a b p : Pt2) : Bool := (turnV a.1 a.2 b.1 b.2 p.1 p.2 == 0) && decide (dotV (clampI p.1) (clampI p.2) (clampI a.1) (clampI a.2) (clampI b.1) (clampI b.2) ≤ 0)
set_option maxHeartbeats 1000000 in
theorem On_any (a b p : Pt2) (w : World) : Calls Tryz.prog 33 #[.agg #[.int .i64 a.1, .int .i64 a.2], .agg #[.int .i64 b.1, .int .i64 b.2], .agg #[.int .i64 p.1, .int .i64 p.2]] w fun e w' =>
  e = .returned (.bool (onV a b p)) ∧ Since w w' := by
 have HF : Hid (onV a b p = ((turnV a.1 a.2 b.1 b.2 p.1 p.2 == 0) && decide (dotV (clampI p.1) (clampI p.2) (clampI a.1) (clampI a.2) (clampI b.1) (clampI b.2) ≤ 0))) := rfl
 go_enter Tryz.func33, Tryz.ntmps33
 go_upto_region 1 with fail
 refine atW (fun w' => Blk w' w.heap.size 36 #[.int .i64 a.1, .int .i64 a.2] ∧ Blk w' (w.heap.size + 1) 36 #[.int .i64 b.1, .int .i64 b.2] ∧ Blk w' (w.heap.size + 1 + 1) 36 #[.int .i64 p.1, .int .i64 p.2] ∧ Since w w') ⟨((Blk.new w _ _).alloc _).alloc _, (Blk.new' (by simp)).alloc _, Blk.new' (by simp), (((Since.rfl_ w).alloc _).alloc _).alloc _⟩ ?_
 rintro w1 ⟨ha, hb, hr, hs⟩
 have a0 : w1.cell? ⟨w.heap.size, 0, none⟩ = some (.int .i64 a.1) := ha.cell 0
 have a1 : w1.cell? ⟨w.heap.size, 1, none⟩ = some (.int .i64 a.2) := ha.cell 1
 have b0 : w1.cell? ⟨w.heap.size + 1, 0, none⟩ = some (.int .i64 b.1) := hb.cell 0
 have b1 : w1.cell? ⟨w.heap.size + 1, 1, none⟩ = some (.int .i64 b.2) := hb.cell 1
 have c0 : w1.cell? ⟨w.heap.size + 1 + 1, 0, none⟩ = some (.int .i64 p.1) := hr.cell 0
 have c1 : w1.cell? ⟨w.heap.size + 1 + 1, 1, none⟩ = some (.int .i64 p.2) := hr.cell 1
 have HB := Lib.hid (And.intro ha (And.intro hb (And.intro hr hs)))
 clear ha hb hr hs
 go_wp2_with fail
 refine (Turn_any _ _ _ _ _ _ _).mono ?_
 rintro e w2 ⟨rfl, hs⟩
 have ha := hs.blk HB.out.1
 have hb := hs.blk HB.out.2.1
 have hr := hs.blk HB.out.2.2.1
 have HS2 := Lib.hid (HB.out.2.2.2.trans hs)
 clear hs a0 a1 b0 b1 c0 c1 HB
 have a0 : w2.cell? ⟨w.heap.size, 0, none⟩ = some (.int .i64 a.1) := ha.cell 0
 have a1 : w2.cell? ⟨w.heap.size, 1, none⟩ = some (.int .i64 a.2) := ha.cell 1
 have b0 : w2.cell? ⟨w.heap.size + 1, 0, none⟩ = some (.int .i64 b.1) := hb.cell 0
 have b1 : w2.cell? ⟨w.heap.size + 1, 1, none⟩ = some (.int .i64 b.2) := hb.cell 1
 have c0 : w2.cell? ⟨w.heap.size + 1 + 1, 0, none⟩ = some (.int .i64 p.1) := hr.cell 0
 have c1 : w2.cell? ⟨w.heap.size + 1 + 1, 1, none⟩ = some (.int .i64 p.2) := hr.cell 1
 clear ha hb hr
 generalize turnV a.1 a.2 b.1 b.2 p.1 p.2 = tv at *
 cases hz : (tv == 0)
 ·go_wp2_with fail
  go_ret
  exact ⟨ret_bool (by rw [HF.out, hz]; rfl), HS2.out⟩
 ·go_wp2_with fail
  refine (Dot_any _ _ _ _ _ _ _).mono ?_
  rintro e w3 ⟨rfl, hs⟩
  have HS3 := Lib.hid (HS2.out.trans hs)
  clear hs a0 a1 b0 b1 c0 c1
  go_wp2_with fail
  go_ret
  exact ⟨ret_bool (by rw [HF.out, hz]; rfl), HS3.out⟩
theorem onV_ok {a b p : Pt2} (ha : okP a.1 a.2 = true) (hb : okP b.1 b.2 = true) (hp : okP p.1 p.2 = true) (h : onV a b p = true) : crs a b p = 0 ∧ (a.1 - p.1) * (b.1 - p.1) + (a.2 - p.2) * (b.2 - p.2) ≤ 0 := by
 unfold onV at h
 rw [Bool.and_eq_true, decide_eq_true_eq, beq_iff_eq, turn_crs ha hb hp, (clamp_id ha).1, (clamp_id ha).2, (clamp_id hb).1, (clamp_id hb).2, (clamp_id hp).1, (clamp_id hp).2] at h
 refine ⟨?_, h.2⟩
 have := h.1
 unfold cmpI at this
 split at this
 ·omega
 ·split at this <;> omega
end
section

end
section
open Go.RowKit Go.BigFrame
attribute [local go_sem ↓] eqPt neqPt
def addS (L : List Pt2) (p q r : Pt2) : List Pt2 := if onV q r p = true ∧ p ∉ L then L ++ [p] else L
theorem On_val {a b p : Pt2} {c : Bool} (h : onV a b p = c) (w : World) : Calls Tryz.prog 33 #[.agg #[.int .i64 a.1, .int .i64 a.2], .agg #[.int .i64 b.1, .int .i64 b.2], .agg #[.int .i64 p.1, .int .i64 p.2]] w fun e w' =>
  e = .returned (.bool c) ∧ Since w w' := h ▸ On_any a b p w
set_option maxRecDepth 100000 in
set_option maxHeartbeats 4000000 in
theorem add_any (gs B : Nat) (L : List Pt2) (p q r : Pt2) (v : Value) (w : World) (hb : Blk w gs 23 #[v]) (ho : w.ownsRow B 36 2 v L.length (L.flatMap ptV)) (hB : gs < B) (hBw : B ≤ w.heap.size) (hl : L.length ≤ 4) :
  Calls Tryz.prog 148 #[.agg #[.int .i64 p.1, .int .i64 p.2], .agg #[.int .i64 q.1, .int .i64 q.2], .agg #[.int .i64 r.1, .int .i64 r.2], .pointer (some ⟨gs, 0, none⟩)] w fun e w' =>
   e = .returned (.tuple #[]) ∧ ∃ v', Blk w' gs 23 #[v'] ∧ w'.ownsRow B 36 2 v' (addS L p q r).length ((addS L p q r).flatMap ptV) ∧ Below gs w w' ∧ B ≤ w'.heap.size := by
 have HB := Lib.hid hb
 have HO := Lib.hid ho
 have hgl := hb.lt
 obtain ⟨av, cv, rfl⟩ := own_slice ho
 clear hb ho
 have HA : Hid (addS L p q r = if onV q r p = true ∧ p ∉ L then L ++ [p] else L) := rfl
 go_enter Tryz.func148, Tryz.ntmps148
 go_upto_region 1 with fail
 refine atW (fun w' => Since w w' ∧ Blk w' w.heap.size 36 #[.int .i64 p.1, .int .i64 p.2] ∧ Blk w' (w.heap.size + 1) 36 #[.int .i64 q.1, .int .i64 q.2] ∧ Blk w' (w.heap.size + 1 + 1) 36 #[.int .i64 r.1, .int .i64 r.2]) ⟨(((Since.rfl_ w).alloc _).alloc _).alloc _, ((Blk.new w _ _).alloc _).alloc _, (Blk.new' (by simp)).alloc _, Blk.new' (by simp)⟩ ?_
 rintro w1 ⟨hs, hp, hq, hr⟩
 have p0 : w1.cell? ⟨w.heap.size, 0, none⟩ = some (.int .i64 p.1) := hp.cell 0
 have p1 : w1.cell? ⟨w.heap.size, 1, none⟩ = some (.int .i64 p.2) := hp.cell 1
 have q0 : w1.cell? ⟨w.heap.size + 1, 0, none⟩ = some (.int .i64 q.1) := hq.cell 0
 have q1 : w1.cell? ⟨w.heap.size + 1, 1, none⟩ = some (.int .i64 q.2) := hq.cell 1
 have r0 : w1.cell? ⟨w.heap.size + 1 + 1, 0, none⟩ = some (.int .i64 r.1) := hr.cell 0
 have r1 : w1.cell? ⟨w.heap.size + 1 + 1, 1, none⟩ = some (.int .i64 r.2) := hr.cell 1
 have HS1 := Lib.hid hs
 have HP1 := Lib.hid hp
 clear hs hp hq hr
 cases hon : onV q r p
 ·have HE : Hid (addS L p q r = L) := by show _ = _; rw [HA.out, if_neg]; rw [hon]; simp
  go_wp2_with fail
  refine (On_val hon _).mono ?_
  rintro e w2 ⟨rfl, hs⟩
  have HS2 := Lib.hid (HS1.out.trans hs)
  clear hs
  go_wp2_with fail
  refine bodyPost_ret (v := .tuple #[]) (by simp [results, Tryz.results148, go_sem]) rfl ?_
  exact ⟨rfl, _, HS2.out.blk HB.out, by rw [HE.out]; exact own_since HS2.out HO.out, Below.mono HS2.out (by omega), Nat.le_trans hBw HS2.out.size⟩
 ·go_wp2_with fail
  refine (On_val hon _).mono ?_
  rintro e w2 ⟨rfl, hs⟩
  have HS2 := Lib.hid (HS1.out.trans hs)
  have HP2 := Lib.hid (hs.blk HP1.out)
  have s0 : w2.cell? ⟨gs, 0, none⟩ = some (.slice av L.length cv) := (HS2.out.blk HB.out).cell 0
  clear hs HS1 HP1 p0 p1 q0 q1 r0 r1
  go_wp2_with fail
  go_loopw [16] (fun v wr => ∃ k : Nat, k ≤ L.length ∧ v = .int .i64 k ∧ Hid (∀ i, i < k → pAt L i ≠ p) ∧ Hid (Since w wr ∧ Blk wr w.heap.size 36 #[.int .i64 p.1, .int .i64 p.2])) (fun v _ => L.length - (intOf v).toNat)
  case atStart => exact ⟨0, by omega, rfl, fun i hi => absurd hi (Nat.not_lt_zero _), HS2.out, HP2.out⟩
  case round =>
   clear HS2 HP2 s0
   obtain ⟨k, hk, rfl, HG, HW⟩ := hrel
   have s0 : wr.cell? ⟨gs, 0, none⟩ = some (.slice av L.length cv) := (HW.out.1.blk HB.out).cell 0
   have p0 : wr.cell? ⟨w.heap.size, 0, none⟩ = some (.int .i64 p.1) := HW.out.2.cell 0
   have p1 : wr.cell? ⟨w.heap.size, 1, none⟩ = some (.int .i64 p.2) := HW.out.2.cell 1
   have hlp := HW.out.2.lt
   rcases Nat.lt_or_ge k L.length with hlt | hge
   ·have hz : decide ((k : Int) < (L.length : Int)) = true := by rw [decide_eq_true_eq]; omega
    obtain ⟨x, HX⟩ : ∃ x : Pt2, Hid (x = pAt L k) := ⟨_, rfl⟩
    have hpts := (own_pts (own_since HW.out.1 HO.out) (Nat.le_refl _)).pts
    obtain ⟨a', c', hv, hpts⟩ := hpts
    injection hv with hv1 hv2 hv3
    subst hv1 hv3
    obtain ⟨g, o, ha, x0, x1⟩ := hpts k hlt
    subst ha
    rw [← HX.out] at x0 x1
    have hne : ¬ wr.heap.size = w.heap.size := by omega
    clear hpts
    by_cases hxp : x = p
    ·have HE : Hid (addS L p q r = L) := by
      show _ = _
      rw [HA.out, if_neg]
      rintro ⟨-, h⟩
      exact h (by rw [← hxp, HX.out]; exact pAt_mem hlt)
     have h1 : (x.1 == p.1) = true := by rw [hxp]; simp
     have h2 : (x.2 == p.2) = true := by rw [hxp]; simp
     have HS3 := Lib.hid (HW.out.1.alloc (.cells #[.int .i64 x.1, .int .i64 x.2] 36))
     clear hxp
     go_wp2_with fail
     refine bodyPost_ret (v := .tuple #[]) (by simp [results, Tryz.results148, go_sem]) rfl ?_
     exact ⟨rfl, _, HS3.out.blk HB.out, by rw [HE.out]; exact own_since HS3.out HO.out, Below.mono HS3.out (by omega), Nat.le_trans hBw HS3.out.size⟩
    ·have HG2 : Hid (∀ i, i < k + 1 → pAt L i ≠ p) := fun i hi => by
      rcases Nat.lt_succ_iff_lt_or_eq.1 hi with h | h
      ·exact HG.out i h
      ·rw [h, ← HX.out]; exact hxp
     have HW3 : Hid (Since w (wr.alloc (.cells #[.int .i64 x.1, .int .i64 x.2] 36)) ∧ Blk (wr.alloc (.cells #[.int .i64 x.1, .int .i64 x.2] 36)) w.heap.size 36 #[.int .i64 p.1, .int .i64 p.2]) := ⟨HW.out.1.alloc _, HW.out.2.alloc _⟩
     cases h1 : (x.1 == p.1) <;> cases h2 : (x.2 == p.2)
     case true.true => exact absurd (Prod.ext (beq_iff_eq.1 h1) (beq_iff_eq.1 h2)) hxp
     all_goals
      go_wp2_with fail
      go_roundw
      case rel => exact ⟨k + 1, by omega, by go_num, HG2, HW3⟩
      case measure => simp [intOf]; omega
   ·obtain rfl : k = L.length := by omega
    have hz : decide ((L.length : Int) < (L.length : Int)) = false := by rw [decide_eq_false_iff_not]; omega
    have HE : Hid (addS L p q r = L ++ [p]) := by
     show _ = _
     rw [HA.out, if_pos]
     refine ⟨hon, fun h => ?_⟩
     obtain ⟨i, hi, e⟩ := mem_pAt h
     exact HG.out i hi e
    have HO2 := Lib.hid (own_since HW.out.1 HO.out)
    have HB2 := Lib.hid (HW.out.1.blk HB.out)
    have hwr := HW.out.1.size
    obtain ⟨i0, hi0, hz0, hz1, hz3⟩ := info_parts infoPt
    have HI := Lib.hid hi0
    have HZ := Lib.hid (And.intro hz0 (And.intro hz1 hz3))
    clear hi0 hz0 hz1 hz3
    go_wp2_with (at_builtin; refine wpList_append_own _ rfl _ _ 23 rfl B 36 i0 _ 2 16 Tryz.underlying23 HI.out HZ.out.1 HZ.out.2.1 HZ.out.2.2 rfl (by decide) _ _ _ rfl (own_since ((Since.rfl_ wr).alloc _) HO2.out) _ _ _ [.int .i64 p.1, .int .i64 p.2] rfl rfl (cell2_new _ _ _ _) (one2 _ _ _ _) (by unfold maxLen; omega) (by omega) (by simp only [World.size_alloc]; omega) ?_)
    intro v' w' hown hgrow _
    obtain ⟨ao', co', rfl⟩ := own_slice hown
    have hA := (Since.rfl_ wr).alloc (.cells #[.int .i64 p.1, .int .i64 p.2] 36)
    have hoA := own_since hA HO2.out
    have hgb := (hgrow.block _ (hA.blk HB2.out).lt (own_ne hoA hB)).trans (hA.blk HB2.out)
    have HB3 : Hid (Blk w' gs 23 #[.slice av L.length cv]) := hgb
    have HL3 : Hid (Below gs w w') := (Below.mono (HW.out.1.trans hA) (show gs ≤ w.heap.size by omega)).grown hgrow (by simp only [World.size_alloc]; omega) fun k hk => by have := (hoA.lt k hk).1; omega
    have HO3 : Hid (w'.ownsRow B 36 2 (.slice ao' (L.length + 1) co') (addS L p q r).length ((addS L p q r).flatMap ptV)) := by
     show World.ownsRow _ _ _ _ _ _ _
     rw [HE.out, List.flatMap_append, List.length_append]
     exact hown
    have hsz : B ≤ w'.heap.size := Nat.le_trans (Nat.le_trans hBw hwr) (Nat.le_trans hA.size hgrow.size)
    have s1 : w'.cell? ⟨gs, 0, none⟩ = some (.slice av L.length cv) := HB3.out.cell 0
    have sf := HB3.out.frozen 0
    have hne3 : some gs ≠ (Value.slice ao' (L.length + 1) co').ownBlock := own_ne HO3.out hB
    have HF4 := Lib.hid (And.intro (HB3.out.set_ 0 (.slice ao' (L.length + 1) co')) (And.intro (own_far (p := ⟨gs, 0, none⟩) HO3.out hne3 (.slice ao' (L.length + 1) co')) (HL3.out.setCell (p := ⟨gs, 0, none⟩) (Nat.le_refl _) (.slice ao' (L.length + 1) co'))))
    clear hown hgrow hA hoA hgb HO2 HB2 HB3 HL3 HO3 s0 p0 p1 hne3
    go_wp2_with fail
    go_end0
    exact ⟨rfl, _, HF4.out.1, HF4.out.2.1, HF4.out.2.2, by simpa [World.setCell] using hsz⟩
end
section
open Go.RowKit Go.BigFrame
attribute [local go_sem ↓] eqPt neqPt
def sharedL (a b c d : Pt2) : List Pt2 := addS (addS (addS (addS [] a c d) b c d) c a b) d a b
theorem addS_len (L : List Pt2) (p q r : Pt2) : (addS L p q r).length ≤ L.length + 1 := by
 unfold addS
 split
 ·simp
 ·omega
structure ShW (w W : World) (G : Nat) (a b c d : Pt2) (L : List Pt2) (v : Value) : Prop where
 s : Since w W
 ba : Blk W G 36 #[.int .i64 a.1, .int .i64 a.2]
 bb : Blk W (G + 1) 36 #[.int .i64 b.1, .int .i64 b.2]
 bc : Blk W (G + 1 + 1) 36 #[.int .i64 c.1, .int .i64 c.2]
 bd : Blk W (G + 1 + 1 + 1) 36 #[.int .i64 d.1, .int .i64 d.2]
 bs : Blk W (G + 1 + 1 + 1 + 1) 23 #[v]
 row : W.ownsRow (G + 5) 36 2 v L.length (L.flatMap ptV)
 sz : G + 5 ≤ W.heap.size
theorem ShW.step {w W W' : World} {G : Nat} {a b c d : Pt2} {L L' : List Pt2} {v v' : Value} (h : ShW w W G a b c d L v) (hG : G = w.heap.size) (h1 : Blk W' (G + 1 + 1 + 1 + 1) 23 #[v']) (h2 : W'.ownsRow (G + 5) 36 2 v' L'.length (L'.flatMap ptV)) (hb : Below (G + 1 + 1 + 1 + 1) W W') (hs : G + 5 ≤ W'.heap.size) : ShW w W' G a b c d L' v' :=
 ⟨Below.trans (B := w.heap.size) h.s (Below.mono hb (by omega)), h.ba.below hb (by omega), h.bb.below hb (by omega), h.bc.below hb (by omega), h.bd.below hb (by omega), h1, h2, hs⟩
set_option maxRecDepth 100000 in
set_option maxHeartbeats 4000000 in
theorem shared_own (a b c d : Pt2) (w : World) :
  Calls Tryz.prog 119 #[.agg #[.int .i64 a.1, .int .i64 a.2], .agg #[.int .i64 b.1, .int .i64 b.2], .agg #[.int .i64 c.1, .int .i64 c.2], .agg #[.int .i64 d.1, .int .i64 d.2]] w fun e w' =>
   ∃ x y, e = .returned (.slice x (sharedL a b c d).length y) ∧ w'.ownsRow w.heap.size 36 2 (.slice x (sharedL a b c d).length y) (sharedL a b c d).length ((sharedL a b c d).flatMap ptV) ∧ Since w w' := by
 obtain ⟨L1, H1⟩ : ∃ L1, Hid (L1 = addS [] a c d) := ⟨_, rfl⟩
 obtain ⟨L2, H2⟩ : ∃ L2, Hid (L2 = addS L1 b c d) := ⟨_, rfl⟩
 obtain ⟨L3, H3⟩ : ∃ L3, Hid (L3 = addS L2 c a b) := ⟨_, rfl⟩
 obtain ⟨L4, H4⟩ : ∃ L4, Hid (L4 = addS L3 d a b) := ⟨_, rfl⟩
 have HE : Hid (sharedL a b c d = L4) := by show _ = _; rw [H4.out, H3.out, H2.out, H1.out]; rfl
 have k1 : L1.length ≤ 1 := by rw [H1.out]; exact addS_len _ _ _ _
 have k2 : L2.length ≤ 2 := by have := addS_len L1 b c d; rw [H2.out]; omega
 have k3 : L3.length ≤ 3 := by have := addS_len L2 c a b; rw [H3.out]; omega
 go_enter Tryz.func119, Tryz.ntmps119
 go_upto_region 3 with fail
 obtain ⟨G, HG⟩ : ∃ G, G = w.heap.size := ⟨_, rfl⟩
 rw [← HG]
 refine atW (fun w' => ShW w w' G a b c d [] (.slice none 0 0)) ⟨((((Since.rfl_ w).alloc _).alloc _).alloc _).alloc _ |>.alloc _, (((Blk.new' HG).alloc _).alloc _).alloc _ |>.alloc _, ((Blk.new' (by simp [HG])).alloc _).alloc _ |>.alloc _, (Blk.new' (by simp [HG])).alloc _ |>.alloc _, (Blk.new' (by simp [HG])).alloc _, Blk.new' (by simp [HG]), World.ownsRow_nil _ _ _ _, by simp [HG]⟩ ?_
 intro w1 h1
 have HW := Lib.hid h1
 have HGG := Lib.hid HG
 clear h1 HG
 have a0 : w1.cell? ⟨G, 0, none⟩ = some (.int .i64 a.1) := HW.out.ba.cell 0
 have a1 : w1.cell? ⟨G, 1, none⟩ = some (.int .i64 a.2) := HW.out.ba.cell 1
 have b0 : w1.cell? ⟨G + 1, 0, none⟩ = some (.int .i64 b.1) := HW.out.bb.cell 0
 have b1 : w1.cell? ⟨G + 1, 1, none⟩ = some (.int .i64 b.2) := HW.out.bb.cell 1
 have c0 : w1.cell? ⟨G + 1 + 1, 0, none⟩ = some (.int .i64 c.1) := HW.out.bc.cell 0
 have c1 : w1.cell? ⟨G + 1 + 1, 1, none⟩ = some (.int .i64 c.2) := HW.out.bc.cell 1
 have d0 : w1.cell? ⟨G + 1 + 1 + 1, 0, none⟩ = some (.int .i64 d.1) := HW.out.bd.cell 0
 have d1 : w1.cell? ⟨G + 1 + 1 + 1, 1, none⟩ = some (.int .i64 d.2) := HW.out.bd.cell 1
 go_wp2_with fail
 refine (add_any (G + 1 + 1 + 1 + 1) (G + 5) [] a c d _ w1 HW.out.bs HW.out.row (by omega) HW.out.sz (by first | omega | simp)).mono ?_
 rintro e w2 ⟨rfl, vw2, hb, ho, hbl, hs⟩
 rw [← H1.out] at ho
 have HW := Lib.hid (HW.out.step HGG.out hb ho hbl hs)
 clear hb ho hbl hs a0 a1 b0 b1 c0 c1 d0 d1
 have a0 : w2.cell? ⟨G, 0, none⟩ = some (.int .i64 a.1) := HW.out.ba.cell 0
 have a1 : w2.cell? ⟨G, 1, none⟩ = some (.int .i64 a.2) := HW.out.ba.cell 1
 have b0 : w2.cell? ⟨G + 1, 0, none⟩ = some (.int .i64 b.1) := HW.out.bb.cell 0
 have b1 : w2.cell? ⟨G + 1, 1, none⟩ = some (.int .i64 b.2) := HW.out.bb.cell 1
 have c0 : w2.cell? ⟨G + 1 + 1, 0, none⟩ = some (.int .i64 c.1) := HW.out.bc.cell 0
 have c1 : w2.cell? ⟨G + 1 + 1, 1, none⟩ = some (.int .i64 c.2) := HW.out.bc.cell 1
 have d0 : w2.cell? ⟨G + 1 + 1 + 1, 0, none⟩ = some (.int .i64 d.1) := HW.out.bd.cell 0
 have d1 : w2.cell? ⟨G + 1 + 1 + 1, 1, none⟩ = some (.int .i64 d.2) := HW.out.bd.cell 1
 go_wp2_with fail
 refine (add_any (G + 1 + 1 + 1 + 1) (G + 5) L1 b c d _ w2 HW.out.bs HW.out.row (by omega) HW.out.sz (by first | omega | simp)).mono ?_
 rintro e w3 ⟨rfl, vw3, hb, ho, hbl, hs⟩
 rw [← H2.out] at ho
 have HW := Lib.hid (HW.out.step HGG.out hb ho hbl hs)
 clear hb ho hbl hs a0 a1 b0 b1 c0 c1 d0 d1
 have a0 : w3.cell? ⟨G, 0, none⟩ = some (.int .i64 a.1) := HW.out.ba.cell 0
 have a1 : w3.cell? ⟨G, 1, none⟩ = some (.int .i64 a.2) := HW.out.ba.cell 1
 have b0 : w3.cell? ⟨G + 1, 0, none⟩ = some (.int .i64 b.1) := HW.out.bb.cell 0
 have b1 : w3.cell? ⟨G + 1, 1, none⟩ = some (.int .i64 b.2) := HW.out.bb.cell 1
 have c0 : w3.cell? ⟨G + 1 + 1, 0, none⟩ = some (.int .i64 c.1) := HW.out.bc.cell 0
 have c1 : w3.cell? ⟨G + 1 + 1, 1, none⟩ = some (.int .i64 c.2) := HW.out.bc.cell 1
 have d0 : w3.cell? ⟨G + 1 + 1 + 1, 0, none⟩ = some (.int .i64 d.1) := HW.out.bd.cell 0
 have d1 : w3.cell? ⟨G + 1 + 1 + 1, 1, none⟩ = some (.int .i64 d.2) := HW.out.bd.cell 1
 go_wp2_with fail
 refine (add_any (G + 1 + 1 + 1 + 1) (G + 5) L2 c a b _ w3 HW.out.bs HW.out.row (by omega) HW.out.sz (by first | omega | simp)).mono ?_
 rintro e w4 ⟨rfl, vw4, hb, ho, hbl, hs⟩
 rw [← H3.out] at ho
 have HW := Lib.hid (HW.out.step HGG.out hb ho hbl hs)
 clear hb ho hbl hs a0 a1 b0 b1 c0 c1 d0 d1
 have a0 : w4.cell? ⟨G, 0, none⟩ = some (.int .i64 a.1) := HW.out.ba.cell 0
 have a1 : w4.cell? ⟨G, 1, none⟩ = some (.int .i64 a.2) := HW.out.ba.cell 1
 have b0 : w4.cell? ⟨G + 1, 0, none⟩ = some (.int .i64 b.1) := HW.out.bb.cell 0
 have b1 : w4.cell? ⟨G + 1, 1, none⟩ = some (.int .i64 b.2) := HW.out.bb.cell 1
 have c0 : w4.cell? ⟨G + 1 + 1, 0, none⟩ = some (.int .i64 c.1) := HW.out.bc.cell 0
 have c1 : w4.cell? ⟨G + 1 + 1, 1, none⟩ = some (.int .i64 c.2) := HW.out.bc.cell 1
 have d0 : w4.cell? ⟨G + 1 + 1 + 1, 0, none⟩ = some (.int .i64 d.1) := HW.out.bd.cell 0
 have d1 : w4.cell? ⟨G + 1 + 1 + 1, 1, none⟩ = some (.int .i64 d.2) := HW.out.bd.cell 1
 go_wp2_with fail
 refine (add_any (G + 1 + 1 + 1 + 1) (G + 5) L3 d a b _ w4 HW.out.bs HW.out.row (by omega) HW.out.sz (by first | omega | simp)).mono ?_
 rintro e w5 ⟨rfl, vw5, hb, ho, hbl, hs⟩
 rw [← H4.out] at ho
 have HW := Lib.hid (HW.out.step HGG.out hb ho hbl hs)
 clear hb ho hbl hs a0 a1 b0 b1 c0 c1 d0 d1
 have s0 : w5.cell? ⟨G + 1 + 1 + 1 + 1, 0, none⟩ = some vw5 := HW.out.bs.cell 0
 obtain ⟨x, y, rfl⟩ := own_slice HW.out.row
 go_wp2_with fail
 go_ret
 have hr := HW.out.row.mono (show w.heap.size ≤ G + 5 by have := HGG.out; omega)
 rw [HE.out]
 exact ⟨x, y, rfl, hr, HW.out.s⟩
theorem shared_any (a b c d : Pt2) (w : World) :
  Calls Tryz.prog 119 #[.agg #[.int .i64 a.1, .int .i64 a.2], .agg #[.int .i64 b.1, .int .i64 b.2], .agg #[.int .i64 c.1, .int .i64 c.2], .agg #[.int .i64 d.1, .int .i64 d.2]] w fun e w' =>
   ∃ x y, e = .returned (.slice x (sharedL a b c d).length y) ∧ Since w w' :=
 (shared_own a b c d w).mono fun _ _ ⟨x, y, h1, _, h3⟩ => ⟨x, y, h1, h3⟩
end
end Go.Proofs.YtdnccjdlmepafaaGreat
