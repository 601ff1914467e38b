/-
  slices.SortFunc and slices.Reverse over points, out of the kit's contracts; Walks of buffer.Octagon and buffer.Strip; The walk of buffer.Strip; The walk of hull.Has at points of the hull; Plain laws of the hull of points: sorted, each one once; its edges; points within it; Plain laws of strips: points near a segment; the octagon of the fact; Walks of point.Dot, point.On, terrkeep3.strips; Plain law: the edges of a hull meet at their common corners alone. Conditions: those that each lemma names.
-/
import Derived.Test.YtdnccjdlmepafaaK03
section
namespace Go.Proofs.Ytdnccjdlmepafaa
set_option linter.unusedSimpArgs false
set_option linter.unusedVariables false
open Go.RowKit Go.BigFrame Go.Shelf Go.Lib Go.Proofs
def sortPt_ren : Go.Shelf.Ren := ⟨fun | 6 => 19 | 15 => 33 | 14 => 32 | 28 => 49 | 29 => 50 | 20 => 41 | 21 => 42 | 22 => 43 | 23 => 44 | 24 => 45 | 25 => 46 | 26 => 47 | 27 => 48 | 46 => 64 | 47 => 65 | 48 => 66 | 49 => 67 | 50 => 68 | 57 => 74 | n => n, fun | 22 => 22 | 24 => 34 | 25 => 49 | 3 => 3 | 39 => 66 | 0 => 0 | 53 => 83 | 55 => 85 | 4 => 4 | 46 => 76 | 45 => 75 | 50 => 80 | 5 => 5 | 9 => 9 | 66 => 97 | 70 => 101 | 76 => 106 | 77 => 107 | n => n, fun | n => n⟩
theorem sortPt : Go.Proofs.SlLaysF0.n6 Try.prog sortPt_ren := {
  mixed := by kernel_rfl
  f6 := ⟨Try.f19.name, by decide, Try.func19.trans (congrArg some (by kernel_rfl))⟩
  f14 := ⟨Try.f32.name, by decide, Try.func32.trans (congrArg some (by kernel_rfl))⟩
  f15 := Try.func33.trans (congrArg some (by kernel_rfl))
  f20 := ⟨Try.f41.name, by decide, Try.func41.trans (congrArg some (by kernel_rfl))⟩
  f21 := ⟨Try.f42.name, by decide, Try.func42.trans (congrArg some (by kernel_rfl))⟩
  f22 := ⟨Try.f43.name, by decide, Try.func43.trans (congrArg some (by kernel_rfl))⟩
  f23 := ⟨Try.f44.name, by decide, Try.func44.trans (congrArg some (by kernel_rfl))⟩
  f24 := ⟨Try.f45.name, by decide, Try.func45.trans (congrArg some (by kernel_rfl))⟩
  f25 := ⟨Try.f46.name, by decide, Try.func46.trans (congrArg some (by kernel_rfl))⟩
  f26 := ⟨Try.f47.name, by decide, Try.func47.trans (congrArg some (by kernel_rfl))⟩
  f27 := ⟨Try.f48.name, by decide, Try.func48.trans (congrArg some (by kernel_rfl))⟩
  f28 := Try.func49.trans (congrArg some (by kernel_rfl))
  f29 := Try.func50.trans (congrArg some (by kernel_rfl))
  f46 := ⟨Try.f64.name, by decide, Try.func64.trans (congrArg some (by kernel_rfl))⟩
  f47 := Try.func65.trans (congrArg some (by kernel_rfl))
  f48 := Try.func66.trans (congrArg some (by kernel_rfl))
  f49 := ⟨Try.f67.name, by decide, Try.func67.trans (congrArg some (by kernel_rfl))⟩
  f50 := ⟨Try.f68.name, by decide, Try.func68.trans (congrArg some (by kernel_rfl))⟩
  f57 := ⟨Try.f74.name, by decide, Try.func74.trans (congrArg some (by kernel_rfl))⟩
  t0 := Try.underlying0
  a0 := Try.isAgg0
  z0 := Try.sizeOf0
  v0 := Try.zeroValue0
  t3 := Try.underlying3
  a3 := Try.isAgg3
  z3 := Try.sizeOf3
  v3 := Try.zeroValue3
  t4 := Try.underlying4
  a4 := Try.isAgg4
  z4 := Try.sizeOf4
  v4 := Try.zeroValue4
  t5 := Try.underlying5
  a5 := Try.isAgg5
  z5 := Try.sizeOf5
  v5 := Try.zeroValue5
  t9 := Try.underlying9
  a9 := Try.isAgg9
  z9 := Try.sizeOf9
  v9 := Try.zeroValue9
  t22 := Try.underlying22
  a22 := Try.isAgg22
  z22 := Try.sizeOf22
  v22 := Try.zeroValue22
  t25 := Try.underlying49
  a25 := Try.isAgg49
  z25 := Try.sizeOf49
  v25 := Try.zeroValue49
  t39 := Try.underlying66
  a39 := Try.isAgg66
  z39 := Try.sizeOf66
  v39 := Try.zeroValue66
  t45 := Try.underlying75
  a45 := Try.isAgg75
  z45 := Try.sizeOf75
  v45 := Try.zeroValue75
  t46 := Try.underlying76
  a46 := Try.isAgg76
  z46 := Try.sizeOf76
  v46 := Try.zeroValue76
  t50 := Try.underlying80
  a50 := Try.isAgg80
  z50 := Try.sizeOf80
  v50 := Try.zeroValue80
  t53 := Try.underlying83
  a53 := Try.isAgg83
  z53 := Try.sizeOf83
  v53 := Try.zeroValue83
  t55 := Try.underlying85
  a55 := Try.isAgg85
  z55 := Try.sizeOf85
  v55 := Try.zeroValue85
  t66 := Try.underlying97
  a66 := Try.isAgg97
  z66 := Try.sizeOf97
  v66 := Try.zeroValue97
  t70 := Try.underlying101
  a70 := Try.isAgg101
  z70 := Try.sizeOf101
  v70 := Try.zeroValue101
  t76 := Try.underlying106
  a76 := Try.isAgg106
  z76 := Try.sizeOf106
  v76 := Try.zeroValue106
  t77 := Try.underlying107
  a77 := Try.isAgg107
  z77 := Try.sizeOf107
  v77 := Try.zeroValue107 }
theorem lxB_swo : Go.Sort.SWO (ltOf cmpP) where
  irrefl x := by rw [cmpP_lt]; simp [lxB]
  trans x y z h1 h2 := by rw [cmpP_lt] at *; simp only [lxB, Bool.or_eq_true, Bool.and_eq_true, decide_eq_true_eq] at *; omega
  ntrans x y z h1 h2 := by
    rw [cmpP_lt] at *
    simp only [lxB, Bool.or_eq_false_iff, Bool.and_eq_false_iff, decide_eq_false_iff_not] at *; omega
theorem ptV_one (x : Pt2) : ∀ v ∈ ptV x, v.oneCell' = true := by
  intro v hv
  simp only [ptV, List.mem_cons, List.not_mem_nil, or_false] at hv
  rcases hv with rfl | rfl <;> rfl
theorem cmpLays (blk off size : Nat) (w : World) : CmpLays Try.prog 16 #[] ptV 2 cmpP blk off size w := fun _ _ _ _ x y => Cmp_any x y _
theorem sort_spec : SortSpec := by
  intro g c n B l w h hn hlen
  have eg : ∀ args w, (callFunc 16 args).run Try.prog w = .ok (.enter 16 args) w := enters_of Try.func16 (by kernel_rfl) rfl
  have hT : ∀ x y, (ltOf cmpP) x y = false → (ltOf cmpP) y x = false → x = y := fun x y h1 h2 => by
    rw [cmpP_lt] at *
    simp only [lxB, Bool.or_eq_false_iff, Bool.and_eq_false_iff, decide_eq_false_iff_not] at *
    exact Prod.ext (by omega) (by omega)
  have hcon := AnyQ.slices_SortFunc_total sortPt 2 Try.isAgg34 Try.sizeOf34 ptV ptV_len ptV_one cmpP lxB_swo 16 #[] g 0 c l.toArray w eg (cmpLays _ _ _ _) (own_holds h hn) (h.lt g rfl).2 (by simp; omega) hT
  change Calls Try.prog 19 _ _ _ at hcon
  rw [show l.toArray.size = n by simp [hn]] at hcon
  refine hcon.mono ?_
  rintro e w' ⟨rfl, m, os, rfl⟩
  have e1 : (l.toArray.toList.mergeSort fun x y => !(ltOf cmpP) y x).toArray = (srtL l).toArray := by
    unfold srtL
    have : (fun x y => !(ltOf cmpP) y x) = fun x y => !lxB y x := by funext x y; rw [cmpP_lt]
    rw [this]
  rw [e1]
  exact ⟨rfl, own_sort h hn (by unfold srtL; simp), only_sort _ (h.lt g rfl).2⟩
end Go.Proofs.Ytdnccjdlmepafaa
end
section
namespace Go.Proofs.Ytdnccjdlmepafaa
set_option linter.unusedSimpArgs false
set_option linter.unusedVariables false
open Go.RowKit Go.BigFrame
attribute [local go_sem ↓] eqPt neqPt
end Go.Proofs.Ytdnccjdlmepafaa
end
section
namespace Go.Proofs.Ytdnccjdlmepafaa
set_option linter.unusedSimpArgs false
set_option linter.unusedVariables false
open Go.RowKit Go.BigFrame
attribute [local go_sem ↓] eqPt neqPt
/-- What is known in a strip's world. -/
def StW (w0 w : World) (p q : Pt2) : Prop := Since w0 w ∧ Blk w w0.heap.size 34 #[.int .i64 p.1, .int .i64 p.2] ∧ Blk w (w0.heap.size + 1) 34 #[.int .i64 q.1, .int .i64 q.2]
theorem StW.since {w0 w w' : World} {p q : Pt2} (h : StW w0 w p q) (hs : Since w w') : StW w0 w' p q := ⟨h.1.trans hs, hs.blk h.2.1, hs.blk h.2.2⟩
theorem own_some {w : World} {B : Nat} {e : TypeId} {k n : Nat} {v : Value} {xs : List Value} (h : w.ownsRow B e k v n xs) (hn : 0 < n) : ∃ g c, v = .slice (some ⟨g, 0, none⟩) n c := by
  obtain ⟨-, ⟨-, h0⟩ | ⟨g, cap, cur, h, -⟩⟩ := h
  · omega
  · exact ⟨g, cap, h⟩

end Go.Proofs.Ytdnccjdlmepafaa
end
section
namespace Go.Proofs.Ytdnccjdlmepafaa
set_option linter.unusedSimpArgs false
set_option linter.unusedVariables false
open Go.RowKit Go.BigFrame
attribute [local go_sem ↓] eqPt neqPt
end Go.Proofs.Ytdnccjdlmepafaa
end
section
namespace Go.Proofs.Ytdnccjdlmepafaa
set_option linter.unusedSimpArgs false
set_option linter.unusedVariables false

theorem lxB_iff {a b : Pt2} : lxB a b = true ↔ lx a b := by unfold lxB lx; simp
theorem srtL_mem {l : List Pt2} {q : Pt2} : q ∈ srtL l ↔ q ∈ l := by unfold srtL; exact List.mem_mergeSort
theorem srtL_pw (l : List Pt2) : (srtL l).Pairwise fun x y => ¬ lx y x := by
  have := List.pairwise_mergeSort (le := fun x y : Pt2 => !lxB y x) (fun a b c h1 h2 => by
    simp only [Bool.not_eq_true', ← Bool.not_eq_true, lxB_iff] at *
    unfold lx at *; omega) (fun a b => by
    simp only [Bool.or_eq_true, Bool.not_eq_true', ← Bool.not_eq_true, lxB_iff]
    unfold lx; omega) l
  unfold srtL
  exact this.imp fun h => by simpa [← Bool.not_eq_true, lxB_iff] using h
theorem snoc_fold : ∀ (l acc : List Pt2), (∀ x ∈ acc, ∀ y ∈ l, ¬ lx y x) → (l.Pairwise fun x y => ¬ lx y x) → Srt acc → Srt (l.foldl snocC acc) ∧ ∀ q, q ∈ l.foldl snocC acc ↔ q ∈ acc ∨ q ∈ l
  | [], acc, _, _, h => ⟨h, fun q => by simp⟩
  | p :: l, acc, h1, h2, h3 => by
    rw [List.pairwise_cons] at h2
    rw [List.foldl_cons]
    have key : Srt (snocC acc p) ∧ ∀ q, q ∈ snocC acc p ↔ q ∈ acc ∨ q = p := by
      unfold snocC
      split
      · rename_i h
        have : acc = [] := List.length_eq_zero_iff.1 h
        subst this
        exact ⟨by unfold Srt; simp, fun q => by simp⟩
      · rename_i h
        have hl : lastP acc ∈ acc := pAt_mem (by omega)
        split
        · rename_i e
          exact ⟨h3, fun q => ⟨.inl, fun h => h.elim id fun h => by rw [h, e]; exact hl⟩⟩
        · rename_i e
          refine ⟨?_, fun q => by simp⟩
          unfold Srt at *
          rw [List.pairwise_append]
          refine ⟨h3, by simp, fun x hx y hy => ?_⟩
          rw [List.mem_singleton.1 hy]
          have a := h1 x hx p (by simp)
          rcases lx_tri x p with t | t | t
          · exact t
          · exfalso
            obtain ⟨i, hi, hx'⟩ := mem_pAt hx
            by_cases hL : i = acc.length - 1
            · apply e; rw [← t, ← hx', hL]; rfl
            · have hp := List.pairwise_iff_getElem.1 h3 i (acc.length - 1) hi (by omega) (by omega)
              have e1 : acc[i] = x := by rw [← hx']; simp [pAt, List.getD, hi]
              have e2 : acc[acc.length - 1] = lastP acc := by simp [lastP, pAt, List.getD, show acc.length - 1 < acc.length by omega]
              rw [e1, e2, t] at hp
              exact h1 _ hl p (by simp) hp
          · exact absurd t a
    have := snoc_fold l (snocC acc p) (fun x hx y hy => by
      rcases (key.2 x).1 hx with g | g
      · exact h1 x g y (List.mem_cons_of_mem _ hy)
      · rw [g]; exact h2.1 y hy) h2.2 key.1
    refine ⟨this.1, fun q => ?_⟩
    rw [this.2, key.2, List.mem_cons, or_assoc]
theorem hullS_srt (l : List Pt2) : Srt (hullS l) := (snoc_fold (srtL l) [] (by simp) (srtL_pw l) (by unfold Srt; simp)).1
theorem hullS_mem {l : List Pt2} {q : Pt2} : q ∈ hullS l ↔ q ∈ l := by
  have := (snoc_fold (srtL l) [] (by simp) (srtL_pw l) (by unfold Srt; simp)).2 q
  unfold hullS cmpL
  rw [this, srtL_mem]; simp
/-! ### Points near a segment -/
end Go.Proofs.Ytdnccjdlmepafaa
end
section
namespace Go.Proofs.Ytdnccjdlmepafaa
set_option linter.unusedSimpArgs false
set_option linter.unusedVariables false

end Go.Proofs.Ytdnccjdlmepafaa
end
section
namespace Go.Proofs.Ytdnccjdlmepafaa
set_option linter.unusedSimpArgs false
set_option linter.unusedVariables false
open Go.RowKit Go.BigFrame
attribute [local go_sem ↓] eqPt neqPt
def dotV (ax ay bx by_ px py : Int) : Int := (bx - ax) * (px - ax) + (by_ - ay) * (py - ay)
set_option maxHeartbeats 1000000 in
theorem Dot_any (ax ay bx by_ cx cy : Int) (w : World) : Calls Try.prog 73 #[.agg #[.int .i64 ax, .int .i64 ay], .agg #[.int .i64 bx, .int .i64 by_], .agg #[.int .i64 cx, .int .i64 cy]] w fun e w' =>
    e = .returned (.int .i64 (dotV (clampI ax) (clampI ay) (clampI bx) (clampI by_) (clampI cx) (clampI cy))) ∧ Since w w' := by
  have q1 := clampI_bd ax
  have q2 := clampI_bd ay
  have q3 := clampI_bd bx
  have q4 := clampI_bd by_
  have q5 := clampI_bd cx
  have q6 := clampI_bd cy
  have m1 : ((clampI bx - clampI ax) * (clampI cx - clampI ax)).natAbs ≤ 4398046511104 := Nat.le_trans (mul_bd (A := 2097152) (B := 2097152) (by omega) (by omega)) (by decide)
  have m2 : ((clampI by_ - clampI ay) * (clampI cy - clampI ay)).natAbs ≤ 4398046511104 := Nat.le_trans (mul_bd (A := 2097152) (B := 2097152) (by omega) (by omega)) (by decide)
  have e1 : wrap64 ((clampI bx - clampI ax) * (clampI cx - clampI ax)) = (clampI bx - clampI ax) * (clampI cx - clampI ax) := wrap_id (by omega)
  have e2 : wrap64 ((clampI by_ - clampI ay) * (clampI cy - clampI ay)) = (clampI by_ - clampI ay) * (clampI cy - clampI ay) := wrap_id (by omega)
  have e3 : wrap64 ((clampI bx - clampI ax) * (clampI cx - clampI ax) + (clampI by_ - clampI ay) * (clampI cy - clampI ay)) = (clampI bx - clampI ax) * (clampI cx - clampI ax) + (clampI by_ - clampI ay) * (clampI cy - clampI ay) := wrap_id (by omega)
  clear m1 m2 q1 q2 q3 q4 q5 q6
  go_enter Try.func73, Try.ntmps73
  go_upto_region 1 with fail
  refine atW (fun w' => Blk w' w.heap.size 34 #[.int .i64 ax, .int .i64 ay] ∧ Blk w' (w.heap.size + 1) 34 #[.int .i64 bx, .int .i64 by_] ∧ Blk w' (w.heap.size + 1 + 1) 34 #[.int .i64 cx, .int .i64 cy] ∧ Since w w') ⟨((Blk.new w _ _).alloc _).alloc _, (Blk.new' (by simp)).alloc _, Blk.new' (by simp), (((Since.rfl_ w).alloc _).alloc _).alloc _⟩ ?_
  rintro w1 ⟨ha, hb, hr, hs⟩
  have a0 : w1.cell? ⟨w.heap.size, 0, none⟩ = some (.int .i64 ax) := ha.cell 0
  have a1 : w1.cell? ⟨w.heap.size, 1, none⟩ = some (.int .i64 ay) := ha.cell 1
  have b0 : w1.cell? ⟨w.heap.size + 1, 0, none⟩ = some (.int .i64 bx) := hb.cell 0
  have b1 : w1.cell? ⟨w.heap.size + 1, 1, none⟩ = some (.int .i64 by_) := hb.cell 1
  have c0 : w1.cell? ⟨w.heap.size + 1 + 1, 0, none⟩ = some (.int .i64 cx) := hr.cell 0
  have c1 : w1.cell? ⟨w.heap.size + 1 + 1, 1, none⟩ = some (.int .i64 cy) := hr.cell 1
  have HB := Lib.hid (And.intro ha (And.intro hb (And.intro hr hs)))
  clear ha hb hr hs
  apply region_facts 8 (fun w' => w'.cell? ⟨w.heap.size, 0, none⟩ = some (.int .i64 ax) ∧ w'.cell? ⟨w.heap.size, 1, none⟩ = some (.int .i64 ay) ∧ w'.cell? ⟨w.heap.size + 1, 0, none⟩ = some (.int .i64 bx) ∧ w'.cell? ⟨w.heap.size + 1, 1, none⟩ = some (.int .i64 by_) ∧ w'.cell? ⟨w.heap.size + 1 + 1, 0, none⟩ = some (.int .i64 cx) ∧ w'.cell? ⟨w.heap.size + 1 + 1, 1, none⟩ = some (.int .i64 cy) ∧ Since w1 w')
  case hm => kernel_rfl
  case hB => kernel_rfl
  case hS => exact ⟨a0, a1, b0, b1, c0, c1, (Since.rfl_ w1).drew⟩
  case h =>
  simp only [List.take_succ_cons, List.take_zero, List.drop_succ_cons, List.drop_zero]
  apply wpO_det
  case hw => rfl
  case h =>
    intro hFm wx hS_ hF_ K hK
    go_big_quiet_op
    first
      | exact hK _ rfl
      | (apply Exists.intro; refine ⟨fun _ => ?_, ?_⟩; (focus (first | (intro hC; have hC := hC.out; (try simp only [hC, Result.andThen]); first | exact ⟨True.intro, rfl⟩ | exact ⟨rfl, rfl⟩ | rfl))); exact hK _ rfl)
  case k =>
  simp only [Act.put, List.setIfInBounds_toArray, List.set_cons_succ, List.set_cons_zero, List.cons_append, List.nil_append]
  apply wpO_det
  case hw => rfl
  case h =>
    intro hFm wx hS_ hF_ K hK
    go_big_quiet_op
    first
      | exact hK _ rfl
      | (apply Exists.intro; refine ⟨fun _ => ?_, ?_⟩; (focus (first | (intro hC; have hC := hC.out; (try simp only [hC, Result.andThen]); first | exact ⟨True.intro, rfl⟩ | exact ⟨rfl, rfl⟩ | rfl))); exact hK _ rfl)
  case k =>
  simp only [Act.put, List.setIfInBounds_toArray, List.set_cons_succ, List.set_cons_zero, List.cons_append, List.nil_append]
  apply wpO_det
  case hw => rfl
  case h =>
    intro hFm wx hS_ hF_ K hK
    go_big_quiet_op
    first
      | exact hK _ rfl
      | (apply Exists.intro; refine ⟨fun _ => ?_, ?_⟩; (focus (first | (intro hC; go_at_call 72; refine (way_any _ _ _ _ _).mono ?_; rintro e w' ⟨rfl, hb⟩; refine ⟨rfl, ?_⟩; exact cls_call hFm hC hb))); exact hK _ rfl)
  case k =>
  simp only [Act.put, List.setIfInBounds_toArray, List.set_cons_succ, List.set_cons_zero, List.cons_append, List.nil_append]
  apply wpO_det
  case hw => rfl
  case h =>
    intro hFm wx hS_ hF_ K hK
    go_big_quiet_op
    first
      | exact hK _ rfl
      | (apply Exists.intro; refine ⟨fun _ => ?_, ?_⟩; (focus (first | (intro hC; have hC := hC.out; (try simp only [hC, Result.andThen]); first | exact ⟨True.intro, rfl⟩ | exact ⟨rfl, rfl⟩ | rfl))); exact hK _ rfl)
  case k =>
  simp only [Act.put, List.setIfInBounds_toArray, List.set_cons_succ, List.set_cons_zero, List.cons_append, List.nil_append]
  apply wpO_det
  case hw => rfl
  case h =>
    intro hFm wx hS_ hF_ K hK
    go_big_quiet_op
    first
      | exact hK _ rfl
      | (apply Exists.intro; refine ⟨fun _ => ?_, ?_⟩; (focus (first | (intro hC; have hC := hC.out; (try simp only [hC, Result.andThen]); first | exact ⟨True.intro, rfl⟩ | exact ⟨rfl, rfl⟩ | rfl))); exact hK _ rfl)
  case k =>
  simp only [Act.put, List.setIfInBounds_toArray, List.set_cons_succ, List.set_cons_zero, List.cons_append, List.nil_append]
  apply wpO_det
  case hw => rfl
  case h =>
    intro hFm wx hS_ hF_ K hK
    go_big_quiet_op
    first
      | exact hK _ rfl
      | (apply Exists.intro; refine ⟨fun _ => ?_, ?_⟩; (focus (first | (intro hC; go_at_call 72; refine (way_any _ _ _ _ _).mono ?_; rintro e w' ⟨rfl, hb⟩; refine ⟨rfl, ?_⟩; exact cls_call hFm hC hb))); exact hK _ rfl)
  case k =>
  simp only [Act.put, List.setIfInBounds_toArray, List.set_cons_succ, List.set_cons_zero, List.cons_append, List.nil_append]
  apply wpO_mk (f := fun g => .pointer (some ⟨g, 0, none⟩)) (t := 34) (cs := #[.int .i64 0, .int .i64 0])
  case hi => (intro g g' h; simpa using h)
  case hw => rfl
  case h => (intro w; simp [go_sem])
  case k =>
  intro g1
  simp only [Act.put, List.setIfInBounds_toArray, List.set_cons_succ, List.set_cons_zero, List.cons_append, List.nil_append]
  apply wpO_mk (f := fun g => .pointer (some ⟨g, 0, none⟩)) (t := 34) (cs := #[.int .i64 0, .int .i64 0])
  case hi => (intro g g' h; simpa using h)
  case hw => rfl
  case h => (intro w; simp [go_sem])
  case k =>
  intro g2
  simp only [Act.put, List.setIfInBounds_toArray, List.set_cons_succ, List.set_cons_zero, List.cons_append, List.nil_append]
  refine wpO_nil ?_
  intro w2 hS hF hB
  (try simp [allF] at hF)
  (try simp [List.pairwise_cons] at hB)
  obtain ⟨⟨h1, l1⟩, h2, l2⟩ := hF
  have p_0 := h1.cell 0
  have p_1 := h1.cell 1
  have p_f0 := h1.frozen 0
  have p_f1 := h1.frozen 1
  simp only [List.getElem?_toArray, List.getElem?_cons_zero, List.getElem?_cons_succ] at p_0 p_1
  have q_0 := h2.cell 0
  have q_1 := h2.cell 1
  have q_f0 := h2.frozen 0
  have q_f1 := h2.frozen 1
  simp only [List.getElem?_toArray, List.getElem?_cons_zero, List.getElem?_cons_succ] at q_0 q_1
  have HS := Lib.hid (HB.out.2.2.2.trans hS.2.2.2.2.2.2)
  have hsz := HB.out.2.2.2.size
  clear hS h1 h2 a0 a1 b0 b1 c0 c1 HB
  go_wp2
  go_ret
  exact ⟨ret_int (by unfold dotV; first | exact e3 | rfl), (((HS.out.setCell (by dsimp only; omega) _).setCell (by dsimp only; omega) _).setCell (by dsimp only; omega) _).setCell (by dsimp only; omega) _⟩


def onV (a b p : Pt2) : Bool := (turnV a.1 a.2 b.1 b.2 p.1 p.2 == 0) && decide (dotV (clampI p.1) (clampI p.2) (clampI a.1) (clampI a.2) (clampI b.1) (clampI b.2) ≤ 0)
set_option maxHeartbeats 1000000 in
theorem On_any (a b p : Pt2) (w : World) : Calls Try.prog 63 #[.agg #[.int .i64 a.1, .int .i64 a.2], .agg #[.int .i64 b.1, .int .i64 b.2], .agg #[.int .i64 p.1, .int .i64 p.2]] w fun e w' =>
    e = .returned (.bool (onV a b p)) ∧ Since w w' := by
  have HF : Hid (onV a b p = ((turnV a.1 a.2 b.1 b.2 p.1 p.2 == 0) && decide (dotV (clampI p.1) (clampI p.2) (clampI a.1) (clampI a.2) (clampI b.1) (clampI b.2) ≤ 0))) := rfl
  go_enter Try.func63, Try.ntmps63
  go_upto_region 1 with fail
  refine atW (fun w' => Blk w' w.heap.size 34 #[.int .i64 a.1, .int .i64 a.2] ∧ Blk w' (w.heap.size + 1) 34 #[.int .i64 b.1, .int .i64 b.2] ∧ Blk w' (w.heap.size + 1 + 1) 34 #[.int .i64 p.1, .int .i64 p.2] ∧ Since w w') ⟨((Blk.new w _ _).alloc _).alloc _, (Blk.new' (by simp)).alloc _, Blk.new' (by simp), (((Since.rfl_ w).alloc _).alloc _).alloc _⟩ ?_
  rintro w1 ⟨ha, hb, hr, hs⟩
  have a0 : w1.cell? ⟨w.heap.size, 0, none⟩ = some (.int .i64 a.1) := ha.cell 0
  have a1 : w1.cell? ⟨w.heap.size, 1, none⟩ = some (.int .i64 a.2) := ha.cell 1
  have b0 : w1.cell? ⟨w.heap.size + 1, 0, none⟩ = some (.int .i64 b.1) := hb.cell 0
  have b1 : w1.cell? ⟨w.heap.size + 1, 1, none⟩ = some (.int .i64 b.2) := hb.cell 1
  have c0 : w1.cell? ⟨w.heap.size + 1 + 1, 0, none⟩ = some (.int .i64 p.1) := hr.cell 0
  have c1 : w1.cell? ⟨w.heap.size + 1 + 1, 1, none⟩ = some (.int .i64 p.2) := hr.cell 1
  have HB := Lib.hid (And.intro ha (And.intro hb (And.intro hr hs)))
  clear ha hb hr hs
  go_wp2_with fail
  refine (Turn_any _ _ _ _ _ _ _).mono ?_
  rintro e w2 ⟨rfl, hs⟩
  have ha := hs.blk HB.out.1
  have hb := hs.blk HB.out.2.1
  have hr := hs.blk HB.out.2.2.1
  have HS2 := Lib.hid (HB.out.2.2.2.trans hs)
  clear hs a0 a1 b0 b1 c0 c1 HB
  have a0 : w2.cell? ⟨w.heap.size, 0, none⟩ = some (.int .i64 a.1) := ha.cell 0
  have a1 : w2.cell? ⟨w.heap.size, 1, none⟩ = some (.int .i64 a.2) := ha.cell 1
  have b0 : w2.cell? ⟨w.heap.size + 1, 0, none⟩ = some (.int .i64 b.1) := hb.cell 0
  have b1 : w2.cell? ⟨w.heap.size + 1, 1, none⟩ = some (.int .i64 b.2) := hb.cell 1
  have c0 : w2.cell? ⟨w.heap.size + 1 + 1, 0, none⟩ = some (.int .i64 p.1) := hr.cell 0
  have c1 : w2.cell? ⟨w.heap.size + 1 + 1, 1, none⟩ = some (.int .i64 p.2) := hr.cell 1
  clear ha hb hr
  generalize turnV a.1 a.2 b.1 b.2 p.1 p.2 = tv at *
  cases hz : (tv == 0)
  · go_wp2_with fail
    go_ret
    exact ⟨ret_bool (by rw [HF.out, hz]; rfl), HS2.out⟩
  · go_wp2_with fail
    refine (Dot_any _ _ _ _ _ _ _).mono ?_
    rintro e w3 ⟨rfl, hs⟩
    have HS3 := Lib.hid (HS2.out.trans hs)
    clear hs a0 a1 b0 b1 c0 c1
    go_wp2_with fail
    go_ret
    exact ⟨ret_bool (by rw [HF.out, hz]; rfl), HS3.out⟩
theorem onV_ok {a b p : Pt2} (ha : okP a.1 a.2 = true) (hb : okP b.1 b.2 = true) (hp : okP p.1 p.2 = true) (h : onV a b p = true) : crs a b p = 0 ∧ (a.1 - p.1) * (b.1 - p.1) + (a.2 - p.2) * (b.2 - p.2) ≤ 0 := by
  unfold onV at h
  rw [Bool.and_eq_true, decide_eq_true_eq, beq_iff_eq, turn_crs ha hb hp, (clamp_id ha).1, (clamp_id ha).2, (clamp_id hb).1, (clamp_id hb).2, (clamp_id hp).1, (clamp_id hp).2] at h
  refine ⟨?_, h.2⟩
  have := h.1
  unfold cmpI at this
  split at this
  · omega
  · split at this <;> omega

end Go.Proofs.Ytdnccjdlmepafaa
end
section
namespace Go.Proofs.Ytdnccjdlmepafaa
set_option linter.unusedSimpArgs false
set_option linter.unusedVariables false

end Go.Proofs.Ytdnccjdlmepafaa
end
