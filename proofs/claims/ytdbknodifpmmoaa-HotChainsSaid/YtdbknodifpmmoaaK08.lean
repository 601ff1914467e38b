/-
  The walk of seg.Meet; Walks of bits.Mul64, bits.Div64, bits.Add64; Walks of package wide: Of, Mul, Add, Div, Short. Conditions: those that each lemma names.
-/
import Derived.Test.YtdbknodifpmmoaaK06
import Derived.Test.YtdbknodifpmmoaaK07
import Derived.Test.YtdbknodifpmmoaaK03
import Derived.Lib.Mul64
import Derived.Laws.Bits64b
import Derived.Laws.Externs
import Derived.Shelf.Bits.Mul64
section
namespace Go.Proofs.Ytdbknodifpmmoaa
set_option linter.unusedSimpArgs false
set_option linter.unusedVariables false
open Go.RowKit Go.BigFrame
attribute [local go_sem ↓] eqPt neqPt

/-- How many points two segments have in common. -/
def smeetV (a b c d : Pt2) : Int :=
  if turnV a.1 a.2 b.1 b.2 c.1 c.2 * turnV a.1 a.2 b.1 b.2 d.1 d.2 < 0 ∧ turnV c.1 c.2 d.1 d.2 a.1 a.2 * turnV c.1 c.2 d.1 d.2 b.1 b.2 < 0 then 1 else min 2 ((sharedL a b c d).length : Int)
theorem turnV_bd (ax ay bx by_ cx cy : Int) : -1 ≤ turnV ax ay bx by_ cx cy ∧ turnV ax ay bx by_ cx cy ≤ 1 := by unfold turnV cmpI; split <;> (try split) <;> omega
theorem one_mul_bd {s t : Int} (hs : -1 ≤ s ∧ s ≤ 1) (ht : -1 ≤ t ∧ t ≤ 1) : -1 ≤ s * t ∧ s * t ≤ 1 := by
  have : s = -1 ∨ s = 0 ∨ s = 1 := by omega
  rcases this with h | h | h <;> rw [h] <;> omega
set_option maxRecDepth 100000 in
set_option maxHeartbeats 4000000 in
theorem SMeetG_any {a b c d : Pt2} (ha : okP a.1 a.2 = true) (hb : okP b.1 b.2 = true) (hc : okP c.1 c.2 = true) (hd : okP d.1 d.2 = true) (w : World) :
    Calls Try.prog 21 #[.agg #[.int .i64 a.1, .int .i64 a.2], .agg #[.int .i64 b.1, .int .i64 b.2], .agg #[.int .i64 c.1, .int .i64 c.2], .agg #[.int .i64 d.1, .int .i64 d.2]] w fun e w' =>
      e = .returned (.int .i64 (smeetV a b c d)) ∧ Since w w' := by
  obtain ⟨s, HS⟩ : ∃ s, Hid (s = turnV a.1 a.2 b.1 b.2 c.1 c.2) := ⟨_, rfl⟩
  obtain ⟨t, HT⟩ : ∃ t, Hid (t = turnV a.1 a.2 b.1 b.2 d.1 d.2) := ⟨_, rfl⟩
  obtain ⟨s', HS'⟩ : ∃ s', Hid (s' = turnV c.1 c.2 d.1 d.2 a.1 a.2) := ⟨_, rfl⟩
  obtain ⟨t', HT'⟩ : ∃ t', Hid (t' = turnV c.1 c.2 d.1 d.2 b.1 b.2) := ⟨_, rfl⟩
  have HM : Hid (smeetV a b c d = if s * t < 0 ∧ s' * t' < 0 then 1 else min 2 ((sharedL a b c d).length : Int)) := by show _ = _; rw [HS.out, HT.out, HS'.out, HT'.out]; rfl
  have hst : -1 ≤ s * t ∧ s * t ≤ 1 := by rw [HS.out, HT.out]; exact one_mul_bd (turnV_bd _ _ _ _ _ _) (turnV_bd _ _ _ _ _ _)
  have hst' : -1 ≤ s' * t' ∧ s' * t' ≤ 1 := by rw [HS'.out, HT'.out]; exact one_mul_bd (turnV_bd _ _ _ _ _ _) (turnV_bd _ _ _ _ _ _)
  have hw : wrap64 (s * t) = s * t := wrap_id (by omega)
  have hw' : wrap64 (s' * t') = s' * t' := wrap_id (by omega)
  have HSH := Lib.hid (fun w => shared_any a b c d w)
  go_enter Try.func21, Try.ntmps21
  go_upto_region 1 with fail
  obtain ⟨G, HG⟩ : ∃ G, G = w.heap.size := ⟨_, rfl⟩
  rw [← HG]
  refine atW (fun w' => Since w w' ∧ Blk w' G 26 #[.int .i64 a.1, .int .i64 a.2] ∧ Blk w' (G + 1) 26 #[.int .i64 b.1, .int .i64 b.2] ∧ Blk w' (G + 1 + 1) 26 #[.int .i64 c.1, .int .i64 c.2] ∧ Blk w' (G + 1 + 1 + 1) 26 #[.int .i64 d.1, .int .i64 d.2]) ⟨((((Since.rfl_ w).alloc _).alloc _).alloc _).alloc _, (((Blk.new' HG).alloc _).alloc _).alloc _, ((Blk.new' (by simp [HG])).alloc _).alloc _, (Blk.new' (by simp [HG])).alloc _, Blk.new' (by simp [HG])⟩ ?_
  rintro w1 ⟨hs, ba, bb, bc, bd⟩
  go_cut [] from 9 to 46 (fun w' => Since w w' ∧ Blk w' G 26 #[.int .i64 a.1, .int .i64 a.2] ∧ Blk w' (G + 1) 26 #[.int .i64 b.1, .int .i64 b.2] ∧ Blk w' (G + 1 + 1) 26 #[.int .i64 c.1, .int .i64 c.2] ∧ Blk w' (G + 1 + 1 + 1) 26 #[.int .i64 d.1, .int .i64 d.2])
  case first =>
      have hw1 := hs.size
      have HGG := Lib.hid HG
      letI TT : Tgt := ⟨fun g => if g = G then some (.cells #[.int .i64 a.1, .int .i64 a.2] 26) else if g = G + 1 then some (.cells #[.int .i64 b.1, .int .i64 b.2] 26) else if g = G + 1 + 1 then some (.cells #[.int .i64 c.1, .int .i64 c.2] 26) else if g = G + 1 + 1 + 1 then some (.cells #[.int .i64 d.1, .int .i64 d.2] 26) else none⟩
      have KT : ∀ g, g < G → Tgt.T g = none := fun g h => by
        show (if _ then _ else if _ then _ else if _ then _ else if _ then _ else _) = _
        rw [if_neg (by omega), if_neg (by omega), if_neg (by omega), if_neg (by omega)]
      have KU : ∀ g, G + 1 + 1 + 1 < g → Tgt.T g = none := fun g h => by
        show (if _ then _ else if _ then _ else if _ then _ else if _ then _ else _) = _
        rw [if_neg (by omega), if_neg (by omega), if_neg (by omega), if_neg (by omega)]
      have K0 : Tgt.T (G) = some (.cells #[.int .i64 a.1, .int .i64 a.2] 26 (0, 0)) := if_pos rfl
      have K1 : Tgt.T (G + 1) = some (.cells #[.int .i64 b.1, .int .i64 b.2] 26 (0, 0)) := (if_neg (by omega)).trans (if_pos rfl)
      have K2 : Tgt.T (G + 1 + 1) = some (.cells #[.int .i64 c.1, .int .i64 c.2] 26 (0, 0)) := (if_neg (by omega)).trans ((if_neg (by omega)).trans (if_pos rfl))
      have K3 : Tgt.T (G + 1 + 1 + 1) = some (.cells #[.int .i64 d.1, .int .i64 d.2] 26 (0, 0)) := (if_neg (by omega)).trans ((if_neg (by omega)).trans ((if_neg (by omega)).trans (if_pos rfl)))
      have KB : ∀ w', SinceT w1 w' → Blk w' (G) 26 #[.int .i64 a.1, .int .i64 a.2] ∧ Blk w' (G + 1) 26 #[.int .i64 b.1, .int .i64 b.2] ∧ Blk w' (G + 1 + 1) 26 #[.int .i64 c.1, .int .i64 c.2] ∧ Blk w' (G + 1 + 1 + 1) 26 #[.int .i64 d.1, .int .i64 d.2] := fun w' h =>
        ⟨h.blkT K0 ba, h.blkT K1 bb, h.blkT K2 bc, h.blkT K3 bd⟩
      have KF : ∀ w', SinceT w1 w' → w'.cell? ⟨G, 0, none⟩ = some (.int .i64 a.1) ∧ w'.cell? ⟨G, 1, none⟩ = some (.int .i64 a.2) ∧ w'.cell? ⟨G + 1, 0, none⟩ = some (.int .i64 b.1) ∧ w'.cell? ⟨G + 1, 1, none⟩ = some (.int .i64 b.2) ∧ w'.cell? ⟨G + 1 + 1, 0, none⟩ = some (.int .i64 c.1) ∧ w'.cell? ⟨G + 1 + 1, 1, none⟩ = some (.int .i64 c.2) ∧ w'.cell? ⟨G + 1 + 1 + 1, 0, none⟩ = some (.int .i64 d.1) ∧ w'.cell? ⟨G + 1 + 1 + 1, 1, none⟩ = some (.int .i64 d.2) := fun w' h =>
        ⟨(KB w' h).1.cell 0, (KB w' h).1.cell 1, (KB w' h).2.1.cell 0, (KB w' h).2.1.cell 1, (KB w' h).2.2.1.cell 0, (KB w' h).2.2.1.cell 1, (KB w' h).2.2.2.cell 0, (KB w' h).2.2.2.cell 1⟩
      have KB := Lib.hid KB
      have KF := Lib.hid KF
      have hl4 := bd.lt
      have HS1 := Lib.hid hs
      clear ba bb bc bd hs HG
      apply region_factsT 12 (fun w' => SinceT w1 w')
      case hm => kernel_rfl
      case hB => kernel_rfl
      case hS => exact (SinceT.rfl_ w1).drew
      case hmono => exact (fun _ _ h k => h.trans k)
      case hTb => exact (fun g hg => KU g (by omega))
      case h =>
      simp only [List.take_succ_cons, List.take_zero, List.drop_succ_cons, List.drop_zero]
      apply wpO_detT
      case hw => rfl
      case h =>
        intro hFm wx hS_ hF_ K hK
        go_big_quiet_op
        first
          | exact hK _ rfl
          | (apply Exists.intro; refine ⟨fun _ => ?_, ?_⟩; (focus (first | (intro hC; have hC := KF.out _ hC.out.1; (try simp only [hC, Result.andThen]); first | exact ⟨True.intro, rfl⟩ | exact ⟨rfl, rfl⟩ | rfl))); exact hK _ rfl)
      case k =>
      simp only [Act.put, List.setIfInBounds_toArray, List.set_cons_succ, List.set_cons_zero, List.cons_append, List.nil_append]
      apply wpO_detT
      case hw => rfl
      case h =>
        intro hFm wx hS_ hF_ K hK
        go_big_quiet_op
        first
          | exact hK _ rfl
          | (apply Exists.intro; refine ⟨fun _ => ?_, ?_⟩; (focus (first | (intro hC; go_at_call 41; refine (Clamp_val ha _).mono ?_; rintro e w' ⟨rfl, hb⟩; refine ⟨rfl, ?_⟩; exact cls_callT (fun _ _ h k => h.trans k) hFm hC hb))); exact hK _ rfl)
      case k =>
      simp only [Act.put, List.setIfInBounds_toArray, List.set_cons_succ, List.set_cons_zero, List.cons_append, List.nil_append]
      apply wpO_detT
      case hw => rfl
      case h =>
        intro hFm wx hS_ hF_ K hK
        go_big_quiet_op
        first
          | exact hK _ rfl
          | (apply Exists.intro; refine ⟨fun _ => ?_, ?_⟩; (focus (first | (intro hC; have hC := KF.out _ hC.out.1; (try simp only [hC, Result.andThen]); first | exact ⟨True.intro, rfl⟩ | exact ⟨rfl, rfl⟩ | rfl))); exact hK _ rfl)
      case k =>
      simp only [Act.put, List.setIfInBounds_toArray, List.set_cons_succ, List.set_cons_zero, List.cons_append, List.nil_append]
      apply wpO_detT
      case hw => rfl
      case h =>
        intro hFm wx hS_ hF_ K hK
        go_big_quiet_op
        first
          | exact hK _ rfl
          | (apply Exists.intro; refine ⟨fun _ => ?_, ?_⟩; (focus (first | (intro hC; go_at_call 41; refine (Clamp_val hb _).mono ?_; rintro e w' ⟨rfl, hb⟩; refine ⟨rfl, ?_⟩; exact cls_callT (fun _ _ h k => h.trans k) hFm hC hb))); exact hK _ rfl)
      case k =>
      simp only [Act.put, List.setIfInBounds_toArray, List.set_cons_succ, List.set_cons_zero, List.cons_append, List.nil_append]
      apply wpO_detT
      case hw => rfl
      case h =>
        intro hFm wx hS_ hF_ K hK
        go_big_quiet_op
        first
          | exact hK _ rfl
          | (apply Exists.intro; refine ⟨fun _ => ?_, ?_⟩; (focus (first | (intro hC; have hC := KF.out _ hC.out.1; (try simp only [hC, Result.andThen]); first | exact ⟨True.intro, rfl⟩ | exact ⟨rfl, rfl⟩ | rfl))); exact hK _ rfl)
      case k =>
      simp only [Act.put, List.setIfInBounds_toArray, List.set_cons_succ, List.set_cons_zero, List.cons_append, List.nil_append]
      apply wpO_detT
      case hw => rfl
      case h =>
        intro hFm wx hS_ hF_ K hK
        go_big_quiet_op
        first
          | exact hK _ rfl
          | (apply Exists.intro; refine ⟨fun _ => ?_, ?_⟩; (focus (first | (intro hC; go_at_call 41; refine (Clamp_val hc _).mono ?_; rintro e w' ⟨rfl, hb⟩; refine ⟨rfl, ?_⟩; exact cls_callT (fun _ _ h k => h.trans k) hFm hC hb))); exact hK _ rfl)
      case k =>
      simp only [Act.put, List.setIfInBounds_toArray, List.set_cons_succ, List.set_cons_zero, List.cons_append, List.nil_append]
      apply wpO_detT
      case hw => rfl
      case h =>
        intro hFm wx hS_ hF_ K hK
        go_big_quiet_op
        first
          | exact hK _ rfl
          | (apply Exists.intro; refine ⟨fun _ => ?_, ?_⟩; (focus (first | (intro hC; have hC := KF.out _ hC.out.1; (try simp only [hC, Result.andThen]); first | exact ⟨True.intro, rfl⟩ | exact ⟨rfl, rfl⟩ | rfl))); exact hK _ rfl)
      case k =>
      simp only [Act.put, List.setIfInBounds_toArray, List.set_cons_succ, List.set_cons_zero, List.cons_append, List.nil_append]
      apply wpO_detT
      case hw => rfl
      case h =>
        intro hFm wx hS_ hF_ K hK
        go_big_quiet_op
        first
          | exact hK _ rfl
          | (apply Exists.intro; refine ⟨fun _ => ?_, ?_⟩; (focus (first | (intro hC; go_at_call 41; refine (Clamp_val hd _).mono ?_; rintro e w' ⟨rfl, hb⟩; refine ⟨rfl, ?_⟩; exact cls_callT (fun _ _ h k => h.trans k) hFm hC hb))); exact hK _ rfl)
      case k =>
      simp only [Act.put, List.setIfInBounds_toArray, List.set_cons_succ, List.set_cons_zero, List.cons_append, List.nil_append]
      apply wpO_anyT (R := (fun _ _ => True))
      case hR => exact (fun _ _ _ h _ => h)
      case hw => rfl
      case h =>
        intro wx hS_ hF_
        unfold runVT
        (have hb := (KB.out _ hS_).1; have c0 := hb.cell 0; have c1 := hb.cell 1; have f0 := hb.frozen 0; have f1 := hb.frozen 1; simp only [List.getElem?_toArray, List.getElem?_cons_zero, List.getElem?_cons_succ] at c0 c1; have hr := Lib.hid (store2_T hb K0).2; simp [go_sem, c0, c1, f0, f1, cSetS, cSetO]; exact hr.out)
      case k =>
      intro v0
      simp only [Act.put, List.setIfInBounds_toArray, List.set_cons_succ, List.set_cons_zero, List.cons_append, List.nil_append]
      apply wpO_anyT (R := (fun _ _ => True))
      case hR => exact (fun _ _ _ h _ => h)
      case hw => rfl
      case h =>
        intro wx hS_ hF_
        unfold runVT
        (have hb := (KB.out _ hS_).2.1; have c0 := hb.cell 0; have c1 := hb.cell 1; have f0 := hb.frozen 0; have f1 := hb.frozen 1; simp only [List.getElem?_toArray, List.getElem?_cons_zero, List.getElem?_cons_succ] at c0 c1; have hr := Lib.hid (store2_T hb K1).2; simp [go_sem, c0, c1, f0, f1, cSetS, cSetO]; exact hr.out)
      case k =>
      intro v1
      simp only [Act.put, List.setIfInBounds_toArray, List.set_cons_succ, List.set_cons_zero, List.cons_append, List.nil_append]
      apply wpO_anyT (R := (fun _ _ => True))
      case hR => exact (fun _ _ _ h _ => h)
      case hw => rfl
      case h =>
        intro wx hS_ hF_
        unfold runVT
        (have hb := (KB.out _ hS_).2.2.1; have c0 := hb.cell 0; have c1 := hb.cell 1; have f0 := hb.frozen 0; have f1 := hb.frozen 1; simp only [List.getElem?_toArray, List.getElem?_cons_zero, List.getElem?_cons_succ] at c0 c1; have hr := Lib.hid (store2_T hb K2).2; simp [go_sem, c0, c1, f0, f1, cSetS, cSetO]; exact hr.out)
      case k =>
      intro v2
      simp only [Act.put, List.setIfInBounds_toArray, List.set_cons_succ, List.set_cons_zero, List.cons_append, List.nil_append]
      apply wpO_anyT (R := (fun _ _ => True))
      case hR => exact (fun _ _ _ h _ => h)
      case hw => rfl
      case h =>
        intro wx hS_ hF_
        unfold runVT
        (have hb := (KB.out _ hS_).2.2.2; have c0 := hb.cell 0; have c1 := hb.cell 1; have f0 := hb.frozen 0; have f1 := hb.frozen 1; simp only [List.getElem?_toArray, List.getElem?_cons_zero, List.getElem?_cons_succ] at c0 c1; have hr := Lib.hid (store2_T hb K3).2; simp [go_sem, c0, c1, f0, f1, cSetS, cSetO]; exact hr.out)
      case k =>
      intro v3
      simp only [Act.put, List.setIfInBounds_toArray, List.set_cons_succ, List.set_cons_zero, List.cons_append, List.nil_append]
      refine wpO_nilT ?_
      intro w5 hS hF hB
      (try simp [allF] at hF)
      (try simp [List.pairwise_cons] at hB)
      go_wp2_with fail
      go_meet
      exact ⟨hS.since HS1.out (fun g hg => KT g (by have := HGG.out; omega)), KB.out _ hS⟩
  case rest =>
    obtain ⟨hs5, hb5⟩ := hcut
    obtain ⟨w5, rfl⟩ : ∃ w5, w5 = wc := ⟨_, rfl⟩
    have HS5 := Lib.hid hs5
    clear hs ba bb bc bd hs5
    have a0 : w5.cell? ⟨G, 0, none⟩ = some (.int .i64 a.1) := hb5.1.cell 0
    have a1 : w5.cell? ⟨G, 1, none⟩ = some (.int .i64 a.2) := hb5.1.cell 1
    have b0 : w5.cell? ⟨G + 1, 0, none⟩ = some (.int .i64 b.1) := hb5.2.1.cell 0
    have b1 : w5.cell? ⟨G + 1, 1, none⟩ = some (.int .i64 b.2) := hb5.2.1.cell 1
    have c0 : w5.cell? ⟨G + 1 + 1, 0, none⟩ = some (.int .i64 c.1) := hb5.2.2.1.cell 0
    have c1 : w5.cell? ⟨G + 1 + 1, 1, none⟩ = some (.int .i64 c.2) := hb5.2.2.1.cell 1
    have d0 : w5.cell? ⟨G + 1 + 1 + 1, 0, none⟩ = some (.int .i64 d.1) := hb5.2.2.2.cell 0
    have d1 : w5.cell? ⟨G + 1 + 1 + 1, 1, none⟩ = some (.int .i64 d.2) := hb5.2.2.2.cell 1
    clear hb5 HG
    have HC1 := Lib.hid (fun w => Turn_any a.1 a.2 b.1 b.2 c.1 c.2 w)
    have HC2 := Lib.hid (fun w => Turn_any a.1 a.2 b.1 b.2 d.1 d.2 w)
    have HC3 := Lib.hid (fun w => Turn_any c.1 c.2 d.1 d.2 a.1 a.2 w)
    have HC4 := Lib.hid (fun w => Turn_any c.1 c.2 d.1 d.2 b.1 b.2 w)
    rw [← HS.out] at HC1
    rw [← HT.out] at HC2
    rw [← HS'.out] at HC3
    rw [← HT'.out] at HC4
    go_upto_region 2 with fail
    by_cases hn : s * t < 0
    · have hg : decide (s * t < 0) = true := by rw [decide_eq_true_eq]; exact hn
      by_cases hn2 : s' * t' < 0
      · have hg2 : decide (s' * t' < 0) = true := by rw [decide_eq_true_eq]; exact hn2
        apply region_facts 22 (fun w' => w'.cell? ⟨G, 0, none⟩ = some (.int .i64 a.1) ∧ w'.cell? ⟨G, 1, none⟩ = some (.int .i64 a.2) ∧ w'.cell? ⟨G + 1, 0, none⟩ = some (.int .i64 b.1) ∧ w'.cell? ⟨G + 1, 1, none⟩ = some (.int .i64 b.2) ∧ w'.cell? ⟨G + 1 + 1, 0, none⟩ = some (.int .i64 c.1) ∧ w'.cell? ⟨G + 1 + 1, 1, none⟩ = some (.int .i64 c.2) ∧ w'.cell? ⟨G + 1 + 1 + 1, 0, none⟩ = some (.int .i64 d.1) ∧ w'.cell? ⟨G + 1 + 1 + 1, 1, none⟩ = some (.int .i64 d.2) ∧ Since w5 w')
        case hm => kernel_rfl
        case hB => kernel_rfl
        case hS => exact ⟨a0, a1, b0, b1, c0, c1, d0, d1, (Since.rfl_ w5).drew⟩
        case h =>
        simp only [List.take_succ_cons, List.take_zero, List.drop_succ_cons, List.drop_zero]
        apply wpO_det
        case hw => rfl
        case h =>
          intro hFm wx hS_ hF_ K hK
          go_big_quiet_op
          first
            | exact hK _ rfl
            | (apply Exists.intro; refine ⟨fun _ => ?_, ?_⟩; (focus (first | (intro hC; have hC := hC.out; (try simp only [hC, Result.andThen]); first | exact ⟨True.intro, rfl⟩ | exact ⟨rfl, rfl⟩ | rfl))); exact hK _ rfl)
        case k =>
        simp only [Act.put, List.setIfInBounds_toArray, List.set_cons_succ, List.set_cons_zero, List.cons_append, List.nil_append]
        apply wpO_det
        case hw => rfl
        case h =>
          intro hFm wx hS_ hF_ K hK
          go_big_quiet_op
          first
            | exact hK _ rfl
            | (apply Exists.intro; refine ⟨fun _ => ?_, ?_⟩; (focus (first | (intro hC; have hC := hC.out; (try simp only [hC, Result.andThen]); first | exact ⟨True.intro, rfl⟩ | exact ⟨rfl, rfl⟩ | rfl))); exact hK _ rfl)
        case k =>
        simp only [Act.put, List.setIfInBounds_toArray, List.set_cons_succ, List.set_cons_zero, List.cons_append, List.nil_append]
        apply wpO_det
        case hw => rfl
        case h =>
          intro hFm wx hS_ hF_ K hK
          go_big_quiet_op
          first
            | exact hK _ rfl
            | (apply Exists.intro; refine ⟨fun _ => ?_, ?_⟩; (focus (first | (intro hC; have hC := hC.out; (try simp only [hC, Result.andThen]); first | exact ⟨True.intro, rfl⟩ | exact ⟨rfl, rfl⟩ | rfl))); exact hK _ rfl)
        case k =>
        simp only [Act.put, List.setIfInBounds_toArray, List.set_cons_succ, List.set_cons_zero, List.cons_append, List.nil_append]
        apply wpO_det
        case hw => rfl
        case h =>
          intro hFm wx hS_ hF_ K hK
          go_big_quiet_op
          first
            | exact hK _ rfl
            | (apply Exists.intro; refine ⟨fun _ => ?_, ?_⟩; (focus (first | (intro hC; go_at_call 38; refine (HC1.out _).mono ?_; rintro e w' ⟨rfl, hb⟩; refine ⟨rfl, ?_⟩; exact cls_call hFm hC hb))); exact hK _ rfl)
        case k =>
        simp only [Act.put, List.setIfInBounds_toArray, List.set_cons_succ, List.set_cons_zero, List.cons_append, List.nil_append]
        apply wpO_det
        case hw => rfl
        case h =>
          intro hFm wx hS_ hF_ K hK
          go_big_quiet_op
          first
            | exact hK _ rfl
            | (apply Exists.intro; refine ⟨fun _ => ?_, ?_⟩; (focus (first | (intro hC; have hC := hC.out; (try simp only [hC, Result.andThen]); first | exact ⟨True.intro, rfl⟩ | exact ⟨rfl, rfl⟩ | rfl))); exact hK _ rfl)
        case k =>
        simp only [Act.put, List.setIfInBounds_toArray, List.set_cons_succ, List.set_cons_zero, List.cons_append, List.nil_append]
        apply wpO_det
        case hw => rfl
        case h =>
          intro hFm wx hS_ hF_ K hK
          go_big_quiet_op
          first
            | exact hK _ rfl
            | (apply Exists.intro; refine ⟨fun _ => ?_, ?_⟩; (focus (first | (intro hC; have hC := hC.out; (try simp only [hC, Result.andThen]); first | exact ⟨True.intro, rfl⟩ | exact ⟨rfl, rfl⟩ | rfl))); exact hK _ rfl)
        case k =>
        simp only [Act.put, List.setIfInBounds_toArray, List.set_cons_succ, List.set_cons_zero, List.cons_append, List.nil_append]
        apply wpO_det
        case hw => rfl
        case h =>
          intro hFm wx hS_ hF_ K hK
          go_big_quiet_op
          first
            | exact hK _ rfl
            | (apply Exists.intro; refine ⟨fun _ => ?_, ?_⟩; (focus (first | (intro hC; have hC := hC.out; (try simp only [hC, Result.andThen]); first | exact ⟨True.intro, rfl⟩ | exact ⟨rfl, rfl⟩ | rfl))); exact hK _ rfl)
        case k =>
        simp only [Act.put, List.setIfInBounds_toArray, List.set_cons_succ, List.set_cons_zero, List.cons_append, List.nil_append]
        apply wpO_det
        case hw => rfl
        case h =>
          intro hFm wx hS_ hF_ K hK
          go_big_quiet_op
          first
            | exact hK _ rfl
            | (apply Exists.intro; refine ⟨fun _ => ?_, ?_⟩; (focus (first | (intro hC; go_at_call 38; refine (HC2.out _).mono ?_; rintro e w' ⟨rfl, hb⟩; refine ⟨rfl, ?_⟩; exact cls_call hFm hC hb))); exact hK _ rfl)
        case k =>
        simp only [Act.put, List.setIfInBounds_toArray, List.set_cons_succ, List.set_cons_zero, List.cons_append, List.nil_append]
        apply wpO_det
        case hw => rfl
        case h =>
          intro hFm wx hS_ hF_ K hK
          go_big_quiet_op
          first
            | exact hK _ rfl
            | (apply Exists.intro; refine ⟨fun _ => ?_, ?_⟩; (focus (first | (intro hC; have hC := hC.out; (try simp only [hC, Result.andThen]); first | exact ⟨True.intro, rfl⟩ | exact ⟨rfl, rfl⟩ | rfl))); exact hK _ rfl)
        case k =>
        simp only [Act.put, List.setIfInBounds_toArray, List.set_cons_succ, List.set_cons_zero, List.cons_append, List.nil_append]
        apply wpO_det
        case hw => rfl
        case h =>
          intro hFm wx hS_ hF_ K hK
          go_big_quiet_op
          first
            | exact hK _ rfl
            | (apply Exists.intro; refine ⟨fun _ => ?_, ?_⟩; (focus (first | (intro hC; have hC := hC.out; (try simp only [hC, Result.andThen]); first | exact ⟨True.intro, rfl⟩ | exact ⟨rfl, rfl⟩ | rfl))); exact hK _ rfl)
        case k =>
        simp only [Act.put, List.setIfInBounds_toArray, List.set_cons_succ, List.set_cons_zero, List.cons_append, List.nil_append]
        apply wpO_det
        case hw => rfl
        case h =>
          intro hFm wx hS_ hF_ K hK
          go_big_quiet_op
          first
            | exact hK _ rfl
            | (apply Exists.intro; refine ⟨fun _ => ?_, ?_⟩; (focus (first | (intro hC; have hC := hC.out; (try simp only [hC, Result.andThen]); first | exact ⟨True.intro, rfl⟩ | exact ⟨rfl, rfl⟩ | rfl))); exact hK _ rfl)
        case k =>
        simp only [Act.put, List.setIfInBounds_toArray, List.set_cons_succ, List.set_cons_zero, List.cons_append, List.nil_append]
        apply wpO_det
        case hw => rfl
        case h =>
          intro hFm wx hS_ hF_ K hK
          go_big_quiet_op
          first
            | exact hK _ rfl
            | (apply Exists.intro; refine ⟨fun _ => ?_, ?_⟩; (focus (first | (intro hC; have hC := hC.out; (try simp only [hC, Result.andThen]); first | exact ⟨True.intro, rfl⟩ | exact ⟨rfl, rfl⟩ | rfl))); exact hK _ rfl)
        case k =>
        simp only [Act.put, List.setIfInBounds_toArray, List.set_cons_succ, List.set_cons_zero, List.cons_append, List.nil_append]
        apply wpO_det
        case hw => rfl
        case h =>
          intro hFm wx hS_ hF_ K hK
          go_big_quiet_op
          first
            | exact hK _ rfl
            | (apply Exists.intro; refine ⟨fun _ => ?_, ?_⟩; (focus (first | (intro hC; have hC := hC.out; (try simp only [hC, Result.andThen]); first | exact ⟨True.intro, rfl⟩ | exact ⟨rfl, rfl⟩ | rfl))); exact hK _ rfl)
        case k =>
        simp only [Act.put, List.setIfInBounds_toArray, List.set_cons_succ, List.set_cons_zero, List.cons_append, List.nil_append]
        apply wpO_det
        case hw => rfl
        case h =>
          intro hFm wx hS_ hF_ K hK
          go_big_quiet_op
          first
            | exact hK _ rfl
            | (apply Exists.intro; refine ⟨fun _ => ?_, ?_⟩; (focus (first | (intro hC; have hC := hC.out; (try simp only [hC, Result.andThen]); first | exact ⟨True.intro, rfl⟩ | exact ⟨rfl, rfl⟩ | rfl))); exact hK _ rfl)
        case k =>
        simp only [Act.put, List.setIfInBounds_toArray, List.set_cons_succ, List.set_cons_zero, List.cons_append, List.nil_append]
        apply wpO_det
        case hw => rfl
        case h =>
          intro hFm wx hS_ hF_ K hK
          go_big_quiet_op
          first
            | exact hK _ rfl
            | (apply Exists.intro; refine ⟨fun _ => ?_, ?_⟩; (focus (first | (intro hC; go_at_call 38; refine (HC3.out _).mono ?_; rintro e w' ⟨rfl, hb⟩; refine ⟨rfl, ?_⟩; exact cls_call hFm hC hb))); exact hK _ rfl)
        case k =>
        simp only [Act.put, List.setIfInBounds_toArray, List.set_cons_succ, List.set_cons_zero, List.cons_append, List.nil_append]
        apply wpO_det
        case hw => rfl
        case h =>
          intro hFm wx hS_ hF_ K hK
          go_big_quiet_op
          first
            | exact hK _ rfl
            | (apply Exists.intro; refine ⟨fun _ => ?_, ?_⟩; (focus (first | (intro hC; have hC := hC.out; (try simp only [hC, Result.andThen]); first | exact ⟨True.intro, rfl⟩ | exact ⟨rfl, rfl⟩ | rfl))); exact hK _ rfl)
        case k =>
        simp only [Act.put, List.setIfInBounds_toArray, List.set_cons_succ, List.set_cons_zero, List.cons_append, List.nil_append]
        apply wpO_det
        case hw => rfl
        case h =>
          intro hFm wx hS_ hF_ K hK
          go_big_quiet_op
          first
            | exact hK _ rfl
            | (apply Exists.intro; refine ⟨fun _ => ?_, ?_⟩; (focus (first | (intro hC; have hC := hC.out; (try simp only [hC, Result.andThen]); first | exact ⟨True.intro, rfl⟩ | exact ⟨rfl, rfl⟩ | rfl))); exact hK _ rfl)
        case k =>
        simp only [Act.put, List.setIfInBounds_toArray, List.set_cons_succ, List.set_cons_zero, List.cons_append, List.nil_append]
        apply wpO_det
        case hw => rfl
        case h =>
          intro hFm wx hS_ hF_ K hK
          go_big_quiet_op
          first
            | exact hK _ rfl
            | (apply Exists.intro; refine ⟨fun _ => ?_, ?_⟩; (focus (first | (intro hC; have hC := hC.out; (try simp only [hC, Result.andThen]); first | exact ⟨True.intro, rfl⟩ | exact ⟨rfl, rfl⟩ | rfl))); exact hK _ rfl)
        case k =>
        simp only [Act.put, List.setIfInBounds_toArray, List.set_cons_succ, List.set_cons_zero, List.cons_append, List.nil_append]
        apply wpO_det
        case hw => rfl
        case h =>
          intro hFm wx hS_ hF_ K hK
          go_big_quiet_op
          first
            | exact hK _ rfl
            | (apply Exists.intro; refine ⟨fun _ => ?_, ?_⟩; (focus (first | (intro hC; go_at_call 38; refine (HC4.out _).mono ?_; rintro e w' ⟨rfl, hb⟩; refine ⟨rfl, ?_⟩; exact cls_call hFm hC hb))); exact hK _ rfl)
        case k =>
        simp only [Act.put, List.setIfInBounds_toArray, List.set_cons_succ, List.set_cons_zero, List.cons_append, List.nil_append]
        apply wpO_det
        case hw => rfl
        case h =>
          intro hFm wx hS_ hF_ K hK
          go_big_quiet_op
          first
            | exact hK _ rfl
            | (apply Exists.intro; refine ⟨fun _ => ?_, ?_⟩; (focus (first | (intro hC; have hC := hC.out; (try simp only [hC, Result.andThen]); first | exact ⟨True.intro, rfl⟩ | exact ⟨rfl, rfl⟩ | rfl))); exact hK _ rfl)
        case k =>
        simp only [Act.put, List.setIfInBounds_toArray, List.set_cons_succ, List.set_cons_zero, List.cons_append, List.nil_append]
        apply wpO_det
        case hw => rfl
        case h =>
          intro hFm wx hS_ hF_ K hK
          go_big_quiet_op
          first
            | exact hK _ rfl
            | (apply Exists.intro; refine ⟨fun _ => ?_, ?_⟩; (focus (first | (intro hC; have hC := hC.out; (try simp only [hC, Result.andThen]); first | exact ⟨True.intro, rfl⟩ | exact ⟨rfl, rfl⟩ | rfl))); exact hK _ rfl)
        case k =>
        simp only [Act.put, List.setIfInBounds_toArray, List.set_cons_succ, List.set_cons_zero, List.cons_append, List.nil_append]
        apply wpO_det
        case hw => rfl
        case h =>
          intro hFm wx hS_ hF_ K hK
          go_big_quiet_op
          first
            | exact hK _ rfl
            | (apply Exists.intro; refine ⟨fun _ => ?_, ?_⟩; (focus (first | (intro hC; have hC := hC.out; (try simp only [hC, Result.andThen]); first | exact ⟨True.intro, rfl⟩ | exact ⟨rfl, rfl⟩ | rfl))); exact hK _ rfl)
        case k =>
        simp only [Act.put, List.setIfInBounds_toArray, List.set_cons_succ, List.set_cons_zero, List.cons_append, List.nil_append]
        refine wpO_nil ?_
        intro w6 hS hF hB
        (try simp [allF] at hF)
        (try simp [List.pairwise_cons] at hB)
        obtain ⟨a0, a1, b0, b1, c0, c1, d0, d1, hs⟩ := hS
        have HS6 := Lib.hid (HS5.out.trans hs)
        clear hs
        go_wp2_with fail
        go_ret
        exact ⟨ret_int (by rw [HM.out, if_pos (by constructor <;> omega)]), HS6.out⟩
      · have hg2 : decide (s' * t' < 0) = false := by rw [decide_eq_false_iff_not]; exact hn2
        apply region_facts 22 (fun w' => w'.cell? ⟨G, 0, none⟩ = some (.int .i64 a.1) ∧ w'.cell? ⟨G, 1, none⟩ = some (.int .i64 a.2) ∧ w'.cell? ⟨G + 1, 0, none⟩ = some (.int .i64 b.1) ∧ w'.cell? ⟨G + 1, 1, none⟩ = some (.int .i64 b.2) ∧ w'.cell? ⟨G + 1 + 1, 0, none⟩ = some (.int .i64 c.1) ∧ w'.cell? ⟨G + 1 + 1, 1, none⟩ = some (.int .i64 c.2) ∧ w'.cell? ⟨G + 1 + 1 + 1, 0, none⟩ = some (.int .i64 d.1) ∧ w'.cell? ⟨G + 1 + 1 + 1, 1, none⟩ = some (.int .i64 d.2) ∧ Since w5 w')
        case hm => kernel_rfl
        case hB => kernel_rfl
        case hS => exact ⟨a0, a1, b0, b1, c0, c1, d0, d1, (Since.rfl_ w5).drew⟩
        case h =>
        simp only [List.take_succ_cons, List.take_zero, List.drop_succ_cons, List.drop_zero]
        apply wpO_det
        case hw => rfl
        case h =>
          intro hFm wx hS_ hF_ K hK
          go_big_quiet_op
          first
            | exact hK _ rfl
            | (apply Exists.intro; refine ⟨fun _ => ?_, ?_⟩; (focus (first | (intro hC; have hC := hC.out; (try simp only [hC, Result.andThen]); first | exact ⟨True.intro, rfl⟩ | exact ⟨rfl, rfl⟩ | rfl))); exact hK _ rfl)
        case k =>
        simp only [Act.put, List.setIfInBounds_toArray, List.set_cons_succ, List.set_cons_zero, List.cons_append, List.nil_append]
        apply wpO_det
        case hw => rfl
        case h =>
          intro hFm wx hS_ hF_ K hK
          go_big_quiet_op
          first
            | exact hK _ rfl
            | (apply Exists.intro; refine ⟨fun _ => ?_, ?_⟩; (focus (first | (intro hC; have hC := hC.out; (try simp only [hC, Result.andThen]); first | exact ⟨True.intro, rfl⟩ | exact ⟨rfl, rfl⟩ | rfl))); exact hK _ rfl)
        case k =>
        simp only [Act.put, List.setIfInBounds_toArray, List.set_cons_succ, List.set_cons_zero, List.cons_append, List.nil_append]
        apply wpO_det
        case hw => rfl
        case h =>
          intro hFm wx hS_ hF_ K hK
          go_big_quiet_op
          first
            | exact hK _ rfl
            | (apply Exists.intro; refine ⟨fun _ => ?_, ?_⟩; (focus (first | (intro hC; have hC := hC.out; (try simp only [hC, Result.andThen]); first | exact ⟨True.intro, rfl⟩ | exact ⟨rfl, rfl⟩ | rfl))); exact hK _ rfl)
        case k =>
        simp only [Act.put, List.setIfInBounds_toArray, List.set_cons_succ, List.set_cons_zero, List.cons_append, List.nil_append]
        apply wpO_det
        case hw => rfl
        case h =>
          intro hFm wx hS_ hF_ K hK
          go_big_quiet_op
          first
            | exact hK _ rfl
            | (apply Exists.intro; refine ⟨fun _ => ?_, ?_⟩; (focus (first | (intro hC; go_at_call 38; refine (HC1.out _).mono ?_; rintro e w' ⟨rfl, hb⟩; refine ⟨rfl, ?_⟩; exact cls_call hFm hC hb))); exact hK _ rfl)
        case k =>
        simp only [Act.put, List.setIfInBounds_toArray, List.set_cons_succ, List.set_cons_zero, List.cons_append, List.nil_append]
        apply wpO_det
        case hw => rfl
        case h =>
          intro hFm wx hS_ hF_ K hK
          go_big_quiet_op
          first
            | exact hK _ rfl
            | (apply Exists.intro; refine ⟨fun _ => ?_, ?_⟩; (focus (first | (intro hC; have hC := hC.out; (try simp only [hC, Result.andThen]); first | exact ⟨True.intro, rfl⟩ | exact ⟨rfl, rfl⟩ | rfl))); exact hK _ rfl)
        case k =>
        simp only [Act.put, List.setIfInBounds_toArray, List.set_cons_succ, List.set_cons_zero, List.cons_append, List.nil_append]
        apply wpO_det
        case hw => rfl
        case h =>
          intro hFm wx hS_ hF_ K hK
          go_big_quiet_op
          first
            | exact hK _ rfl
            | (apply Exists.intro; refine ⟨fun _ => ?_, ?_⟩; (focus (first | (intro hC; have hC := hC.out; (try simp only [hC, Result.andThen]); first | exact ⟨True.intro, rfl⟩ | exact ⟨rfl, rfl⟩ | rfl))); exact hK _ rfl)
        case k =>
        simp only [Act.put, List.setIfInBounds_toArray, List.set_cons_succ, List.set_cons_zero, List.cons_append, List.nil_append]
        apply wpO_det
        case hw => rfl
        case h =>
          intro hFm wx hS_ hF_ K hK
          go_big_quiet_op
          first
            | exact hK _ rfl
            | (apply Exists.intro; refine ⟨fun _ => ?_, ?_⟩; (focus (first | (intro hC; have hC := hC.out; (try simp only [hC, Result.andThen]); first | exact ⟨True.intro, rfl⟩ | exact ⟨rfl, rfl⟩ | rfl))); exact hK _ rfl)
        case k =>
        simp only [Act.put, List.setIfInBounds_toArray, List.set_cons_succ, List.set_cons_zero, List.cons_append, List.nil_append]
        apply wpO_det
        case hw => rfl
        case h =>
          intro hFm wx hS_ hF_ K hK
          go_big_quiet_op
          first
            | exact hK _ rfl
            | (apply Exists.intro; refine ⟨fun _ => ?_, ?_⟩; (focus (first | (intro hC; go_at_call 38; refine (HC2.out _).mono ?_; rintro e w' ⟨rfl, hb⟩; refine ⟨rfl, ?_⟩; exact cls_call hFm hC hb))); exact hK _ rfl)
        case k =>
        simp only [Act.put, List.setIfInBounds_toArray, List.set_cons_succ, List.set_cons_zero, List.cons_append, List.nil_append]
        apply wpO_det
        case hw => rfl
        case h =>
          intro hFm wx hS_ hF_ K hK
          go_big_quiet_op
          first
            | exact hK _ rfl
            | (apply Exists.intro; refine ⟨fun _ => ?_, ?_⟩; (focus (first | (intro hC; have hC := hC.out; (try simp only [hC, Result.andThen]); first | exact ⟨True.intro, rfl⟩ | exact ⟨rfl, rfl⟩ | rfl))); exact hK _ rfl)
        case k =>
        simp only [Act.put, List.setIfInBounds_toArray, List.set_cons_succ, List.set_cons_zero, List.cons_append, List.nil_append]
        apply wpO_det
        case hw => rfl
        case h =>
          intro hFm wx hS_ hF_ K hK
          go_big_quiet_op
          first
            | exact hK _ rfl
            | (apply Exists.intro; refine ⟨fun _ => ?_, ?_⟩; (focus (first | (intro hC; have hC := hC.out; (try simp only [hC, Result.andThen]); first | exact ⟨True.intro, rfl⟩ | exact ⟨rfl, rfl⟩ | rfl))); exact hK _ rfl)
        case k =>
        simp only [Act.put, List.setIfInBounds_toArray, List.set_cons_succ, List.set_cons_zero, List.cons_append, List.nil_append]
        apply wpO_det
        case hw => rfl
        case h =>
          intro hFm wx hS_ hF_ K hK
          go_big_quiet_op
          first
            | exact hK _ rfl
            | (apply Exists.intro; refine ⟨fun _ => ?_, ?_⟩; (focus (first | (intro hC; have hC := hC.out; (try simp only [hC, Result.andThen]); first | exact ⟨True.intro, rfl⟩ | exact ⟨rfl, rfl⟩ | rfl))); exact hK _ rfl)
        case k =>
        simp only [Act.put, List.setIfInBounds_toArray, List.set_cons_succ, List.set_cons_zero, List.cons_append, List.nil_append]
        apply wpO_det
        case hw => rfl
        case h =>
          intro hFm wx hS_ hF_ K hK
          go_big_quiet_op
          first
            | exact hK _ rfl
            | (apply Exists.intro; refine ⟨fun _ => ?_, ?_⟩; (focus (first | (intro hC; have hC := hC.out; (try simp only [hC, Result.andThen]); first | exact ⟨True.intro, rfl⟩ | exact ⟨rfl, rfl⟩ | rfl))); exact hK _ rfl)
        case k =>
        simp only [Act.put, List.setIfInBounds_toArray, List.set_cons_succ, List.set_cons_zero, List.cons_append, List.nil_append]
        apply wpO_det
        case hw => rfl
        case h =>
          intro hFm wx hS_ hF_ K hK
          go_big_quiet_op
          first
            | exact hK _ rfl
            | (apply Exists.intro; refine ⟨fun _ => ?_, ?_⟩; (focus (first | (intro hC; have hC := hC.out; (try simp only [hC, Result.andThen]); first | exact ⟨True.intro, rfl⟩ | exact ⟨rfl, rfl⟩ | rfl))); exact hK _ rfl)
        case k =>
        simp only [Act.put, List.setIfInBounds_toArray, List.set_cons_succ, List.set_cons_zero, List.cons_append, List.nil_append]
        apply wpO_det
        case hw => rfl
        case h =>
          intro hFm wx hS_ hF_ K hK
          go_big_quiet_op
          first
            | exact hK _ rfl
            | (apply Exists.intro; refine ⟨fun _ => ?_, ?_⟩; (focus (first | (intro hC; have hC := hC.out; (try simp only [hC, Result.andThen]); first | exact ⟨True.intro, rfl⟩ | exact ⟨rfl, rfl⟩ | rfl))); exact hK _ rfl)
        case k =>
        simp only [Act.put, List.setIfInBounds_toArray, List.set_cons_succ, List.set_cons_zero, List.cons_append, List.nil_append]
        apply wpO_det
        case hw => rfl
        case h =>
          intro hFm wx hS_ hF_ K hK
          go_big_quiet_op
          first
            | exact hK _ rfl
            | (apply Exists.intro; refine ⟨fun _ => ?_, ?_⟩; (focus (first | (intro hC; go_at_call 38; refine (HC3.out _).mono ?_; rintro e w' ⟨rfl, hb⟩; refine ⟨rfl, ?_⟩; exact cls_call hFm hC hb))); exact hK _ rfl)
        case k =>
        simp only [Act.put, List.setIfInBounds_toArray, List.set_cons_succ, List.set_cons_zero, List.cons_append, List.nil_append]
        apply wpO_det
        case hw => rfl
        case h =>
          intro hFm wx hS_ hF_ K hK
          go_big_quiet_op
          first
            | exact hK _ rfl
            | (apply Exists.intro; refine ⟨fun _ => ?_, ?_⟩; (focus (first | (intro hC; have hC := hC.out; (try simp only [hC, Result.andThen]); first | exact ⟨True.intro, rfl⟩ | exact ⟨rfl, rfl⟩ | rfl))); exact hK _ rfl)
        case k =>
        simp only [Act.put, List.setIfInBounds_toArray, List.set_cons_succ, List.set_cons_zero, List.cons_append, List.nil_append]
        apply wpO_det
        case hw => rfl
        case h =>
          intro hFm wx hS_ hF_ K hK
          go_big_quiet_op
          first
            | exact hK _ rfl
            | (apply Exists.intro; refine ⟨fun _ => ?_, ?_⟩; (focus (first | (intro hC; have hC := hC.out; (try simp only [hC, Result.andThen]); first | exact ⟨True.intro, rfl⟩ | exact ⟨rfl, rfl⟩ | rfl))); exact hK _ rfl)
        case k =>
        simp only [Act.put, List.setIfInBounds_toArray, List.set_cons_succ, List.set_cons_zero, List.cons_append, List.nil_append]
        apply wpO_det
        case hw => rfl
        case h =>
          intro hFm wx hS_ hF_ K hK
          go_big_quiet_op
          first
            | exact hK _ rfl
            | (apply Exists.intro; refine ⟨fun _ => ?_, ?_⟩; (focus (first | (intro hC; have hC := hC.out; (try simp only [hC, Result.andThen]); first | exact ⟨True.intro, rfl⟩ | exact ⟨rfl, rfl⟩ | rfl))); exact hK _ rfl)
        case k =>
        simp only [Act.put, List.setIfInBounds_toArray, List.set_cons_succ, List.set_cons_zero, List.cons_append, List.nil_append]
        apply wpO_det
        case hw => rfl
        case h =>
          intro hFm wx hS_ hF_ K hK
          go_big_quiet_op
          first
            | exact hK _ rfl
            | (apply Exists.intro; refine ⟨fun _ => ?_, ?_⟩; (focus (first | (intro hC; go_at_call 38; refine (HC4.out _).mono ?_; rintro e w' ⟨rfl, hb⟩; refine ⟨rfl, ?_⟩; exact cls_call hFm hC hb))); exact hK _ rfl)
        case k =>
        simp only [Act.put, List.setIfInBounds_toArray, List.set_cons_succ, List.set_cons_zero, List.cons_append, List.nil_append]
        apply wpO_det
        case hw => rfl
        case h =>
          intro hFm wx hS_ hF_ K hK
          go_big_quiet_op
          first
            | exact hK _ rfl
            | (apply Exists.intro; refine ⟨fun _ => ?_, ?_⟩; (focus (first | (intro hC; have hC := hC.out; (try simp only [hC, Result.andThen]); first | exact ⟨True.intro, rfl⟩ | exact ⟨rfl, rfl⟩ | rfl))); exact hK _ rfl)
        case k =>
        simp only [Act.put, List.setIfInBounds_toArray, List.set_cons_succ, List.set_cons_zero, List.cons_append, List.nil_append]
        apply wpO_det
        case hw => rfl
        case h =>
          intro hFm wx hS_ hF_ K hK
          go_big_quiet_op
          first
            | exact hK _ rfl
            | (apply Exists.intro; refine ⟨fun _ => ?_, ?_⟩; (focus (first | (intro hC; have hC := hC.out; (try simp only [hC, Result.andThen]); first | exact ⟨True.intro, rfl⟩ | exact ⟨rfl, rfl⟩ | rfl))); exact hK _ rfl)
        case k =>
        simp only [Act.put, List.setIfInBounds_toArray, List.set_cons_succ, List.set_cons_zero, List.cons_append, List.nil_append]
        apply wpO_det
        case hw => rfl
        case h =>
          intro hFm wx hS_ hF_ K hK
          go_big_quiet_op
          first
            | exact hK _ rfl
            | (apply Exists.intro; refine ⟨fun _ => ?_, ?_⟩; (focus (first | (intro hC; have hC := hC.out; (try simp only [hC, Result.andThen]); first | exact ⟨True.intro, rfl⟩ | exact ⟨rfl, rfl⟩ | rfl))); exact hK _ rfl)
        case k =>
        simp only [Act.put, List.setIfInBounds_toArray, List.set_cons_succ, List.set_cons_zero, List.cons_append, List.nil_append]
        refine wpO_nil ?_
        intro w6 hS hF hB
        (try simp [allF] at hF)
        (try simp [List.pairwise_cons] at hB)
        obtain ⟨a0, a1, b0, b1, c0, c1, d0, d1, hs⟩ := hS
        have HS6 := Lib.hid (HS5.out.trans hs)
        clear hs
        go_wp2_with fail
        refine (HSH.out _).mono ?_
        rintro e w7 ⟨x, y, rfl, hs⟩
        have HS7 := Lib.hid (HS6.out.trans hs)
        clear hs a0 a1 b0 b1 c0 c1 d0 d1
        go_wp2_with fail
        all_goals (go_ret; exact ⟨ret_int (by rw [HM.out, if_neg (by intro h; omega)]), HS7.out⟩)
    · have hg : decide (s * t < 0) = false := by rw [decide_eq_false_iff_not]; exact hn
      apply region_facts 22 (fun w' => w'.cell? ⟨G, 0, none⟩ = some (.int .i64 a.1) ∧ w'.cell? ⟨G, 1, none⟩ = some (.int .i64 a.2) ∧ w'.cell? ⟨G + 1, 0, none⟩ = some (.int .i64 b.1) ∧ w'.cell? ⟨G + 1, 1, none⟩ = some (.int .i64 b.2) ∧ w'.cell? ⟨G + 1 + 1, 0, none⟩ = some (.int .i64 c.1) ∧ w'.cell? ⟨G + 1 + 1, 1, none⟩ = some (.int .i64 c.2) ∧ w'.cell? ⟨G + 1 + 1 + 1, 0, none⟩ = some (.int .i64 d.1) ∧ w'.cell? ⟨G + 1 + 1 + 1, 1, none⟩ = some (.int .i64 d.2) ∧ Since w5 w')
      case hm => kernel_rfl
      case hB => kernel_rfl
      case hS => exact ⟨a0, a1, b0, b1, c0, c1, d0, d1, (Since.rfl_ w5).drew⟩
      case h =>
      simp only [List.take_succ_cons, List.take_zero, List.drop_succ_cons, List.drop_zero]
      apply wpO_det
      case hw => rfl
      case h =>
        intro hFm wx hS_ hF_ K hK
        go_big_quiet_op
        first
          | exact hK _ rfl
          | (apply Exists.intro; refine ⟨fun _ => ?_, ?_⟩; (focus (first | (intro hC; have hC := hC.out; (try simp only [hC, Result.andThen]); first | exact ⟨True.intro, rfl⟩ | exact ⟨rfl, rfl⟩ | rfl))); exact hK _ rfl)
      case k =>
      simp only [Act.put, List.setIfInBounds_toArray, List.set_cons_succ, List.set_cons_zero, List.cons_append, List.nil_append]
      apply wpO_det
      case hw => rfl
      case h =>
        intro hFm wx hS_ hF_ K hK
        go_big_quiet_op
        first
          | exact hK _ rfl
          | (apply Exists.intro; refine ⟨fun _ => ?_, ?_⟩; (focus (first | (intro hC; have hC := hC.out; (try simp only [hC, Result.andThen]); first | exact ⟨True.intro, rfl⟩ | exact ⟨rfl, rfl⟩ | rfl))); exact hK _ rfl)
      case k =>
      simp only [Act.put, List.setIfInBounds_toArray, List.set_cons_succ, List.set_cons_zero, List.cons_append, List.nil_append]
      apply wpO_det
      case hw => rfl
      case h =>
        intro hFm wx hS_ hF_ K hK
        go_big_quiet_op
        first
          | exact hK _ rfl
          | (apply Exists.intro; refine ⟨fun _ => ?_, ?_⟩; (focus (first | (intro hC; have hC := hC.out; (try simp only [hC, Result.andThen]); first | exact ⟨True.intro, rfl⟩ | exact ⟨rfl, rfl⟩ | rfl))); exact hK _ rfl)
      case k =>
      simp only [Act.put, List.setIfInBounds_toArray, List.set_cons_succ, List.set_cons_zero, List.cons_append, List.nil_append]
      apply wpO_det
      case hw => rfl
      case h =>
        intro hFm wx hS_ hF_ K hK
        go_big_quiet_op
        first
          | exact hK _ rfl
          | (apply Exists.intro; refine ⟨fun _ => ?_, ?_⟩; (focus (first | (intro hC; go_at_call 38; refine (HC1.out _).mono ?_; rintro e w' ⟨rfl, hb⟩; refine ⟨rfl, ?_⟩; exact cls_call hFm hC hb))); exact hK _ rfl)
      case k =>
      simp only [Act.put, List.setIfInBounds_toArray, List.set_cons_succ, List.set_cons_zero, List.cons_append, List.nil_append]
      apply wpO_det
      case hw => rfl
      case h =>
        intro hFm wx hS_ hF_ K hK
        go_big_quiet_op
        first
          | exact hK _ rfl
          | (apply Exists.intro; refine ⟨fun _ => ?_, ?_⟩; (focus (first | (intro hC; have hC := hC.out; (try simp only [hC, Result.andThen]); first | exact ⟨True.intro, rfl⟩ | exact ⟨rfl, rfl⟩ | rfl))); exact hK _ rfl)
      case k =>
      simp only [Act.put, List.setIfInBounds_toArray, List.set_cons_succ, List.set_cons_zero, List.cons_append, List.nil_append]
      apply wpO_det
      case hw => rfl
      case h =>
        intro hFm wx hS_ hF_ K hK
        go_big_quiet_op
        first
          | exact hK _ rfl
          | (apply Exists.intro; refine ⟨fun _ => ?_, ?_⟩; (focus (first | (intro hC; have hC := hC.out; (try simp only [hC, Result.andThen]); first | exact ⟨True.intro, rfl⟩ | exact ⟨rfl, rfl⟩ | rfl))); exact hK _ rfl)
      case k =>
      simp only [Act.put, List.setIfInBounds_toArray, List.set_cons_succ, List.set_cons_zero, List.cons_append, List.nil_append]
      apply wpO_det
      case hw => rfl
      case h =>
        intro hFm wx hS_ hF_ K hK
        go_big_quiet_op
        first
          | exact hK _ rfl
          | (apply Exists.intro; refine ⟨fun _ => ?_, ?_⟩; (focus (first | (intro hC; have hC := hC.out; (try simp only [hC, Result.andThen]); first | exact ⟨True.intro, rfl⟩ | exact ⟨rfl, rfl⟩ | rfl))); exact hK _ rfl)
      case k =>
      simp only [Act.put, List.setIfInBounds_toArray, List.set_cons_succ, List.set_cons_zero, List.cons_append, List.nil_append]
      apply wpO_det
      case hw => rfl
      case h =>
        intro hFm wx hS_ hF_ K hK
        go_big_quiet_op
        first
          | exact hK _ rfl
          | (apply Exists.intro; refine ⟨fun _ => ?_, ?_⟩; (focus (first | (intro hC; go_at_call 38; refine (HC2.out _).mono ?_; rintro e w' ⟨rfl, hb⟩; refine ⟨rfl, ?_⟩; exact cls_call hFm hC hb))); exact hK _ rfl)
      case k =>
      simp only [Act.put, List.setIfInBounds_toArray, List.set_cons_succ, List.set_cons_zero, List.cons_append, List.nil_append]
      apply wpO_det
      case hw => rfl
      case h =>
        intro hFm wx hS_ hF_ K hK
        go_big_quiet_op
        first
          | exact hK _ rfl
          | (apply Exists.intro; refine ⟨fun _ => ?_, ?_⟩; (focus (first | (intro hC; have hC := hC.out; (try simp only [hC, Result.andThen]); first | exact ⟨True.intro, rfl⟩ | exact ⟨rfl, rfl⟩ | rfl))); exact hK _ rfl)
      case k =>
      simp only [Act.put, List.setIfInBounds_toArray, List.set_cons_succ, List.set_cons_zero, List.cons_append, List.nil_append]
      apply wpO_det
      case hw => rfl
      case h =>
        intro hFm wx hS_ hF_ K hK
        go_big_quiet_op
        first
          | exact hK _ rfl
          | (apply Exists.intro; refine ⟨fun _ => ?_, ?_⟩; (focus (first | (intro hC; have hC := hC.out; (try simp only [hC, Result.andThen]); first | exact ⟨True.intro, rfl⟩ | exact ⟨rfl, rfl⟩ | rfl))); exact hK _ rfl)
      case k =>
      simp only [Act.put, List.setIfInBounds_toArray, List.set_cons_succ, List.set_cons_zero, List.cons_append, List.nil_append]
      apply wpO_det
      case hw => rfl
      case h =>
        intro hFm wx hS_ hF_ K hK
        go_big_quiet_op
        first
          | exact hK _ rfl
          | (apply Exists.intro; refine ⟨fun _ => ?_, ?_⟩; (focus (first | (intro hC; have hC := hC.out; (try simp only [hC, Result.andThen]); first | exact ⟨True.intro, rfl⟩ | exact ⟨rfl, rfl⟩ | rfl))); exact hK _ rfl)
      case k =>
      simp only [Act.put, List.setIfInBounds_toArray, List.set_cons_succ, List.set_cons_zero, List.cons_append, List.nil_append]
      apply wpO_skip
      case hw => rfl
      case k =>
      simp only [Act.put, List.setIfInBounds_toArray, List.set_cons_succ, List.set_cons_zero, List.cons_append, List.nil_append]
      apply wpO_skip
      case hw => rfl
      case k =>
      simp only [Act.put, List.setIfInBounds_toArray, List.set_cons_succ, List.set_cons_zero, List.cons_append, List.nil_append]
      apply wpO_skip
      case hw => rfl
      case k =>
      simp only [Act.put, List.setIfInBounds_toArray, List.set_cons_succ, List.set_cons_zero, List.cons_append, List.nil_append]
      apply wpO_skip
      case hw => rfl
      case k =>
      simp only [Act.put, List.setIfInBounds_toArray, List.set_cons_succ, List.set_cons_zero, List.cons_append, List.nil_append]
      apply wpO_skip
      case hw => rfl
      case k =>
      simp only [Act.put, List.setIfInBounds_toArray, List.set_cons_succ, List.set_cons_zero, List.cons_append, List.nil_append]
      apply wpO_skip
      case hw => rfl
      case k =>
      simp only [Act.put, List.setIfInBounds_toArray, List.set_cons_succ, List.set_cons_zero, List.cons_append, List.nil_append]
      apply wpO_skip
      case hw => rfl
      case k =>
      simp only [Act.put, List.setIfInBounds_toArray, List.set_cons_succ, List.set_cons_zero, List.cons_append, List.nil_append]
      apply wpO_skip
      case hw => rfl
      case k =>
      simp only [Act.put, List.setIfInBounds_toArray, List.set_cons_succ, List.set_cons_zero, List.cons_append, List.nil_append]
      apply wpO_skip
      case hw => rfl
      case k =>
      simp only [Act.put, List.setIfInBounds_toArray, List.set_cons_succ, List.set_cons_zero, List.cons_append, List.nil_append]
      apply wpO_skip
      case hw => rfl
      case k =>
      simp only [Act.put, List.setIfInBounds_toArray, List.set_cons_succ, List.set_cons_zero, List.cons_append, List.nil_append]
      apply wpO_det
      case hw => rfl
      case h =>
        intro hFm wx hS_ hF_ K hK
        go_big_quiet_op
        first
          | exact hK _ rfl
          | (apply Exists.intro; refine ⟨fun _ => ?_, ?_⟩; (focus (first | (intro hC; have hC := hC.out; (try simp only [hC, Result.andThen]); first | exact ⟨True.intro, rfl⟩ | exact ⟨rfl, rfl⟩ | rfl))); exact hK _ rfl)
      case k =>
      simp only [Act.put, List.setIfInBounds_toArray, List.set_cons_succ, List.set_cons_zero, List.cons_append, List.nil_append]
      refine wpO_nil ?_
      intro w6 hS hF hB
      (try simp [allF] at hF)
      (try simp [List.pairwise_cons] at hB)
      obtain ⟨a0, a1, b0, b1, c0, c1, d0, d1, hs⟩ := hS
      have HS6 := Lib.hid (HS5.out.trans hs)
      clear hs
      go_wp2_with fail
      refine (HSH.out _).mono ?_
      rintro e w7 ⟨x, y, rfl, hs⟩
      have HS7 := Lib.hid (HS6.out.trans hs)
      clear hs a0 a1 b0 b1 c0 c1 d0 d1
      go_wp2_with fail
      all_goals (go_ret; exact ⟨ret_int (by rw [HM.out, if_neg (by intro h; omega)]), HS7.out⟩)
end Go.Proofs.Ytdbknodifpmmoaa
end
section
namespace Go.Proofs.Ytdbknodifpmmoaa
set_option linter.unusedSimpArgs false
set_option linter.unusedVariables false
open Go.RowKit Go.BigFrame

set_option maxHeartbeats 1000000 in
theorem Mul64B (x y : Nat) (hx : x < 18446744073709551616) (hy : y < 18446744073709551616) (w : World) :
    Calls Try.prog 148 #[.int .u64 x, .int .u64 y] w fun e w' => e = .returned (.tuple #[.int .u64 ((x * y / 18446744073709551616 : Nat) : Int), .int .u64 ((x * y % 18446744073709551616 : Nat) : Int)]) ∧ w = w' := by
  obtain ⟨bd, bt, bw, hhi⟩ := Lib.mul64_hi x y hx hy
  have ba := Lib.half_mul_le (a := x / 4294967296) (b := y / 4294967296) (by omega) (by omega)
  have bb := Lib.half_mul_le (a := x / 4294967296) (b := y % 4294967296) (by omega) (by omega)
  have bc := Lib.half_mul_le (a := x % 4294967296) (b := y / 4294967296) (by omega) (by omega)
  have ba' : x / 4294967296 * (y / 4294967296) < 18446744073709551616 := by omega
  have bb' : x / 4294967296 * (y % 4294967296) < 18446744073709551616 := by omega
  have bc' : x % 4294967296 * (y / 4294967296) < 18446744073709551616 := by omega
  have bh1 : x / 4294967296 * (y / 4294967296) + (x / 4294967296 * (y % 4294967296) + x % 4294967296 * (y % 4294967296) / 4294967296) / 4294967296 < 18446744073709551616 := by omega
  have bh : x / 4294967296 * (y / 4294967296) + (x / 4294967296 * (y % 4294967296) + x % 4294967296 * (y % 4294967296) / 4294967296) / 4294967296 + ((x / 4294967296 * (y % 4294967296) + x % 4294967296 * (y % 4294967296) / 4294967296) % 4294967296 + x % 4294967296 * (y / 4294967296)) / 4294967296 < 18446744073709551616 := by omega
  go_enter Try.func148, Try.ntmps148
  go_wp2
  simp only [Mul64.maskN x hx, Mul64.maskN y hy, Mul64.divN, Mul64.mulN, Mul64.addN, Mul64.wrapN _ bd, Mul64.wrapN _ bb', Mul64.wrapN _ bt, Mul64.maskN _ bt, Mul64.wrapN _ bc', Mul64.wrapN _ bw, Mul64.wrapN _ ba', Mul64.wrapN _ bh1, Mul64.wrapN _ bh, Mul64.wrapM (x * y)]
  rw [hhi]
  go_ret2
  exact ⟨rfl, rfl⟩

theorem Mul64B_low (x y : Nat) (h : x * y < 18446744073709551616) (hx : x < 18446744073709551616) (hy : y < 18446744073709551616) (w : World) :
    Calls Try.prog 148 #[.int .u64 x, .int .u64 y] w fun e w' => e = .returned (.tuple #[.int .u64 0, .int .u64 ((x * y : Nat) : Int)]) ∧ w = w' := by
  refine (Mul64B x y hx hy w).mono ?_
  rintro e w' ⟨rfl, hw⟩
  refine ⟨?_, hw⟩
  rw [Nat.div_eq_of_lt h, Nat.mod_eq_of_lt h]; rfl

theorem Div64B (y d : Nat) (hd : 0 < d) (hy : y < 18446744073709551616) (w : World) :
    Calls Try.prog 155 #[.int .u64 0, .int .u64 y, .int .u64 d] w fun e w' => e = .returned (.tuple #[.int .u64 ((y / d : Nat) : Int), .int .u64 ((y % d : Nat) : Int)]) ∧ Since w w' := by
  have dp : 0 < (d : Int) := by omega
  have h1 : ((d : Int) == 0) = false := by rw [beq_eq_false_iff_ne]; omega
  have b1 : y / d < 18446744073709551616 := Nat.lt_of_le_of_lt (Nat.div_le_self _ _) hy
  have u1 := Mul64.wrapN _ b1
  go_enter Try.func155, Try.ntmps155
  go_wp2
  go_region
  go_wp2
  go_ret2
  refine ⟨?_, (Since.rfl_ w).drew⟩
  show Ending.returned (.tuple #[.int .u64 (IntKind.u64.wrap ((y : Int) / (d : Int))), .int .u64 ((y : Int) % (d : Int))]) = _
  rw [← Int.natCast_ediv, u1]; rfl


theorem Add64_run (x y c : Int) (hx : 0 ≤ x) (hy : 0 ≤ y) (hc0 : 0 ≤ c) (hc : c ≤ 1) (w : World) :
    (callFunc 171 #[.int .u64 x, .int .u64 y, .int .u64 c]).run Try.prog w = .ok (.value (.tuple #[.int .u64 ((x + y + c) % 18446744073709551616), .int .u64 ((x + y + c) / 18446744073709551616)])) w := by
  rw [run_callFunc_extern Try.func171 (by kernel_rfl) (by kernel_rfl) (by kernel_rfl) (e := add64Entry) (by kernel_rfl), run_add64 x y c hx hy hc0 hc]
  rfl

/-- A number of 128 bits. -/
def wHi (z : Int) : Int := z / 18446744073709551616
def wLo (z : Int) : Int := z % 18446744073709551616
def uW (z : Int) : Int := z % 18446744073709551616
theorem uW_eq (z : Int) : IntKind.u64.wrap z = uW z := by unfold uW IntKind.wrap; simp [IntKind.bits, IntKind.signed]
theorem wLo_bd (z : Int) : 0 ≤ wLo z ∧ wLo z < 18446744073709551616 := by unfold wLo; omega
theorem w_eq (z : Int) : z = wHi z * 18446744073709551616 + wLo z := by unfold wHi wLo; omega
theorem wHi_bd {z : Int} (h : -18446744073709551616 ≤ z ∧ z < 18446744073709551616) : -1 ≤ wHi z ∧ wHi z ≤ 0 := by unfold wHi; omega
end Go.Proofs.Ytdbknodifpmmoaa
end
section
namespace Go.Proofs.Ytdbknodifpmmoaa
set_option linter.unusedSimpArgs false
set_option linter.unusedVariables false
open Go.RowKit Go.BigFrame

/-- How a number of 128 bits stands. -/
def wideV (z : Int) : Value := .agg #[.int .i64 (wHi z), .int .u64 (wLo z)]

theorem w64_id {x : Int} (h : -9223372036854775808 ≤ x ∧ x ≤ 9223372036854775807) : wrap64 x = x := IntWalk.wrap64_in x h
theorem hi_of {z h l : Int} (hz : -18446744073709551616 ≤ z ∧ z < 18446744073709551616) (e : z = h * 18446744073709551616 + l) (hl : 0 ≤ l ∧ l < 18446744073709551616) : wHi z = h ∧ wLo z = l := by unfold wHi wLo; omega

def aW (n : Int) : Nat := (uW n).toNat
theorem aW_eq (n : Int) : IntKind.u64.wrap n = (aW n : Int) := by rw [uW_eq]; unfold aW uW; omega
theorem aW_lt (n : Int) : aW n < 18446744073709551616 := by unfold aW uW; omega
theorem aW_val {n : Int} (h : -9223372036854775808 ≤ n ∧ n ≤ 9223372036854775807) : (aW n : Int) = if n < 0 then n + 18446744073709551616 else n := by unfold aW uW; split <;> omega
theorem i64W (z : Int) : wrap64 z = (z + 9223372036854775808) % 18446744073709551616 - 9223372036854775808 := by simp only [wrap64]

theorem Of_w (n : Int) (h : -9223372036854775808 ≤ n ∧ n ≤ 9223372036854775807) (w : World) :
    Calls Try.prog 156 #[.int .i64 n] w fun e w' => e = .returned (wideV n) ∧ Since w w' := by
  have HF : Hid (wideV n = .agg #[.int .i64 (n / 9223372036854775808), .int .u64 (IntKind.u64.wrap n)]) := by
    show _ = _
    unfold wideV
    rw [show wHi n = n / 9223372036854775808 by unfold wHi; omega, uW_eq]; rfl
  go_enter Try.func156, Try.ntmps156
  go_wp2
  exact bodyPost_ret (v := .agg #[.int .i64 (n / 9223372036854775808), .int .u64 (IntKind.u64.wrap n)]) (by simp [results, Try.results156, go_sem]) rfl ⟨by rw [HF.out], (Since.rfl_ w).alloc _⟩

theorem mul_parts {a b : Int} (ha : -9223372036854775808 ≤ a ∧ a ≤ 9223372036854775807) (hb : -9223372036854775808 ≤ b ∧ b ≤ 9223372036854775807) (hz : -18446744073709551616 ≤ a * b ∧ a * b < 18446744073709551616) :
    ((aW a * aW b % 18446744073709551616 : Nat) : Int) = wLo (a * b) ∧ (0 ≤ a → 0 ≤ b → wrap64 ((aW a * aW b / 18446744073709551616 : Nat) : Int) = wHi (a * b)) ∧
    (a < 0 → 0 ≤ b → wrap64 (IntKind.u64.wrap (((aW a * aW b / 18446744073709551616 : Nat) : Int) - (aW b : Int))) = wHi (a * b)) ∧
    (0 ≤ a → b < 0 → wrap64 (IntKind.u64.wrap (((aW a * aW b / 18446744073709551616 : Nat) : Int) - (aW a : Int))) = wHi (a * b)) ∧
    (a < 0 → b < 0 → wrap64 (IntKind.u64.wrap (IntKind.u64.wrap (((aW a * aW b / 18446744073709551616 : Nat) : Int) - (aW b : Int)) - (aW a : Int))) = wHi (a * b)) := by
  have va := aW_val ha
  have vb := aW_val hb
  generalize aW a = A at *
  generalize aW b = B at *
  have e1 : (((A * B : Nat)) : Int) = (A : Int) * B := by push_cast; rfl
  have k : (A : Int) * B = a * b + (if a < 0 then 18446744073709551616 * b else 0) + (if b < 0 then 18446744073709551616 * a else 0) + (if a < 0 ∧ b < 0 then 18446744073709551616 * 18446744073709551616 else 0) := by
    rw [va, vb]
    rcases Int.lt_or_le a 0 with h1 | h1 <;> rcases Int.lt_or_le b 0 with h2 | h2
    · rw [if_pos h1, if_pos h2, if_pos h1, if_pos h2, if_pos ⟨h1, h2⟩]; grind
    · rw [if_pos h1, if_neg (by omega), if_pos h1, if_neg (by omega), if_neg (by omega)]; grind
    · rw [if_neg (by omega), if_pos h2, if_neg (by omega), if_pos h2, if_neg (by omega)]; grind
    · rw [if_neg (by omega), if_neg (by omega), if_neg (by omega), if_neg (by omega), if_neg (by omega)]; grind
  rw [← e1] at k
  generalize A * B = M at *
  generalize a * b = z at *
  simp only [uW_eq, i64W]
  unfold wLo wHi uW
  refine ⟨?_, ?_, ?_, ?_, ?_⟩
  · split at k <;> split at k <;> split at k <;> omega
  · intro h1 h2; rw [if_neg (by omega), if_neg (by omega), if_neg (by omega)] at k; omega
  · intro h1 h2; rw [if_pos (by omega), if_neg (by omega), if_neg (by omega)] at k; omega
  · intro h1 h2; rw [if_neg (by omega), if_pos (by omega), if_neg (by omega)] at k; omega
  · intro h1 h2; rw [if_pos (by omega), if_pos (by omega), if_pos (by omega)] at k; omega

theorem Mul_w (a b : Int) (ha : -9223372036854775808 ≤ a ∧ a ≤ 9223372036854775807) (hb : -9223372036854775808 ≤ b ∧ b ≤ 9223372036854775807) (hz : -18446744073709551616 ≤ a * b ∧ a * b < 18446744073709551616) (w : World) :
    Calls Try.prog 123 #[.int .i64 a, .int .i64 b] w fun e w' => e = .returned (wideV (a * b)) ∧ Since w w' := by
  obtain ⟨k0, k1, k2, k3, k4⟩ := mul_parts ha hb hz
  have HV : Hid (∀ h l, h = wHi (a * b) → l = wLo (a * b) → wideV (a * b) = .agg #[.int .i64 h, .int .u64 l]) := fun h l e1 e2 => by rw [e1, e2]; rfl
  have HC := Lib.hid (fun w => Mul64B (aW a) (aW b) (aW_lt a) (aW_lt b) w)
  have hA := aW_eq a
  have hB := aW_eq b
  obtain ⟨H, HH⟩ : ∃ H, Hid (H = ((aW a * aW b / 18446744073709551616 : Nat) : Int)) := ⟨_, rfl⟩
  obtain ⟨L, HL⟩ : ∃ L, Hid (L = ((aW a * aW b % 18446744073709551616 : Nat) : Int)) := ⟨_, rfl⟩
  rw [← HH.out, ← HL.out] at HC
  rw [← HL.out] at k0
  rw [← HH.out] at k1 k2 k3 k4
  clear hz ha hb
  have K0 := Lib.hid k0
  have K1 := Lib.hid k1
  have K2 := Lib.hid k2
  have K3 := Lib.hid k3
  have K4 := Lib.hid k4
  clear k0 k1 k2 k3 k4
  rcases Int.lt_or_le a 0 with h1 | h1 <;> rcases Int.lt_or_le b 0 with h2 | h2
  all_goals
    go_enter Try.func123, Try.ntmps123
    go_wp2_with fail
    refine (HC.out _).mono ?_
    rintro e w1 ⟨rfl, rfl⟩
    go_wp2_with fail
  · exact bodyPost_ret (v := .agg #[.int .i64 (wrap64 (IntKind.u64.wrap (IntKind.u64.wrap (H - (aW b : Int)) - (aW a : Int)))), .int .u64 L]) (by simp [results, Try.results123, go_sem]) rfl ⟨by rw [HV.out _ _ (K4.out h1 h2) K0.out], (Since.rfl_ w).alloc _⟩
  · exact bodyPost_ret (v := .agg #[.int .i64 (wrap64 (IntKind.u64.wrap (H - (aW b : Int)))), .int .u64 L]) (by simp [results, Try.results123, go_sem]) rfl ⟨by rw [HV.out _ _ (K2.out h1 h2) K0.out], (Since.rfl_ w).alloc _⟩
  · exact bodyPost_ret (v := .agg #[.int .i64 (wrap64 (IntKind.u64.wrap (H - (aW a : Int)))), .int .u64 L]) (by simp [results, Try.results123, go_sem]) rfl ⟨by rw [HV.out _ _ (K3.out h1 h2) K0.out], (Since.rfl_ w).alloc _⟩
  · exact bodyPost_ret (v := .agg #[.int .i64 (wrap64 H), .int .u64 L]) (by simp [results, Try.results123, go_sem]) rfl ⟨by rw [HV.out _ _ (K1.out h1 h2) K0.out], (Since.rfl_ w).alloc _⟩
end Go.Proofs.Ytdbknodifpmmoaa
end
