/-
  The walk of seg.Meet; Walks of bits.Mul64, bits.Div64, bits.Add64; Walks of package wide: Of, Mul, Add, Div, Short; Walks of package wide: Short, Add, Div; Walks of package frac: size, gcd, signed, Make, Of, Good, fit; Walks of package frac: divide, Add (an integer and a fraction), parts, Round; The walk of frac.Add at an integer and a fraction between 0 and 1; Walks of seg.place, seg.along, seg.Snap. Conditions: those that each lemma names.
-/
import Derived.Test.YtdnccjdlmepafaaK05
import Derived.Test.YtdnccjdlmepafaaK02
import Derived.Lib.Mul64
import Derived.Laws.Bits64b
import Derived.Laws.Externs
import Derived.Shelf.Bits.Mul64
import Derived.Laws.StructEq
import Derived.Laws.DeepNot64
section
namespace Go.Proofs.Ytdnccjdlmepafaa
set_option linter.unusedSimpArgs false
set_option linter.unusedVariables false
open Go.RowKit Go.BigFrame
attribute [local go_sem ↓] eqPt neqPt
/-- How many points two segments have in common. -/
def smeetV (a b c d : Pt2) : Int :=
  if turnV a.1 a.2 b.1 b.2 c.1 c.2 * turnV a.1 a.2 b.1 b.2 d.1 d.2 < 0 ∧ turnV c.1 c.2 d.1 d.2 a.1 a.2 * turnV c.1 c.2 d.1 d.2 b.1 b.2 < 0 then 1 else min 2 ((sharedL a b c d).length : Int)
theorem turnV_bd (ax ay bx by_ cx cy : Int) : -1 ≤ turnV ax ay bx by_ cx cy ∧ turnV ax ay bx by_ cx cy ≤ 1 := by unfold turnV cmpI; split <;> (try split) <;> omega
theorem one_mul_bd {s t : Int} (hs : -1 ≤ s ∧ s ≤ 1) (ht : -1 ≤ t ∧ t ≤ 1) : -1 ≤ s * t ∧ s * t ≤ 1 := by
  have : s = -1 ∨ s = 0 ∨ s = 1 := by omega
  rcases this with h | h | h <;> rw [h] <;> omega
set_option maxRecDepth 100000 in
set_option maxHeartbeats 4000000 in
theorem SMeetG_any {a b c d : Pt2} (ha : okP a.1 a.2 = true) (hb : okP b.1 b.2 = true) (hc : okP c.1 c.2 = true) (hd : okP d.1 d.2 = true) (w : World) :
    Calls Try.prog 31 #[.agg #[.int .i64 a.1, .int .i64 a.2], .agg #[.int .i64 b.1, .int .i64 b.2], .agg #[.int .i64 c.1, .int .i64 c.2], .agg #[.int .i64 d.1, .int .i64 d.2]] w fun e w' =>
      e = .returned (.int .i64 (smeetV a b c d)) ∧ Since w w' := by
  obtain ⟨s, HS⟩ : ∃ s, Hid (s = turnV a.1 a.2 b.1 b.2 c.1 c.2) := ⟨_, rfl⟩
  obtain ⟨t, HT⟩ : ∃ t, Hid (t = turnV a.1 a.2 b.1 b.2 d.1 d.2) := ⟨_, rfl⟩
  obtain ⟨s', HS'⟩ : ∃ s', Hid (s' = turnV c.1 c.2 d.1 d.2 a.1 a.2) := ⟨_, rfl⟩
  obtain ⟨t', HT'⟩ : ∃ t', Hid (t' = turnV c.1 c.2 d.1 d.2 b.1 b.2) := ⟨_, rfl⟩
  have HM : Hid (smeetV a b c d = if s * t < 0 ∧ s' * t' < 0 then 1 else min 2 ((sharedL a b c d).length : Int)) := by show _ = _; rw [HS.out, HT.out, HS'.out, HT'.out]; rfl
  have hst : -1 ≤ s * t ∧ s * t ≤ 1 := by rw [HS.out, HT.out]; exact one_mul_bd (turnV_bd _ _ _ _ _ _) (turnV_bd _ _ _ _ _ _)
  have hst' : -1 ≤ s' * t' ∧ s' * t' ≤ 1 := by rw [HS'.out, HT'.out]; exact one_mul_bd (turnV_bd _ _ _ _ _ _) (turnV_bd _ _ _ _ _ _)
  have hw : wrap64 (s * t) = s * t := wrap_id (by omega)
  have hw' : wrap64 (s' * t') = s' * t' := wrap_id (by omega)
  have HSH := Lib.hid (fun w => shared_any a b c d w)
  go_enter Try.func31, Try.ntmps31
  go_upto_region 1 with fail
  obtain ⟨G, HG⟩ : ∃ G, G = w.heap.size := ⟨_, rfl⟩
  rw [← HG]
  refine atW (fun w' => Since w w' ∧ Blk w' G 34 #[.int .i64 a.1, .int .i64 a.2] ∧ Blk w' (G + 1) 34 #[.int .i64 b.1, .int .i64 b.2] ∧ Blk w' (G + 1 + 1) 34 #[.int .i64 c.1, .int .i64 c.2] ∧ Blk w' (G + 1 + 1 + 1) 34 #[.int .i64 d.1, .int .i64 d.2]) ⟨((((Since.rfl_ w).alloc _).alloc _).alloc _).alloc _, (((Blk.new' HG).alloc _).alloc _).alloc _, ((Blk.new' (by simp [HG])).alloc _).alloc _, (Blk.new' (by simp [HG])).alloc _, Blk.new' (by simp [HG])⟩ ?_
  rintro w1 ⟨hs, ba, bb, bc, bd⟩
  go_cut [] from 9 to 46 (fun w' => Since w w' ∧ Blk w' G 34 #[.int .i64 a.1, .int .i64 a.2] ∧ Blk w' (G + 1) 34 #[.int .i64 b.1, .int .i64 b.2] ∧ Blk w' (G + 1 + 1) 34 #[.int .i64 c.1, .int .i64 c.2] ∧ Blk w' (G + 1 + 1 + 1) 34 #[.int .i64 d.1, .int .i64 d.2])
  case first =>
      have hw1 := hs.size
      have HGG := Lib.hid HG
      letI TT : Tgt := ⟨fun g => if g = G then some (.cells #[.int .i64 a.1, .int .i64 a.2] 34) else if g = G + 1 then some (.cells #[.int .i64 b.1, .int .i64 b.2] 34) else if g = G + 1 + 1 then some (.cells #[.int .i64 c.1, .int .i64 c.2] 34) else if g = G + 1 + 1 + 1 then some (.cells #[.int .i64 d.1, .int .i64 d.2] 34) else none⟩
      have KT : ∀ g, g < G → Tgt.T g = none := fun g h => by
        show (if _ then _ else if _ then _ else if _ then _ else if _ then _ else _) = _
        rw [if_neg (by omega), if_neg (by omega), if_neg (by omega), if_neg (by omega)]
      have KU : ∀ g, G + 1 + 1 + 1 < g → Tgt.T g = none := fun g h => by
        show (if _ then _ else if _ then _ else if _ then _ else if _ then _ else _) = _
        rw [if_neg (by omega), if_neg (by omega), if_neg (by omega), if_neg (by omega)]
      have K0 : Tgt.T (G) = some (.cells #[.int .i64 a.1, .int .i64 a.2] 34 (0, 0)) := if_pos rfl
      have K1 : Tgt.T (G + 1) = some (.cells #[.int .i64 b.1, .int .i64 b.2] 34 (0, 0)) := (if_neg (by omega)).trans (if_pos rfl)
      have K2 : Tgt.T (G + 1 + 1) = some (.cells #[.int .i64 c.1, .int .i64 c.2] 34 (0, 0)) := (if_neg (by omega)).trans ((if_neg (by omega)).trans (if_pos rfl))
      have K3 : Tgt.T (G + 1 + 1 + 1) = some (.cells #[.int .i64 d.1, .int .i64 d.2] 34 (0, 0)) := (if_neg (by omega)).trans ((if_neg (by omega)).trans ((if_neg (by omega)).trans (if_pos rfl)))
      have KB : ∀ w', SinceT w1 w' → Blk w' (G) 34 #[.int .i64 a.1, .int .i64 a.2] ∧ Blk w' (G + 1) 34 #[.int .i64 b.1, .int .i64 b.2] ∧ Blk w' (G + 1 + 1) 34 #[.int .i64 c.1, .int .i64 c.2] ∧ Blk w' (G + 1 + 1 + 1) 34 #[.int .i64 d.1, .int .i64 d.2] := fun w' h =>
        ⟨h.blkT K0 ba, h.blkT K1 bb, h.blkT K2 bc, h.blkT K3 bd⟩
      have KF : ∀ w', SinceT w1 w' → w'.cell? ⟨G, 0, none⟩ = some (.int .i64 a.1) ∧ w'.cell? ⟨G, 1, none⟩ = some (.int .i64 a.2) ∧ w'.cell? ⟨G + 1, 0, none⟩ = some (.int .i64 b.1) ∧ w'.cell? ⟨G + 1, 1, none⟩ = some (.int .i64 b.2) ∧ w'.cell? ⟨G + 1 + 1, 0, none⟩ = some (.int .i64 c.1) ∧ w'.cell? ⟨G + 1 + 1, 1, none⟩ = some (.int .i64 c.2) ∧ w'.cell? ⟨G + 1 + 1 + 1, 0, none⟩ = some (.int .i64 d.1) ∧ w'.cell? ⟨G + 1 + 1 + 1, 1, none⟩ = some (.int .i64 d.2) := fun w' h =>
        ⟨(KB w' h).1.cell 0, (KB w' h).1.cell 1, (KB w' h).2.1.cell 0, (KB w' h).2.1.cell 1, (KB w' h).2.2.1.cell 0, (KB w' h).2.2.1.cell 1, (KB w' h).2.2.2.cell 0, (KB w' h).2.2.2.cell 1⟩
      have KB := Lib.hid KB
      have KF := Lib.hid KF
      have hl4 := bd.lt
      have HS1 := Lib.hid hs
      clear ba bb bc bd hs HG
      apply region_factsT 12 (fun w' => SinceT w1 w')
      case hm => kernel_rfl
      case hB => kernel_rfl
      case hS => exact (SinceT.rfl_ w1).drew
      case hmono => exact (fun _ _ h k => h.trans k)
      case hTb => exact (fun g hg => KU g (by omega))
      case h =>
      simp only [List.take_succ_cons, List.take_zero, List.drop_succ_cons, List.drop_zero]
      apply wpO_detT
      case hw => rfl
      case h =>
        intro hFm wx hS_ hF_ K hK
        go_big_quiet_op
        first
          | exact hK _ rfl
          | (apply Exists.intro; refine ⟨fun _ => ?_, ?_⟩; (focus (first | (intro hC; have hC := KF.out _ hC.out.1; (try simp only [hC, Result.andThen]); first | exact ⟨True.intro, rfl⟩ | exact ⟨rfl, rfl⟩ | rfl))); exact hK _ rfl)
      case k =>
      simp only [Act.put, List.setIfInBounds_toArray, List.set_cons_succ, List.set_cons_zero, List.cons_append, List.nil_append]
      apply wpO_detT
      case hw => rfl
      case h =>
        intro hFm wx hS_ hF_ K hK
        go_big_quiet_op
        first
          | exact hK _ rfl
          | (apply Exists.intro; refine ⟨fun _ => ?_, ?_⟩; (focus (first | (intro hC; go_at_call 29; refine (Clamp_val ha _).mono ?_; rintro e w' ⟨rfl, hb⟩; refine ⟨rfl, ?_⟩; exact cls_callT (fun _ _ h k => h.trans k) hFm hC hb))); exact hK _ rfl)
      case k =>
      simp only [Act.put, List.setIfInBounds_toArray, List.set_cons_succ, List.set_cons_zero, List.cons_append, List.nil_append]
      apply wpO_detT
      case hw => rfl
      case h =>
        intro hFm wx hS_ hF_ K hK
        go_big_quiet_op
        first
          | exact hK _ rfl
          | (apply Exists.intro; refine ⟨fun _ => ?_, ?_⟩; (focus (first | (intro hC; have hC := KF.out _ hC.out.1; (try simp only [hC, Result.andThen]); first | exact ⟨True.intro, rfl⟩ | exact ⟨rfl, rfl⟩ | rfl))); exact hK _ rfl)
      case k =>
      simp only [Act.put, List.setIfInBounds_toArray, List.set_cons_succ, List.set_cons_zero, List.cons_append, List.nil_append]
      apply wpO_detT
      case hw => rfl
      case h =>
        intro hFm wx hS_ hF_ K hK
        go_big_quiet_op
        first
          | exact hK _ rfl
          | (apply Exists.intro; refine ⟨fun _ => ?_, ?_⟩; (focus (first | (intro hC; go_at_call 29; refine (Clamp_val hb _).mono ?_; rintro e w' ⟨rfl, hb⟩; refine ⟨rfl, ?_⟩; exact cls_callT (fun _ _ h k => h.trans k) hFm hC hb))); exact hK _ rfl)
      case k =>
      simp only [Act.put, List.setIfInBounds_toArray, List.set_cons_succ, List.set_cons_zero, List.cons_append, List.nil_append]
      apply wpO_detT
      case hw => rfl
      case h =>
        intro hFm wx hS_ hF_ K hK
        go_big_quiet_op
        first
          | exact hK _ rfl
          | (apply Exists.intro; refine ⟨fun _ => ?_, ?_⟩; (focus (first | (intro hC; have hC := KF.out _ hC.out.1; (try simp only [hC, Result.andThen]); first | exact ⟨True.intro, rfl⟩ | exact ⟨rfl, rfl⟩ | rfl))); exact hK _ rfl)
      case k =>
      simp only [Act.put, List.setIfInBounds_toArray, List.set_cons_succ, List.set_cons_zero, List.cons_append, List.nil_append]
      apply wpO_detT
      case hw => rfl
      case h =>
        intro hFm wx hS_ hF_ K hK
        go_big_quiet_op
        first
          | exact hK _ rfl
          | (apply Exists.intro; refine ⟨fun _ => ?_, ?_⟩; (focus (first | (intro hC; go_at_call 29; refine (Clamp_val hc _).mono ?_; rintro e w' ⟨rfl, hb⟩; refine ⟨rfl, ?_⟩; exact cls_callT (fun _ _ h k => h.trans k) hFm hC hb))); exact hK _ rfl)
      case k =>
      simp only [Act.put, List.setIfInBounds_toArray, List.set_cons_succ, List.set_cons_zero, List.cons_append, List.nil_append]
      apply wpO_detT
      case hw => rfl
      case h =>
        intro hFm wx hS_ hF_ K hK
        go_big_quiet_op
        first
          | exact hK _ rfl
          | (apply Exists.intro; refine ⟨fun _ => ?_, ?_⟩; (focus (first | (intro hC; have hC := KF.out _ hC.out.1; (try simp only [hC, Result.andThen]); first | exact ⟨True.intro, rfl⟩ | exact ⟨rfl, rfl⟩ | rfl))); exact hK _ rfl)
      case k =>
      simp only [Act.put, List.setIfInBounds_toArray, List.set_cons_succ, List.set_cons_zero, List.cons_append, List.nil_append]
      apply wpO_detT
      case hw => rfl
      case h =>
        intro hFm wx hS_ hF_ K hK
        go_big_quiet_op
        first
          | exact hK _ rfl
          | (apply Exists.intro; refine ⟨fun _ => ?_, ?_⟩; (focus (first | (intro hC; go_at_call 29; refine (Clamp_val hd _).mono ?_; rintro e w' ⟨rfl, hb⟩; refine ⟨rfl, ?_⟩; exact cls_callT (fun _ _ h k => h.trans k) hFm hC hb))); exact hK _ rfl)
      case k =>
      simp only [Act.put, List.setIfInBounds_toArray, List.set_cons_succ, List.set_cons_zero, List.cons_append, List.nil_append]
      apply wpO_anyT (R := (fun _ _ => True))
      case hR => exact (fun _ _ _ h _ => h)
      case hw => rfl
      case h =>
        intro wx hS_ hF_
        unfold runVT
        (have hb := (KB.out _ hS_).1; have c0 := hb.cell 0; have c1 := hb.cell 1; have f0 := hb.frozen 0; have f1 := hb.frozen 1; simp only [List.getElem?_toArray, List.getElem?_cons_zero, List.getElem?_cons_succ] at c0 c1; have hr := Lib.hid (store2_T hb K0).2; simp [go_sem, c0, c1, f0, f1, cSetS, cSetO]; exact hr.out)
      case k =>
      intro v0
      simp only [Act.put, List.setIfInBounds_toArray, List.set_cons_succ, List.set_cons_zero, List.cons_append, List.nil_append]
      apply wpO_anyT (R := (fun _ _ => True))
      case hR => exact (fun _ _ _ h _ => h)
      case hw => rfl
      case h =>
        intro wx hS_ hF_
        unfold runVT
        (have hb := (KB.out _ hS_).2.1; have c0 := hb.cell 0; have c1 := hb.cell 1; have f0 := hb.frozen 0; have f1 := hb.frozen 1; simp only [List.getElem?_toArray, List.getElem?_cons_zero, List.getElem?_cons_succ] at c0 c1; have hr := Lib.hid (store2_T hb K1).2; simp [go_sem, c0, c1, f0, f1, cSetS, cSetO]; exact hr.out)
      case k =>
      intro v1
      simp only [Act.put, List.setIfInBounds_toArray, List.set_cons_succ, List.set_cons_zero, List.cons_append, List.nil_append]
      apply wpO_anyT (R := (fun _ _ => True))
      case hR => exact (fun _ _ _ h _ => h)
      case hw => rfl
      case h =>
        intro wx hS_ hF_
        unfold runVT
        (have hb := (KB.out _ hS_).2.2.1; have c0 := hb.cell 0; have c1 := hb.cell 1; have f0 := hb.frozen 0; have f1 := hb.frozen 1; simp only [List.getElem?_toArray, List.getElem?_cons_zero, List.getElem?_cons_succ] at c0 c1; have hr := Lib.hid (store2_T hb K2).2; simp [go_sem, c0, c1, f0, f1, cSetS, cSetO]; exact hr.out)
      case k =>
      intro v2
      simp only [Act.put, List.setIfInBounds_toArray, List.set_cons_succ, List.set_cons_zero, List.cons_append, List.nil_append]
      apply wpO_anyT (R := (fun _ _ => True))
      case hR => exact (fun _ _ _ h _ => h)
      case hw => rfl
      case h =>
        intro wx hS_ hF_
        unfold runVT
        (have hb := (KB.out _ hS_).2.2.2; have c0 := hb.cell 0; have c1 := hb.cell 1; have f0 := hb.frozen 0; have f1 := hb.frozen 1; simp only [List.getElem?_toArray, List.getElem?_cons_zero, List.getElem?_cons_succ] at c0 c1; have hr := Lib.hid (store2_T hb K3).2; simp [go_sem, c0, c1, f0, f1, cSetS, cSetO]; exact hr.out)
      case k =>
      intro v3
      simp only [Act.put, List.setIfInBounds_toArray, List.set_cons_succ, List.set_cons_zero, List.cons_append, List.nil_append]
      refine wpO_nilT ?_
      intro w5 hS hF hB
      (try simp [allF] at hF)
      (try simp [List.pairwise_cons] at hB)
      go_wp2_with fail
      go_meet
      exact ⟨hS.since HS1.out (fun g hg => KT g (by have := HGG.out; omega)), KB.out _ hS⟩
  case rest =>
    obtain ⟨hs5, hb5⟩ := hcut
    obtain ⟨w5, rfl⟩ : ∃ w5, w5 = wc := ⟨_, rfl⟩
    have HS5 := Lib.hid hs5
    clear hs ba bb bc bd hs5
    have a0 : w5.cell? ⟨G, 0, none⟩ = some (.int .i64 a.1) := hb5.1.cell 0
    have a1 : w5.cell? ⟨G, 1, none⟩ = some (.int .i64 a.2) := hb5.1.cell 1
    have b0 : w5.cell? ⟨G + 1, 0, none⟩ = some (.int .i64 b.1) := hb5.2.1.cell 0
    have b1 : w5.cell? ⟨G + 1, 1, none⟩ = some (.int .i64 b.2) := hb5.2.1.cell 1
    have c0 : w5.cell? ⟨G + 1 + 1, 0, none⟩ = some (.int .i64 c.1) := hb5.2.2.1.cell 0
    have c1 : w5.cell? ⟨G + 1 + 1, 1, none⟩ = some (.int .i64 c.2) := hb5.2.2.1.cell 1
    have d0 : w5.cell? ⟨G + 1 + 1 + 1, 0, none⟩ = some (.int .i64 d.1) := hb5.2.2.2.cell 0
    have d1 : w5.cell? ⟨G + 1 + 1 + 1, 1, none⟩ = some (.int .i64 d.2) := hb5.2.2.2.cell 1
    clear hb5 HG
    have HC1 := Lib.hid (fun w => Turn_any a.1 a.2 b.1 b.2 c.1 c.2 w)
    have HC2 := Lib.hid (fun w => Turn_any a.1 a.2 b.1 b.2 d.1 d.2 w)
    have HC3 := Lib.hid (fun w => Turn_any c.1 c.2 d.1 d.2 a.1 a.2 w)
    have HC4 := Lib.hid (fun w => Turn_any c.1 c.2 d.1 d.2 b.1 b.2 w)
    rw [← HS.out] at HC1
    rw [← HT.out] at HC2
    rw [← HS'.out] at HC3
    rw [← HT'.out] at HC4
    go_upto_region 2 with fail
    by_cases hn : s * t < 0
    · have hg : decide (s * t < 0) = true := by rw [decide_eq_true_eq]; exact hn
      by_cases hn2 : s' * t' < 0
      · have hg2 : decide (s' * t' < 0) = true := by rw [decide_eq_true_eq]; exact hn2
        apply region_facts 22 (fun w' => w'.cell? ⟨G, 0, none⟩ = some (.int .i64 a.1) ∧ w'.cell? ⟨G, 1, none⟩ = some (.int .i64 a.2) ∧ w'.cell? ⟨G + 1, 0, none⟩ = some (.int .i64 b.1) ∧ w'.cell? ⟨G + 1, 1, none⟩ = some (.int .i64 b.2) ∧ w'.cell? ⟨G + 1 + 1, 0, none⟩ = some (.int .i64 c.1) ∧ w'.cell? ⟨G + 1 + 1, 1, none⟩ = some (.int .i64 c.2) ∧ w'.cell? ⟨G + 1 + 1 + 1, 0, none⟩ = some (.int .i64 d.1) ∧ w'.cell? ⟨G + 1 + 1 + 1, 1, none⟩ = some (.int .i64 d.2) ∧ Since w5 w')
        case hm => kernel_rfl
        case hB => kernel_rfl
        case hS => exact ⟨a0, a1, b0, b1, c0, c1, d0, d1, (Since.rfl_ w5).drew⟩
        case h =>
        simp only [List.take_succ_cons, List.take_zero, List.drop_succ_cons, List.drop_zero]
        apply wpO_det
        case hw => rfl
        case h =>
          intro hFm wx hS_ hF_ K hK
          go_big_quiet_op
          first
            | exact hK _ rfl
            | (apply Exists.intro; refine ⟨fun _ => ?_, ?_⟩; (focus (first | (intro hC; have hC := hC.out; (try simp only [hC, Result.andThen]); first | exact ⟨True.intro, rfl⟩ | exact ⟨rfl, rfl⟩ | rfl))); exact hK _ rfl)
        case k =>
        simp only [Act.put, List.setIfInBounds_toArray, List.set_cons_succ, List.set_cons_zero, List.cons_append, List.nil_append]
        apply wpO_det
        case hw => rfl
        case h =>
          intro hFm wx hS_ hF_ K hK
          go_big_quiet_op
          first
            | exact hK _ rfl
            | (apply Exists.intro; refine ⟨fun _ => ?_, ?_⟩; (focus (first | (intro hC; have hC := hC.out; (try simp only [hC, Result.andThen]); first | exact ⟨True.intro, rfl⟩ | exact ⟨rfl, rfl⟩ | rfl))); exact hK _ rfl)
        case k =>
        simp only [Act.put, List.setIfInBounds_toArray, List.set_cons_succ, List.set_cons_zero, List.cons_append, List.nil_append]
        apply wpO_det
        case hw => rfl
        case h =>
          intro hFm wx hS_ hF_ K hK
          go_big_quiet_op
          first
            | exact hK _ rfl
            | (apply Exists.intro; refine ⟨fun _ => ?_, ?_⟩; (focus (first | (intro hC; have hC := hC.out; (try simp only [hC, Result.andThen]); first | exact ⟨True.intro, rfl⟩ | exact ⟨rfl, rfl⟩ | rfl))); exact hK _ rfl)
        case k =>
        simp only [Act.put, List.setIfInBounds_toArray, List.set_cons_succ, List.set_cons_zero, List.cons_append, List.nil_append]
        apply wpO_det
        case hw => rfl
        case h =>
          intro hFm wx hS_ hF_ K hK
          go_big_quiet_op
          first
            | exact hK _ rfl
            | (apply Exists.intro; refine ⟨fun _ => ?_, ?_⟩; (focus (first | (intro hC; go_at_call 37; refine (HC1.out _).mono ?_; rintro e w' ⟨rfl, hb⟩; refine ⟨rfl, ?_⟩; exact cls_call hFm hC hb))); exact hK _ rfl)
        case k =>
        simp only [Act.put, List.setIfInBounds_toArray, List.set_cons_succ, List.set_cons_zero, List.cons_append, List.nil_append]
        apply wpO_det
        case hw => rfl
        case h =>
          intro hFm wx hS_ hF_ K hK
          go_big_quiet_op
          first
            | exact hK _ rfl
            | (apply Exists.intro; refine ⟨fun _ => ?_, ?_⟩; (focus (first | (intro hC; have hC := hC.out; (try simp only [hC, Result.andThen]); first | exact ⟨True.intro, rfl⟩ | exact ⟨rfl, rfl⟩ | rfl))); exact hK _ rfl)
        case k =>
        simp only [Act.put, List.setIfInBounds_toArray, List.set_cons_succ, List.set_cons_zero, List.cons_append, List.nil_append]
        apply wpO_det
        case hw => rfl
        case h =>
          intro hFm wx hS_ hF_ K hK
          go_big_quiet_op
          first
            | exact hK _ rfl
            | (apply Exists.intro; refine ⟨fun _ => ?_, ?_⟩; (focus (first | (intro hC; have hC := hC.out; (try simp only [hC, Result.andThen]); first | exact ⟨True.intro, rfl⟩ | exact ⟨rfl, rfl⟩ | rfl))); exact hK _ rfl)
        case k =>
        simp only [Act.put, List.setIfInBounds_toArray, List.set_cons_succ, List.set_cons_zero, List.cons_append, List.nil_append]
        apply wpO_det
        case hw => rfl
        case h =>
          intro hFm wx hS_ hF_ K hK
          go_big_quiet_op
          first
            | exact hK _ rfl
            | (apply Exists.intro; refine ⟨fun _ => ?_, ?_⟩; (focus (first | (intro hC; have hC := hC.out; (try simp only [hC, Result.andThen]); first | exact ⟨True.intro, rfl⟩ | exact ⟨rfl, rfl⟩ | rfl))); exact hK _ rfl)
        case k =>
        simp only [Act.put, List.setIfInBounds_toArray, List.set_cons_succ, List.set_cons_zero, List.cons_append, List.nil_append]
        apply wpO_det
        case hw => rfl
        case h =>
          intro hFm wx hS_ hF_ K hK
          go_big_quiet_op
          first
            | exact hK _ rfl
            | (apply Exists.intro; refine ⟨fun _ => ?_, ?_⟩; (focus (first | (intro hC; go_at_call 37; refine (HC2.out _).mono ?_; rintro e w' ⟨rfl, hb⟩; refine ⟨rfl, ?_⟩; exact cls_call hFm hC hb))); exact hK _ rfl)
        case k =>
        simp only [Act.put, List.setIfInBounds_toArray, List.set_cons_succ, List.set_cons_zero, List.cons_append, List.nil_append]
        apply wpO_det
        case hw => rfl
        case h =>
          intro hFm wx hS_ hF_ K hK
          go_big_quiet_op
          first
            | exact hK _ rfl
            | (apply Exists.intro; refine ⟨fun _ => ?_, ?_⟩; (focus (first | (intro hC; have hC := hC.out; (try simp only [hC, Result.andThen]); first | exact ⟨True.intro, rfl⟩ | exact ⟨rfl, rfl⟩ | rfl))); exact hK _ rfl)
        case k =>
        simp only [Act.put, List.setIfInBounds_toArray, List.set_cons_succ, List.set_cons_zero, List.cons_append, List.nil_append]
        apply wpO_det
        case hw => rfl
        case h =>
          intro hFm wx hS_ hF_ K hK
          go_big_quiet_op
          first
            | exact hK _ rfl
            | (apply Exists.intro; refine ⟨fun _ => ?_, ?_⟩; (focus (first | (intro hC; have hC := hC.out; (try simp only [hC, Result.andThen]); first | exact ⟨True.intro, rfl⟩ | exact ⟨rfl, rfl⟩ | rfl))); exact hK _ rfl)
        case k =>
        simp only [Act.put, List.setIfInBounds_toArray, List.set_cons_succ, List.set_cons_zero, List.cons_append, List.nil_append]
        apply wpO_det
        case hw => rfl
        case h =>
          intro hFm wx hS_ hF_ K hK
          go_big_quiet_op
          first
            | exact hK _ rfl
            | (apply Exists.intro; refine ⟨fun _ => ?_, ?_⟩; (focus (first | (intro hC; have hC := hC.out; (try simp only [hC, Result.andThen]); first | exact ⟨True.intro, rfl⟩ | exact ⟨rfl, rfl⟩ | rfl))); exact hK _ rfl)
        case k =>
        simp only [Act.put, List.setIfInBounds_toArray, List.set_cons_succ, List.set_cons_zero, List.cons_append, List.nil_append]
        apply wpO_det
        case hw => rfl
        case h =>
          intro hFm wx hS_ hF_ K hK
          go_big_quiet_op
          first
            | exact hK _ rfl
            | (apply Exists.intro; refine ⟨fun _ => ?_, ?_⟩; (focus (first | (intro hC; have hC := hC.out; (try simp only [hC, Result.andThen]); first | exact ⟨True.intro, rfl⟩ | exact ⟨rfl, rfl⟩ | rfl))); exact hK _ rfl)
        case k =>
        simp only [Act.put, List.setIfInBounds_toArray, List.set_cons_succ, List.set_cons_zero, List.cons_append, List.nil_append]
        apply wpO_det
        case hw => rfl
        case h =>
          intro hFm wx hS_ hF_ K hK
          go_big_quiet_op
          first
            | exact hK _ rfl
            | (apply Exists.intro; refine ⟨fun _ => ?_, ?_⟩; (focus (first | (intro hC; have hC := hC.out; (try simp only [hC, Result.andThen]); first | exact ⟨True.intro, rfl⟩ | exact ⟨rfl, rfl⟩ | rfl))); exact hK _ rfl)
        case k =>
        simp only [Act.put, List.setIfInBounds_toArray, List.set_cons_succ, List.set_cons_zero, List.cons_append, List.nil_append]
        apply wpO_det
        case hw => rfl
        case h =>
          intro hFm wx hS_ hF_ K hK
          go_big_quiet_op
          first
            | exact hK _ rfl
            | (apply Exists.intro; refine ⟨fun _ => ?_, ?_⟩; (focus (first | (intro hC; have hC := hC.out; (try simp only [hC, Result.andThen]); first | exact ⟨True.intro, rfl⟩ | exact ⟨rfl, rfl⟩ | rfl))); exact hK _ rfl)
        case k =>
        simp only [Act.put, List.setIfInBounds_toArray, List.set_cons_succ, List.set_cons_zero, List.cons_append, List.nil_append]
        apply wpO_det
        case hw => rfl
        case h =>
          intro hFm wx hS_ hF_ K hK
          go_big_quiet_op
          first
            | exact hK _ rfl
            | (apply Exists.intro; refine ⟨fun _ => ?_, ?_⟩; (focus (first | (intro hC; go_at_call 37; refine (HC3.out _).mono ?_; rintro e w' ⟨rfl, hb⟩; refine ⟨rfl, ?_⟩; exact cls_call hFm hC hb))); exact hK _ rfl)
        case k =>
        simp only [Act.put, List.setIfInBounds_toArray, List.set_cons_succ, List.set_cons_zero, List.cons_append, List.nil_append]
        apply wpO_det
        case hw => rfl
        case h =>
          intro hFm wx hS_ hF_ K hK
          go_big_quiet_op
          first
            | exact hK _ rfl
            | (apply Exists.intro; refine ⟨fun _ => ?_, ?_⟩; (focus (first | (intro hC; have hC := hC.out; (try simp only [hC, Result.andThen]); first | exact ⟨True.intro, rfl⟩ | exact ⟨rfl, rfl⟩ | rfl))); exact hK _ rfl)
        case k =>
        simp only [Act.put, List.setIfInBounds_toArray, List.set_cons_succ, List.set_cons_zero, List.cons_append, List.nil_append]
        apply wpO_det
        case hw => rfl
        case h =>
          intro hFm wx hS_ hF_ K hK
          go_big_quiet_op
          first
            | exact hK _ rfl
            | (apply Exists.intro; refine ⟨fun _ => ?_, ?_⟩; (focus (first | (intro hC; have hC := hC.out; (try simp only [hC, Result.andThen]); first | exact ⟨True.intro, rfl⟩ | exact ⟨rfl, rfl⟩ | rfl))); exact hK _ rfl)
        case k =>
        simp only [Act.put, List.setIfInBounds_toArray, List.set_cons_succ, List.set_cons_zero, List.cons_append, List.nil_append]
        apply wpO_det
        case hw => rfl
        case h =>
          intro hFm wx hS_ hF_ K hK
          go_big_quiet_op
          first
            | exact hK _ rfl
            | (apply Exists.intro; refine ⟨fun _ => ?_, ?_⟩; (focus (first | (intro hC; have hC := hC.out; (try simp only [hC, Result.andThen]); first | exact ⟨True.intro, rfl⟩ | exact ⟨rfl, rfl⟩ | rfl))); exact hK _ rfl)
        case k =>
        simp only [Act.put, List.setIfInBounds_toArray, List.set_cons_succ, List.set_cons_zero, List.cons_append, List.nil_append]
        apply wpO_det
        case hw => rfl
        case h =>
          intro hFm wx hS_ hF_ K hK
          go_big_quiet_op
          first
            | exact hK _ rfl
            | (apply Exists.intro; refine ⟨fun _ => ?_, ?_⟩; (focus (first | (intro hC; go_at_call 37; refine (HC4.out _).mono ?_; rintro e w' ⟨rfl, hb⟩; refine ⟨rfl, ?_⟩; exact cls_call hFm hC hb))); exact hK _ rfl)
        case k =>
        simp only [Act.put, List.setIfInBounds_toArray, List.set_cons_succ, List.set_cons_zero, List.cons_append, List.nil_append]
        apply wpO_det
        case hw => rfl
        case h =>
          intro hFm wx hS_ hF_ K hK
          go_big_quiet_op
          first
            | exact hK _ rfl
            | (apply Exists.intro; refine ⟨fun _ => ?_, ?_⟩; (focus (first | (intro hC; have hC := hC.out; (try simp only [hC, Result.andThen]); first | exact ⟨True.intro, rfl⟩ | exact ⟨rfl, rfl⟩ | rfl))); exact hK _ rfl)
        case k =>
        simp only [Act.put, List.setIfInBounds_toArray, List.set_cons_succ, List.set_cons_zero, List.cons_append, List.nil_append]
        apply wpO_det
        case hw => rfl
        case h =>
          intro hFm wx hS_ hF_ K hK
          go_big_quiet_op
          first
            | exact hK _ rfl
            | (apply Exists.intro; refine ⟨fun _ => ?_, ?_⟩; (focus (first | (intro hC; have hC := hC.out; (try simp only [hC, Result.andThen]); first | exact ⟨True.intro, rfl⟩ | exact ⟨rfl, rfl⟩ | rfl))); exact hK _ rfl)
        case k =>
        simp only [Act.put, List.setIfInBounds_toArray, List.set_cons_succ, List.set_cons_zero, List.cons_append, List.nil_append]
        apply wpO_det
        case hw => rfl
        case h =>
          intro hFm wx hS_ hF_ K hK
          go_big_quiet_op
          first
            | exact hK _ rfl
            | (apply Exists.intro; refine ⟨fun _ => ?_, ?_⟩; (focus (first | (intro hC; have hC := hC.out; (try simp only [hC, Result.andThen]); first | exact ⟨True.intro, rfl⟩ | exact ⟨rfl, rfl⟩ | rfl))); exact hK _ rfl)
        case k =>
        simp only [Act.put, List.setIfInBounds_toArray, List.set_cons_succ, List.set_cons_zero, List.cons_append, List.nil_append]
        refine wpO_nil ?_
        intro w6 hS hF hB
        (try simp [allF] at hF)
        (try simp [List.pairwise_cons] at hB)
        obtain ⟨a0, a1, b0, b1, c0, c1, d0, d1, hs⟩ := hS
        have HS6 := Lib.hid (HS5.out.trans hs)
        clear hs
        go_wp2_with fail
        go_ret
        exact ⟨ret_int (by rw [HM.out, if_pos (by constructor <;> omega)]), HS6.out⟩
      · have hg2 : decide (s' * t' < 0) = false := by rw [decide_eq_false_iff_not]; exact hn2
        apply region_facts 22 (fun w' => w'.cell? ⟨G, 0, none⟩ = some (.int .i64 a.1) ∧ w'.cell? ⟨G, 1, none⟩ = some (.int .i64 a.2) ∧ w'.cell? ⟨G + 1, 0, none⟩ = some (.int .i64 b.1) ∧ w'.cell? ⟨G + 1, 1, none⟩ = some (.int .i64 b.2) ∧ w'.cell? ⟨G + 1 + 1, 0, none⟩ = some (.int .i64 c.1) ∧ w'.cell? ⟨G + 1 + 1, 1, none⟩ = some (.int .i64 c.2) ∧ w'.cell? ⟨G + 1 + 1 + 1, 0, none⟩ = some (.int .i64 d.1) ∧ w'.cell? ⟨G + 1 + 1 + 1, 1, none⟩ = some (.int .i64 d.2) ∧ Since w5 w')
        case hm => kernel_rfl
        case hB => kernel_rfl
        case hS => exact ⟨a0, a1, b0, b1, c0, c1, d0, d1, (Since.rfl_ w5).drew⟩
        case h =>
        simp only [List.take_succ_cons, List.take_zero, List.drop_succ_cons, List.drop_zero]
        apply wpO_det
        case hw => rfl
        case h =>
          intro hFm wx hS_ hF_ K hK
          go_big_quiet_op
          first
            | exact hK _ rfl
            | (apply Exists.intro; refine ⟨fun _ => ?_, ?_⟩; (focus (first | (intro hC; have hC := hC.out; (try simp only [hC, Result.andThen]); first | exact ⟨True.intro, rfl⟩ | exact ⟨rfl, rfl⟩ | rfl))); exact hK _ rfl)
        case k =>
        simp only [Act.put, List.setIfInBounds_toArray, List.set_cons_succ, List.set_cons_zero, List.cons_append, List.nil_append]
        apply wpO_det
        case hw => rfl
        case h =>
          intro hFm wx hS_ hF_ K hK
          go_big_quiet_op
          first
            | exact hK _ rfl
            | (apply Exists.intro; refine ⟨fun _ => ?_, ?_⟩; (focus (first | (intro hC; have hC := hC.out; (try simp only [hC, Result.andThen]); first | exact ⟨True.intro, rfl⟩ | exact ⟨rfl, rfl⟩ | rfl))); exact hK _ rfl)
        case k =>
        simp only [Act.put, List.setIfInBounds_toArray, List.set_cons_succ, List.set_cons_zero, List.cons_append, List.nil_append]
        apply wpO_det
        case hw => rfl
        case h =>
          intro hFm wx hS_ hF_ K hK
          go_big_quiet_op
          first
            | exact hK _ rfl
            | (apply Exists.intro; refine ⟨fun _ => ?_, ?_⟩; (focus (first | (intro hC; have hC := hC.out; (try simp only [hC, Result.andThen]); first | exact ⟨True.intro, rfl⟩ | exact ⟨rfl, rfl⟩ | rfl))); exact hK _ rfl)
        case k =>
        simp only [Act.put, List.setIfInBounds_toArray, List.set_cons_succ, List.set_cons_zero, List.cons_append, List.nil_append]
        apply wpO_det
        case hw => rfl
        case h =>
          intro hFm wx hS_ hF_ K hK
          go_big_quiet_op
          first
            | exact hK _ rfl
            | (apply Exists.intro; refine ⟨fun _ => ?_, ?_⟩; (focus (first | (intro hC; go_at_call 37; refine (HC1.out _).mono ?_; rintro e w' ⟨rfl, hb⟩; refine ⟨rfl, ?_⟩; exact cls_call hFm hC hb))); exact hK _ rfl)
        case k =>
        simp only [Act.put, List.setIfInBounds_toArray, List.set_cons_succ, List.set_cons_zero, List.cons_append, List.nil_append]
        apply wpO_det
        case hw => rfl
        case h =>
          intro hFm wx hS_ hF_ K hK
          go_big_quiet_op
          first
            | exact hK _ rfl
            | (apply Exists.intro; refine ⟨fun _ => ?_, ?_⟩; (focus (first | (intro hC; have hC := hC.out; (try simp only [hC, Result.andThen]); first | exact ⟨True.intro, rfl⟩ | exact ⟨rfl, rfl⟩ | rfl))); exact hK _ rfl)
        case k =>
        simp only [Act.put, List.setIfInBounds_toArray, List.set_cons_succ, List.set_cons_zero, List.cons_append, List.nil_append]
        apply wpO_det
        case hw => rfl
        case h =>
          intro hFm wx hS_ hF_ K hK
          go_big_quiet_op
          first
            | exact hK _ rfl
            | (apply Exists.intro; refine ⟨fun _ => ?_, ?_⟩; (focus (first | (intro hC; have hC := hC.out; (try simp only [hC, Result.andThen]); first | exact ⟨True.intro, rfl⟩ | exact ⟨rfl, rfl⟩ | rfl))); exact hK _ rfl)
        case k =>
        simp only [Act.put, List.setIfInBounds_toArray, List.set_cons_succ, List.set_cons_zero, List.cons_append, List.nil_append]
        apply wpO_det
        case hw => rfl
        case h =>
          intro hFm wx hS_ hF_ K hK
          go_big_quiet_op
          first
            | exact hK _ rfl
            | (apply Exists.intro; refine ⟨fun _ => ?_, ?_⟩; (focus (first | (intro hC; have hC := hC.out; (try simp only [hC, Result.andThen]); first | exact ⟨True.intro, rfl⟩ | exact ⟨rfl, rfl⟩ | rfl))); exact hK _ rfl)
        case k =>
        simp only [Act.put, List.setIfInBounds_toArray, List.set_cons_succ, List.set_cons_zero, List.cons_append, List.nil_append]
        apply wpO_det
        case hw => rfl
        case h =>
          intro hFm wx hS_ hF_ K hK
          go_big_quiet_op
          first
            | exact hK _ rfl
            | (apply Exists.intro; refine ⟨fun _ => ?_, ?_⟩; (focus (first | (intro hC; go_at_call 37; refine (HC2.out _).mono ?_; rintro e w' ⟨rfl, hb⟩; refine ⟨rfl, ?_⟩; exact cls_call hFm hC hb))); exact hK _ rfl)
        case k =>
        simp only [Act.put, List.setIfInBounds_toArray, List.set_cons_succ, List.set_cons_zero, List.cons_append, List.nil_append]
        apply wpO_det
        case hw => rfl
        case h =>
          intro hFm wx hS_ hF_ K hK
          go_big_quiet_op
          first
            | exact hK _ rfl
            | (apply Exists.intro; refine ⟨fun _ => ?_, ?_⟩; (focus (first | (intro hC; have hC := hC.out; (try simp only [hC, Result.andThen]); first | exact ⟨True.intro, rfl⟩ | exact ⟨rfl, rfl⟩ | rfl))); exact hK _ rfl)
        case k =>
        simp only [Act.put, List.setIfInBounds_toArray, List.set_cons_succ, List.set_cons_zero, List.cons_append, List.nil_append]
        apply wpO_det
        case hw => rfl
        case h =>
          intro hFm wx hS_ hF_ K hK
          go_big_quiet_op
          first
            | exact hK _ rfl
            | (apply Exists.intro; refine ⟨fun _ => ?_, ?_⟩; (focus (first | (intro hC; have hC := hC.out; (try simp only [hC, Result.andThen]); first | exact ⟨True.intro, rfl⟩ | exact ⟨rfl, rfl⟩ | rfl))); exact hK _ rfl)
        case k =>
        simp only [Act.put, List.setIfInBounds_toArray, List.set_cons_succ, List.set_cons_zero, List.cons_append, List.nil_append]
        apply wpO_det
        case hw => rfl
        case h =>
          intro hFm wx hS_ hF_ K hK
          go_big_quiet_op
          first
            | exact hK _ rfl
            | (apply Exists.intro; refine ⟨fun _ => ?_, ?_⟩; (focus (first | (intro hC; have hC := hC.out; (try simp only [hC, Result.andThen]); first | exact ⟨True.intro, rfl⟩ | exact ⟨rfl, rfl⟩ | rfl))); exact hK _ rfl)
        case k =>
        simp only [Act.put, List.setIfInBounds_toArray, List.set_cons_succ, List.set_cons_zero, List.cons_append, List.nil_append]
        apply wpO_det
        case hw => rfl
        case h =>
          intro hFm wx hS_ hF_ K hK
          go_big_quiet_op
          first
            | exact hK _ rfl
            | (apply Exists.intro; refine ⟨fun _ => ?_, ?_⟩; (focus (first | (intro hC; have hC := hC.out; (try simp only [hC, Result.andThen]); first | exact ⟨True.intro, rfl⟩ | exact ⟨rfl, rfl⟩ | rfl))); exact hK _ rfl)
        case k =>
        simp only [Act.put, List.setIfInBounds_toArray, List.set_cons_succ, List.set_cons_zero, List.cons_append, List.nil_append]
        apply wpO_det
        case hw => rfl
        case h =>
          intro hFm wx hS_ hF_ K hK
          go_big_quiet_op
          first
            | exact hK _ rfl
            | (apply Exists.intro; refine ⟨fun _ => ?_, ?_⟩; (focus (first | (intro hC; have hC := hC.out; (try simp only [hC, Result.andThen]); first | exact ⟨True.intro, rfl⟩ | exact ⟨rfl, rfl⟩ | rfl))); exact hK _ rfl)
        case k =>
        simp only [Act.put, List.setIfInBounds_toArray, List.set_cons_succ, List.set_cons_zero, List.cons_append, List.nil_append]
        apply wpO_det
        case hw => rfl
        case h =>
          intro hFm wx hS_ hF_ K hK
          go_big_quiet_op
          first
            | exact hK _ rfl
            | (apply Exists.intro; refine ⟨fun _ => ?_, ?_⟩; (focus (first | (intro hC; have hC := hC.out; (try simp only [hC, Result.andThen]); first | exact ⟨True.intro, rfl⟩ | exact ⟨rfl, rfl⟩ | rfl))); exact hK _ rfl)
        case k =>
        simp only [Act.put, List.setIfInBounds_toArray, List.set_cons_succ, List.set_cons_zero, List.cons_append, List.nil_append]
        apply wpO_det
        case hw => rfl
        case h =>
          intro hFm wx hS_ hF_ K hK
          go_big_quiet_op
          first
            | exact hK _ rfl
            | (apply Exists.intro; refine ⟨fun _ => ?_, ?_⟩; (focus (first | (intro hC; go_at_call 37; refine (HC3.out _).mono ?_; rintro e w' ⟨rfl, hb⟩; refine ⟨rfl, ?_⟩; exact cls_call hFm hC hb))); exact hK _ rfl)
        case k =>
        simp only [Act.put, List.setIfInBounds_toArray, List.set_cons_succ, List.set_cons_zero, List.cons_append, List.nil_append]
        apply wpO_det
        case hw => rfl
        case h =>
          intro hFm wx hS_ hF_ K hK
          go_big_quiet_op
          first
            | exact hK _ rfl
            | (apply Exists.intro; refine ⟨fun _ => ?_, ?_⟩; (focus (first | (intro hC; have hC := hC.out; (try simp only [hC, Result.andThen]); first | exact ⟨True.intro, rfl⟩ | exact ⟨rfl, rfl⟩ | rfl))); exact hK _ rfl)
        case k =>
        simp only [Act.put, List.setIfInBounds_toArray, List.set_cons_succ, List.set_cons_zero, List.cons_append, List.nil_append]
        apply wpO_det
        case hw => rfl
        case h =>
          intro hFm wx hS_ hF_ K hK
          go_big_quiet_op
          first
            | exact hK _ rfl
            | (apply Exists.intro; refine ⟨fun _ => ?_, ?_⟩; (focus (first | (intro hC; have hC := hC.out; (try simp only [hC, Result.andThen]); first | exact ⟨True.intro, rfl⟩ | exact ⟨rfl, rfl⟩ | rfl))); exact hK _ rfl)
        case k =>
        simp only [Act.put, List.setIfInBounds_toArray, List.set_cons_succ, List.set_cons_zero, List.cons_append, List.nil_append]
        apply wpO_det
        case hw => rfl
        case h =>
          intro hFm wx hS_ hF_ K hK
          go_big_quiet_op
          first
            | exact hK _ rfl
            | (apply Exists.intro; refine ⟨fun _ => ?_, ?_⟩; (focus (first | (intro hC; have hC := hC.out; (try simp only [hC, Result.andThen]); first | exact ⟨True.intro, rfl⟩ | exact ⟨rfl, rfl⟩ | rfl))); exact hK _ rfl)
        case k =>
        simp only [Act.put, List.setIfInBounds_toArray, List.set_cons_succ, List.set_cons_zero, List.cons_append, List.nil_append]
        apply wpO_det
        case hw => rfl
        case h =>
          intro hFm wx hS_ hF_ K hK
          go_big_quiet_op
          first
            | exact hK _ rfl
            | (apply Exists.intro; refine ⟨fun _ => ?_, ?_⟩; (focus (first | (intro hC; go_at_call 37; refine (HC4.out _).mono ?_; rintro e w' ⟨rfl, hb⟩; refine ⟨rfl, ?_⟩; exact cls_call hFm hC hb))); exact hK _ rfl)
        case k =>
        simp only [Act.put, List.setIfInBounds_toArray, List.set_cons_succ, List.set_cons_zero, List.cons_append, List.nil_append]
        apply wpO_det
        case hw => rfl
        case h =>
          intro hFm wx hS_ hF_ K hK
          go_big_quiet_op
          first
            | exact hK _ rfl
            | (apply Exists.intro; refine ⟨fun _ => ?_, ?_⟩; (focus (first | (intro hC; have hC := hC.out; (try simp only [hC, Result.andThen]); first | exact ⟨True.intro, rfl⟩ | exact ⟨rfl, rfl⟩ | rfl))); exact hK _ rfl)
        case k =>
        simp only [Act.put, List.setIfInBounds_toArray, List.set_cons_succ, List.set_cons_zero, List.cons_append, List.nil_append]
        apply wpO_det
        case hw => rfl
        case h =>
          intro hFm wx hS_ hF_ K hK
          go_big_quiet_op
          first
            | exact hK _ rfl
            | (apply Exists.intro; refine ⟨fun _ => ?_, ?_⟩; (focus (first | (intro hC; have hC := hC.out; (try simp only [hC, Result.andThen]); first | exact ⟨True.intro, rfl⟩ | exact ⟨rfl, rfl⟩ | rfl))); exact hK _ rfl)
        case k =>
        simp only [Act.put, List.setIfInBounds_toArray, List.set_cons_succ, List.set_cons_zero, List.cons_append, List.nil_append]
        apply wpO_det
        case hw => rfl
        case h =>
          intro hFm wx hS_ hF_ K hK
          go_big_quiet_op
          first
            | exact hK _ rfl
            | (apply Exists.intro; refine ⟨fun _ => ?_, ?_⟩; (focus (first | (intro hC; have hC := hC.out; (try simp only [hC, Result.andThen]); first | exact ⟨True.intro, rfl⟩ | exact ⟨rfl, rfl⟩ | rfl))); exact hK _ rfl)
        case k =>
        simp only [Act.put, List.setIfInBounds_toArray, List.set_cons_succ, List.set_cons_zero, List.cons_append, List.nil_append]
        refine wpO_nil ?_
        intro w6 hS hF hB
        (try simp [allF] at hF)
        (try simp [List.pairwise_cons] at hB)
        obtain ⟨a0, a1, b0, b1, c0, c1, d0, d1, hs⟩ := hS
        have HS6 := Lib.hid (HS5.out.trans hs)
        clear hs
        go_wp2_with fail
        refine (HSH.out _).mono ?_
        rintro e w7 ⟨x, y, rfl, hs⟩
        have HS7 := Lib.hid (HS6.out.trans hs)
        clear hs a0 a1 b0 b1 c0 c1 d0 d1
        go_wp2_with fail
        all_goals (go_ret; exact ⟨ret_int (by rw [HM.out, if_neg (by intro h; omega)]), HS7.out⟩)
    · have hg : decide (s * t < 0) = false := by rw [decide_eq_false_iff_not]; exact hn
      apply region_facts 22 (fun w' => w'.cell? ⟨G, 0, none⟩ = some (.int .i64 a.1) ∧ w'.cell? ⟨G, 1, none⟩ = some (.int .i64 a.2) ∧ w'.cell? ⟨G + 1, 0, none⟩ = some (.int .i64 b.1) ∧ w'.cell? ⟨G + 1, 1, none⟩ = some (.int .i64 b.2) ∧ w'.cell? ⟨G + 1 + 1, 0, none⟩ = some (.int .i64 c.1) ∧ w'.cell? ⟨G + 1 + 1, 1, none⟩ = some (.int .i64 c.2) ∧ w'.cell? ⟨G + 1 + 1 + 1, 0, none⟩ = some (.int .i64 d.1) ∧ w'.cell? ⟨G + 1 + 1 + 1, 1, none⟩ = some (.int .i64 d.2) ∧ Since w5 w')
      case hm => kernel_rfl
      case hB => kernel_rfl
      case hS => exact ⟨a0, a1, b0, b1, c0, c1, d0, d1, (Since.rfl_ w5).drew⟩
      case h =>
      simp only [List.take_succ_cons, List.take_zero, List.drop_succ_cons, List.drop_zero]
      apply wpO_det
      case hw => rfl
      case h =>
        intro hFm wx hS_ hF_ K hK
        go_big_quiet_op
        first
          | exact hK _ rfl
          | (apply Exists.intro; refine ⟨fun _ => ?_, ?_⟩; (focus (first | (intro hC; have hC := hC.out; (try simp only [hC, Result.andThen]); first | exact ⟨True.intro, rfl⟩ | exact ⟨rfl, rfl⟩ | rfl))); exact hK _ rfl)
      case k =>
      simp only [Act.put, List.setIfInBounds_toArray, List.set_cons_succ, List.set_cons_zero, List.cons_append, List.nil_append]
      apply wpO_det
      case hw => rfl
      case h =>
        intro hFm wx hS_ hF_ K hK
        go_big_quiet_op
        first
          | exact hK _ rfl
          | (apply Exists.intro; refine ⟨fun _ => ?_, ?_⟩; (focus (first | (intro hC; have hC := hC.out; (try simp only [hC, Result.andThen]); first | exact ⟨True.intro, rfl⟩ | exact ⟨rfl, rfl⟩ | rfl))); exact hK _ rfl)
      case k =>
      simp only [Act.put, List.setIfInBounds_toArray, List.set_cons_succ, List.set_cons_zero, List.cons_append, List.nil_append]
      apply wpO_det
      case hw => rfl
      case h =>
        intro hFm wx hS_ hF_ K hK
        go_big_quiet_op
        first
          | exact hK _ rfl
          | (apply Exists.intro; refine ⟨fun _ => ?_, ?_⟩; (focus (first | (intro hC; have hC := hC.out; (try simp only [hC, Result.andThen]); first | exact ⟨True.intro, rfl⟩ | exact ⟨rfl, rfl⟩ | rfl))); exact hK _ rfl)
      case k =>
      simp only [Act.put, List.setIfInBounds_toArray, List.set_cons_succ, List.set_cons_zero, List.cons_append, List.nil_append]
      apply wpO_det
      case hw => rfl
      case h =>
        intro hFm wx hS_ hF_ K hK
        go_big_quiet_op
        first
          | exact hK _ rfl
          | (apply Exists.intro; refine ⟨fun _ => ?_, ?_⟩; (focus (first | (intro hC; go_at_call 37; refine (HC1.out _).mono ?_; rintro e w' ⟨rfl, hb⟩; refine ⟨rfl, ?_⟩; exact cls_call hFm hC hb))); exact hK _ rfl)
      case k =>
      simp only [Act.put, List.setIfInBounds_toArray, List.set_cons_succ, List.set_cons_zero, List.cons_append, List.nil_append]
      apply wpO_det
      case hw => rfl
      case h =>
        intro hFm wx hS_ hF_ K hK
        go_big_quiet_op
        first
          | exact hK _ rfl
          | (apply Exists.intro; refine ⟨fun _ => ?_, ?_⟩; (focus (first | (intro hC; have hC := hC.out; (try simp only [hC, Result.andThen]); first | exact ⟨True.intro, rfl⟩ | exact ⟨rfl, rfl⟩ | rfl))); exact hK _ rfl)
      case k =>
      simp only [Act.put, List.setIfInBounds_toArray, List.set_cons_succ, List.set_cons_zero, List.cons_append, List.nil_append]
      apply wpO_det
      case hw => rfl
      case h =>
        intro hFm wx hS_ hF_ K hK
        go_big_quiet_op
        first
          | exact hK _ rfl
          | (apply Exists.intro; refine ⟨fun _ => ?_, ?_⟩; (focus (first | (intro hC; have hC := hC.out; (try simp only [hC, Result.andThen]); first | exact ⟨True.intro, rfl⟩ | exact ⟨rfl, rfl⟩ | rfl))); exact hK _ rfl)
      case k =>
      simp only [Act.put, List.setIfInBounds_toArray, List.set_cons_succ, List.set_cons_zero, List.cons_append, List.nil_append]
      apply wpO_det
      case hw => rfl
      case h =>
        intro hFm wx hS_ hF_ K hK
        go_big_quiet_op
        first
          | exact hK _ rfl
          | (apply Exists.intro; refine ⟨fun _ => ?_, ?_⟩; (focus (first | (intro hC; have hC := hC.out; (try simp only [hC, Result.andThen]); first | exact ⟨True.intro, rfl⟩ | exact ⟨rfl, rfl⟩ | rfl))); exact hK _ rfl)
      case k =>
      simp only [Act.put, List.setIfInBounds_toArray, List.set_cons_succ, List.set_cons_zero, List.cons_append, List.nil_append]
      apply wpO_det
      case hw => rfl
      case h =>
        intro hFm wx hS_ hF_ K hK
        go_big_quiet_op
        first
          | exact hK _ rfl
          | (apply Exists.intro; refine ⟨fun _ => ?_, ?_⟩; (focus (first | (intro hC; go_at_call 37; refine (HC2.out _).mono ?_; rintro e w' ⟨rfl, hb⟩; refine ⟨rfl, ?_⟩; exact cls_call hFm hC hb))); exact hK _ rfl)
      case k =>
      simp only [Act.put, List.setIfInBounds_toArray, List.set_cons_succ, List.set_cons_zero, List.cons_append, List.nil_append]
      apply wpO_det
      case hw => rfl
      case h =>
        intro hFm wx hS_ hF_ K hK
        go_big_quiet_op
        first
          | exact hK _ rfl
          | (apply Exists.intro; refine ⟨fun _ => ?_, ?_⟩; (focus (first | (intro hC; have hC := hC.out; (try simp only [hC, Result.andThen]); first | exact ⟨True.intro, rfl⟩ | exact ⟨rfl, rfl⟩ | rfl))); exact hK _ rfl)
      case k =>
      simp only [Act.put, List.setIfInBounds_toArray, List.set_cons_succ, List.set_cons_zero, List.cons_append, List.nil_append]
      apply wpO_det
      case hw => rfl
      case h =>
        intro hFm wx hS_ hF_ K hK
        go_big_quiet_op
        first
          | exact hK _ rfl
          | (apply Exists.intro; refine ⟨fun _ => ?_, ?_⟩; (focus (first | (intro hC; have hC := hC.out; (try simp only [hC, Result.andThen]); first | exact ⟨True.intro, rfl⟩ | exact ⟨rfl, rfl⟩ | rfl))); exact hK _ rfl)
      case k =>
      simp only [Act.put, List.setIfInBounds_toArray, List.set_cons_succ, List.set_cons_zero, List.cons_append, List.nil_append]
      apply wpO_det
      case hw => rfl
      case h =>
        intro hFm wx hS_ hF_ K hK
        go_big_quiet_op
        first
          | exact hK _ rfl
          | (apply Exists.intro; refine ⟨fun _ => ?_, ?_⟩; (focus (first | (intro hC; have hC := hC.out; (try simp only [hC, Result.andThen]); first | exact ⟨True.intro, rfl⟩ | exact ⟨rfl, rfl⟩ | rfl))); exact hK _ rfl)
      case k =>
      simp only [Act.put, List.setIfInBounds_toArray, List.set_cons_succ, List.set_cons_zero, List.cons_append, List.nil_append]
      apply wpO_skip
      case hw => rfl
      case k =>
      simp only [Act.put, List.setIfInBounds_toArray, List.set_cons_succ, List.set_cons_zero, List.cons_append, List.nil_append]
      apply wpO_skip
      case hw => rfl
      case k =>
      simp only [Act.put, List.setIfInBounds_toArray, List.set_cons_succ, List.set_cons_zero, List.cons_append, List.nil_append]
      apply wpO_skip
      case hw => rfl
      case k =>
      simp only [Act.put, List.setIfInBounds_toArray, List.set_cons_succ, List.set_cons_zero, List.cons_append, List.nil_append]
      apply wpO_skip
      case hw => rfl
      case k =>
      simp only [Act.put, List.setIfInBounds_toArray, List.set_cons_succ, List.set_cons_zero, List.cons_append, List.nil_append]
      apply wpO_skip
      case hw => rfl
      case k =>
      simp only [Act.put, List.setIfInBounds_toArray, List.set_cons_succ, List.set_cons_zero, List.cons_append, List.nil_append]
      apply wpO_skip
      case hw => rfl
      case k =>
      simp only [Act.put, List.setIfInBounds_toArray, List.set_cons_succ, List.set_cons_zero, List.cons_append, List.nil_append]
      apply wpO_skip
      case hw => rfl
      case k =>
      simp only [Act.put, List.setIfInBounds_toArray, List.set_cons_succ, List.set_cons_zero, List.cons_append, List.nil_append]
      apply wpO_skip
      case hw => rfl
      case k =>
      simp only [Act.put, List.setIfInBounds_toArray, List.set_cons_succ, List.set_cons_zero, List.cons_append, List.nil_append]
      apply wpO_skip
      case hw => rfl
      case k =>
      simp only [Act.put, List.setIfInBounds_toArray, List.set_cons_succ, List.set_cons_zero, List.cons_append, List.nil_append]
      apply wpO_skip
      case hw => rfl
      case k =>
      simp only [Act.put, List.setIfInBounds_toArray, List.set_cons_succ, List.set_cons_zero, List.cons_append, List.nil_append]
      apply wpO_det
      case hw => rfl
      case h =>
        intro hFm wx hS_ hF_ K hK
        go_big_quiet_op
        first
          | exact hK _ rfl
          | (apply Exists.intro; refine ⟨fun _ => ?_, ?_⟩; (focus (first | (intro hC; have hC := hC.out; (try simp only [hC, Result.andThen]); first | exact ⟨True.intro, rfl⟩ | exact ⟨rfl, rfl⟩ | rfl))); exact hK _ rfl)
      case k =>
      simp only [Act.put, List.setIfInBounds_toArray, List.set_cons_succ, List.set_cons_zero, List.cons_append, List.nil_append]
      refine wpO_nil ?_
      intro w6 hS hF hB
      (try simp [allF] at hF)
      (try simp [List.pairwise_cons] at hB)
      obtain ⟨a0, a1, b0, b1, c0, c1, d0, d1, hs⟩ := hS
      have HS6 := Lib.hid (HS5.out.trans hs)
      clear hs
      go_wp2_with fail
      refine (HSH.out _).mono ?_
      rintro e w7 ⟨x, y, rfl, hs⟩
      have HS7 := Lib.hid (HS6.out.trans hs)
      clear hs a0 a1 b0 b1 c0 c1 d0 d1
      go_wp2_with fail
      all_goals (go_ret; exact ⟨ret_int (by rw [HM.out, if_neg (by intro h; omega)]), HS7.out⟩)
end Go.Proofs.Ytdnccjdlmepafaa
end
section
namespace Go.Proofs.Ytdnccjdlmepafaa
set_option linter.unusedSimpArgs false
set_option linter.unusedVariables false
open Go.RowKit Go.BigFrame

set_option maxHeartbeats 1000000 in
theorem Mul64B (x y : Nat) (hx : x < 18446744073709551616) (hy : y < 18446744073709551616) (w : World) :
    Calls Try.prog 60 #[.int .u64 x, .int .u64 y] w fun e w' => e = .returned (.tuple #[.int .u64 ((x * y / 18446744073709551616 : Nat) : Int), .int .u64 ((x * y % 18446744073709551616 : Nat) : Int)]) ∧ w = w' := by
  obtain ⟨bd, bt, bw, hhi⟩ := Lib.mul64_hi x y hx hy
  have ba := Lib.half_mul_le (a := x / 4294967296) (b := y / 4294967296) (by omega) (by omega)
  have bb := Lib.half_mul_le (a := x / 4294967296) (b := y % 4294967296) (by omega) (by omega)
  have bc := Lib.half_mul_le (a := x % 4294967296) (b := y / 4294967296) (by omega) (by omega)
  have ba' : x / 4294967296 * (y / 4294967296) < 18446744073709551616 := by omega
  have bb' : x / 4294967296 * (y % 4294967296) < 18446744073709551616 := by omega
  have bc' : x % 4294967296 * (y / 4294967296) < 18446744073709551616 := by omega
  have bh1 : x / 4294967296 * (y / 4294967296) + (x / 4294967296 * (y % 4294967296) + x % 4294967296 * (y % 4294967296) / 4294967296) / 4294967296 < 18446744073709551616 := by omega
  have bh : x / 4294967296 * (y / 4294967296) + (x / 4294967296 * (y % 4294967296) + x % 4294967296 * (y % 4294967296) / 4294967296) / 4294967296 + ((x / 4294967296 * (y % 4294967296) + x % 4294967296 * (y % 4294967296) / 4294967296) % 4294967296 + x % 4294967296 * (y / 4294967296)) / 4294967296 < 18446744073709551616 := by omega
  go_enter Try.func60, Try.ntmps60
  go_wp2
  simp only [Mul64.maskN x hx, Mul64.maskN y hy, Mul64.divN, Mul64.mulN, Mul64.addN, Mul64.wrapN _ bd, Mul64.wrapN _ bb', Mul64.wrapN _ bt, Mul64.maskN _ bt, Mul64.wrapN _ bc', Mul64.wrapN _ bw, Mul64.wrapN _ ba', Mul64.wrapN _ bh1, Mul64.wrapN _ bh, Mul64.wrapM (x * y)]
  rw [hhi]
  go_ret2
  exact ⟨rfl, rfl⟩

theorem Mul64B_low (x y : Nat) (h : x * y < 18446744073709551616) (hx : x < 18446744073709551616) (hy : y < 18446744073709551616) (w : World) :
    Calls Try.prog 60 #[.int .u64 x, .int .u64 y] w fun e w' => e = .returned (.tuple #[.int .u64 0, .int .u64 ((x * y : Nat) : Int)]) ∧ w = w' := by
  refine (Mul64B x y hx hy w).mono ?_
  rintro e w' ⟨rfl, hw⟩
  refine ⟨?_, hw⟩
  rw [Nat.div_eq_of_lt h, Nat.mod_eq_of_lt h]; rfl

end Go.Proofs.Ytdnccjdlmepafaa
end
section
namespace Go.Proofs.Ytdnccjdlmepafaa
set_option linter.unusedSimpArgs false
set_option linter.unusedVariables false
open Go.RowKit Go.BigFrame

end Go.Proofs.Ytdnccjdlmepafaa
end
section
namespace Go.Proofs.Ytdnccjdlmepafaa
set_option linter.unusedSimpArgs false
set_option linter.unusedVariables false
open Go.RowKit Go.BigFrame


end Go.Proofs.Ytdnccjdlmepafaa
end
section
namespace Go.Proofs.Ytdnccjdlmepafaa
set_option linter.unusedSimpArgs false
set_option linter.unusedVariables false
open Go.RowKit Go.BigFrame

end Go.Proofs.Ytdnccjdlmepafaa
end
section
namespace Go.Proofs.Ytdnccjdlmepafaa
set_option linter.unusedSimpArgs false
set_option linter.unusedVariables false
open Go.RowKit Go.BigFrame

/-- The nearest integer, the greater one of two. -/
def rndF (n d : Int) : Int := (2 * n + d) / (2 * d)
end Go.Proofs.Ytdnccjdlmepafaa
end
section
namespace Go.Proofs.Ytdnccjdlmepafaa
set_option linter.unusedSimpArgs false
set_option linter.unusedVariables false
open Go.RowKit Go.BigFrame

end Go.Proofs.Ytdnccjdlmepafaa
end
section
namespace Go.Proofs.Ytdnccjdlmepafaa
set_option linter.unusedSimpArgs false
set_option linter.unusedVariables false
open Go.RowKit Go.BigFrame

end Go.Proofs.Ytdnccjdlmepafaa
end
