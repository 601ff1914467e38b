/-
  The walk of frac.Add at an integer and a fraction between 0 and 1; Walks of seg.place, seg.along, seg.Snap. Conditions: those that each lemma names.
-/
import Derived.Test.YtdbknodifpmmoaaK09
section
namespace Go.Proofs.Ytdbknodifpmmoaa
set_option linter.unusedSimpArgs false
set_option linter.unusedVariables false
open Go.RowKit Go.BigFrame

theorem sumOk {m p q : Int} (h : FracOk p q) (hs : -9223372036854775808 < m * q + p ∧ m * q + p ≤ 9223372036854775807) : FracOk (m * q + p) q := by
  refine ⟨hs.1, hs.2, h.d1, h.d2, ?_⟩
  have hg := h.g
  have e1 : Nat.gcd (m * q + p).natAbs q.toNat = Int.gcd (m * q + p) q := by unfold Int.gcd; congr 1; have := h.d1; omega
  have e2 : Nat.gcd p.natAbs q.toNat = Int.gcd p q := by unfold Int.gcd; congr 1; have := h.d1; omega
  rw [e1]
  rw [e2] at hg
  rw [Int.add_comm, Int.gcd_add_mul_right_left]
  exact hg

set_option maxRecDepth 100000 in
set_option maxHeartbeats 2000000 in
theorem Add_f (m p q : Int) (h : FracOk p q) (hm : -1048577 ≤ m ∧ m ≤ 1048577) (hp : 0 ≤ p ∧ p < q) (hq : q ≤ 8796093022208) (hs : -9223372036854775808 < m * q + p ∧ m * q + p ≤ 9223372036854775807) (w : World) :
    Calls Try.prog 126 #[.agg #[.int .i64 m, .int .i64 1], .agg #[.int .i64 p, .int .i64 q]] w fun e w' => e = .returned (.tuple #[.agg #[.int .i64 (m * q + p), .int .i64 q], .int .i64 0]) ∧ Since w w' := by
  have hm1 : FracOk m 1 := ⟨by omega, by omega, by omega, by omega, by simp⟩
  have d1 := h.d1
  have HF1 : Hid (∀ w, Calls Try.prog 127 #[.agg #[.int .i64 m, .int .i64 1]] w fun e w' => e = .returned (.agg #[.int .i64 m, .int .i64 1]) ∧ Since w w') := fun w => fit_f m 1 hm1 w
  have HF2 : Hid (∀ w, Calls Try.prog 127 #[.agg #[.int .i64 p, .int .i64 q]] w fun e w' => e = .returned (.agg #[.int .i64 p, .int .i64 q]) ∧ Since w w') := fun w => fit_f p q h w
  have HZ1 := Lib.hid (fun w => size_n 1 (by omega) w)
  have HZ2 := Lib.hid (fun w => size_n q (by omega) w)
  have HZ0 := Lib.hid (fun w => size_n 0 (by omega) w)
  have HG1 := Lib.hid (fun w => gcd_n 1 q 1 (by omega) (by omega) (by simp) w)
  have HG2 := Lib.hid (fun w => gcd_n 0 1 1 (by omega) (by omega) (by simp) w)
  have b1 : -(1048577 * q) ≤ m * q := by
    have := Int.mul_le_mul_of_nonneg_right (show -1048577 ≤ m by omega) (show 0 ≤ q by omega); omega
  have b2 : m * q ≤ 1048577 * q := Int.mul_le_mul_of_nonneg_right (show m ≤ 1048577 by omega) (show 0 ≤ q by omega)
  obtain ⟨s, HSS⟩ : ∃ s, Hid (s = m * q + p) := ⟨_, rfl⟩
  obtain ⟨h1, H1⟩ : ∃ a, Hid (a = wHi (m * q)) := ⟨_, rfl⟩
  obtain ⟨l1, L1⟩ : ∃ a, Hid (a = wLo (m * q)) := ⟨_, rfl⟩
  obtain ⟨h2, H2⟩ : ∃ a, Hid (a = wHi (p * 1)) := ⟨_, rfl⟩
  obtain ⟨l2, L2⟩ : ∃ a, Hid (a = wLo (p * 1)) := ⟨_, rfl⟩
  obtain ⟨h3, H3⟩ : ∃ a, Hid (a = wHi s) := ⟨_, rfl⟩
  obtain ⟨l3, L3⟩ : ∃ a, Hid (a = wLo s) := ⟨_, rfl⟩
  obtain ⟨h4, H4⟩ : ∃ a, Hid (a = wHi (1 * q)) := ⟨_, rfl⟩
  obtain ⟨l4, L4⟩ : ∃ a, Hid (a = wLo (1 * q)) := ⟨_, rfl⟩
  have HM1 := Lib.hid (fun w => Mul_w m q (by omega) (by omega) (by omega) w)
  have HM2 := Lib.hid (fun w => Mul_w p 1 (by omega) (by omega) (by omega) w)
  have HM3 := Lib.hid (fun w => Mul_w 1 q (by omega) (by omega) (by omega) w)
  have HA := Lib.hid (fun w => Add_w (m * q) (p * 1) (by omega) (by omega) w)
  have HD := Lib.hid (fun w => Div_w s 1 (by rw [HSS.out]; omega) (by omega) w)
  have HDD := Lib.hid (fun w => divide_w s 1 (by rw [HSS.out]; omega) (by omega) w)
  have HS1 := Lib.hid (fun w => Short_w s (by rw [HSS.out]; omega) w)
  have HS2 := Lib.hid (fun w => Short_w (1 * q) (by omega) w)
  have e0 : m * q + p * 1 = s := by rw [HSS.out]; omega
  have e1 : s / 1 = s := Int.ediv_one s
  have e2 : s % 1 = 0 := Int.emod_one s
  rw [e0] at HA
  rw [e1, e2] at HD HDD
  unfold wideV at HM1 HM2 HM3 HA HD HDD HS1 HS2
  rw [← H1.out, ← L1.out] at HM1 HA
  rw [← H2.out, ← L2.out] at HM2 HA
  rw [← H4.out, ← L4.out] at HM3 HS2
  rw [← H3.out, ← L3.out] at HA HD HDD HS1
  rw [Int.one_mul] at HS2
  rw [← HSS.out]
  have hsb : -9223372036854775808 < s ∧ s ≤ 9223372036854775807 := by rw [HSS.out]; omega
  have hsn : (s == -9223372036854775808) = false := by rw [beq_eq_false_iff_ne]; omega
  have hqp := hp
  clear e0 e1 e2 b1 b2 hm1 h hs
  go_enter Try.func126, Try.ntmps126
  go_upto_region 1 with fail
  obtain ⟨G, HG⟩ : ∃ G, G = w.heap.size := ⟨_, rfl⟩
  rw [← HG]
  refine atW (fun w' => Since w w' ∧ Blk w' G 97 #[.int .i64 m, .int .i64 1] ∧ Blk w' (G + 1) 97 #[.int .i64 p, .int .i64 q] ∧ Blk w' (G + 1 + 1) 97 #[.int .i64 0, .int .i64 0]) ⟨(((Since.rfl_ w).alloc _).alloc _).alloc _, ((Blk.new' HG).alloc _).alloc _, (Blk.new' (by simp [HG])).alloc _, Blk.new' (by simp [HG])⟩ ?_
  rintro w1 ⟨hs, ba, bb, bc⟩
  go_cut [] from 6 to 17 (fun w' => Since w w' ∧ Blk w' G 97 #[.int .i64 m, .int .i64 1] ∧ Blk w' (G + 1) 97 #[.int .i64 p, .int .i64 q] ∧ Blk w' (G + 1 + 1) 97 #[.int .i64 0, .int .i64 0])
  case first =>
    have hw1 := hs.size
    have HGG := Lib.hid HG
    letI TT : Tgt := ⟨fun g => if g = G then some (.cells #[.int .i64 m, .int .i64 1] 97) else if g = G + 1 then some (.cells #[.int .i64 p, .int .i64 q] 97) else none⟩
    have KT : ∀ g, g < G → Tgt.T g = none := fun g h => by
      show (if _ then _ else if _ then _ else _) = _
      rw [if_neg (by omega), if_neg (by omega)]
    have KU : ∀ g, G + 1 < g → Tgt.T g = none := fun g h => by
      show (if _ then _ else if _ then _ else _) = _
      rw [if_neg (by omega), if_neg (by omega)]
    have K0 : Tgt.T G = some (.cells #[.int .i64 m, .int .i64 1] 97 (0, 0)) := if_pos rfl
    have K1 : Tgt.T (G + 1) = some (.cells #[.int .i64 p, .int .i64 q] 97 (0, 0)) := (if_neg (by omega)).trans (if_pos rfl)
    have KB := Lib.hid (fun w' (h : SinceT w1 w') => (show Blk w' G 97 #[.int .i64 m, .int .i64 1] ∧ Blk w' (G + 1) 97 #[.int .i64 p, .int .i64 q] ∧ Blk w' (G + 1 + 1) 97 #[.int .i64 0, .int .i64 0] from ⟨h.blkT K0 ba, h.blkT K1 bb, h.blk (KU _ (by omega)) bc⟩))
    have KF := Lib.hid (fun w' (h : SinceT w1 w') => (show w'.cell? ⟨G, 0, none⟩ = some (.int .i64 m) ∧ w'.cell? ⟨G, 1, none⟩ = some (.int .i64 1) ∧ w'.cell? ⟨G + 1, 0, none⟩ = some (.int .i64 p) ∧ w'.cell? ⟨G + 1, 1, none⟩ = some (.int .i64 q) from
      ⟨(KB.out w' h).1.cell 0, (KB.out w' h).1.cell 1, (KB.out w' h).2.1.cell 0, (KB.out w' h).2.1.cell 1⟩))
    have hl4 := bc.lt
    have HW1 := Lib.hid hs
    clear ba bb bc hs HG
    apply region_factsT 6 (fun w' => SinceT w1 w')
    case hm => kernel_rfl
    case hB => kernel_rfl
    case hS => exact (SinceT.rfl_ w1).drew
    case hmono => exact (fun _ _ h k => h.trans k)
    case hTb => exact (fun g hg => KU g (by omega))
    case h =>
    simp only [List.take_succ_cons, List.take_zero, List.drop_succ_cons, List.drop_zero]
    apply wpO_detT
    case hw => rfl
    case h =>
      intro hFm wx hS_ hF_ K hK
      go_big_quiet_op
      first
        | exact hK _ rfl
        | (apply Exists.intro; refine ⟨fun _ => ?_, ?_⟩; (focus (first | (intro hC; have hC := KF.out _ hC.out.1; (try simp only [hC, Result.andThen]); first | exact ⟨True.intro, rfl⟩ | exact ⟨rfl, rfl⟩ | rfl))); exact hK _ rfl)
    case k =>
    simp only [Act.put, List.setIfInBounds_toArray, List.set_cons_succ, List.set_cons_zero, List.cons_append, List.nil_append]
    apply wpO_detT
    case hw => rfl
    case h =>
      intro hFm wx hS_ hF_ K hK
      go_big_quiet_op
      first
        | exact hK _ rfl
        | (apply Exists.intro; refine ⟨fun _ => ?_, ?_⟩; (focus (first | (intro hC; go_at_call 127; refine (HF1.out _).mono ?_; rintro e w' ⟨rfl, hb⟩; refine ⟨rfl, ?_⟩; exact cls_callT (fun _ _ h k => h.trans k) hFm hC hb))); exact hK _ rfl)
    case k =>
    simp only [Act.put, List.setIfInBounds_toArray, List.set_cons_succ, List.set_cons_zero, List.cons_append, List.nil_append]
    apply wpO_detT
    case hw => rfl
    case h =>
      intro hFm wx hS_ hF_ K hK
      go_big_quiet_op
      first
        | exact hK _ rfl
        | (apply Exists.intro; refine ⟨fun _ => ?_, ?_⟩; (focus (first | (intro hC; have hC := KF.out _ hC.out.1; (try simp only [hC, Result.andThen]); first | exact ⟨True.intro, rfl⟩ | exact ⟨rfl, rfl⟩ | rfl))); exact hK _ rfl)
    case k =>
    simp only [Act.put, List.setIfInBounds_toArray, List.set_cons_succ, List.set_cons_zero, List.cons_append, List.nil_append]
    apply wpO_detT
    case hw => rfl
    case h =>
      intro hFm wx hS_ hF_ K hK
      go_big_quiet_op
      first
        | exact hK _ rfl
        | (apply Exists.intro; refine ⟨fun _ => ?_, ?_⟩; (focus (first | (intro hC; go_at_call 127; refine (HF2.out _).mono ?_; rintro e w' ⟨rfl, hb⟩; refine ⟨rfl, ?_⟩; exact cls_callT (fun _ _ h k => h.trans k) hFm hC hb))); exact hK _ rfl)
    case k =>
    simp only [Act.put, List.setIfInBounds_toArray, List.set_cons_succ, List.set_cons_zero, List.cons_append, List.nil_append]
    apply wpO_anyT (R := (fun _ _ => True))
    case hR => exact (fun _ _ _ h _ => h)
    case hw => rfl
    case h =>
      intro wx hS_ hF_
      unfold runVT
      (have hb := (KB.out _ hS_).1; have c0 := hb.cell 0; have c1 := hb.cell 1; have f0 := hb.frozen 0; have f1 := hb.frozen 1; simp only [List.getElem?_toArray, List.getElem?_cons_zero, List.getElem?_cons_succ] at c0 c1; have hr := Lib.hid (store2_T hb K0).2; simp [go_sem, c0, c1, f0, f1, cSetS, cSetO]; exact hr.out)
    case k =>
    intro v0
    simp only [Act.put, List.setIfInBounds_toArray, List.set_cons_succ, List.set_cons_zero, List.cons_append, List.nil_append]
    apply wpO_anyT (R := (fun _ _ => True))
    case hR => exact (fun _ _ _ h _ => h)
    case hw => rfl
    case h =>
      intro wx hS_ hF_
      unfold runVT
      (have hb := (KB.out _ hS_).2.1; have c0 := hb.cell 0; have c1 := hb.cell 1; have f0 := hb.frozen 0; have f1 := hb.frozen 1; simp only [List.getElem?_toArray, List.getElem?_cons_zero, List.getElem?_cons_succ] at c0 c1; have hr := Lib.hid (store2_T hb K1).2; simp [go_sem, c0, c1, f0, f1, cSetS, cSetO]; exact hr.out)
    case k =>
    intro v1
    simp only [Act.put, List.setIfInBounds_toArray, List.set_cons_succ, List.set_cons_zero, List.cons_append, List.nil_append]
    refine wpO_nilT ?_
    intro w5 hS hF hB
    (try simp [allF] at hF)
    (try simp [List.pairwise_cons] at hB)
    go_wp2_with fail
    go_meet
    exact ⟨hS.since HW1.out (fun g hg => KT g (by have := HGG.out; omega)), KB.out _ hS⟩
  case rest =>
    obtain ⟨hs5, ba5, bb5, bc5⟩ := hcut
    obtain ⟨w5, rfl⟩ : ∃ w5, w5 = wc := ⟨_, rfl⟩
    have HW5 := Lib.hid (And.intro hs5 (And.intro ba5 (And.intro bb5 bc5)))
    have HGG := Lib.hid HG
    clear hs ba bb bc hs5 ba5 bb5 bc5 HG
    have KF := Lib.hid (fun w' (h : Since w5 w') => (show w'.cell? ⟨G, 0, none⟩ = some (.int .i64 m) ∧ w'.cell? ⟨G, 1, none⟩ = some (.int .i64 1) ∧ w'.cell? ⟨G + 1, 0, none⟩ = some (.int .i64 p) ∧ w'.cell? ⟨G + 1, 1, none⟩ = some (.int .i64 q) from
      ⟨(h.blk HW5.out.2.1).cell 0, (h.blk HW5.out.2.1).cell 1, (h.blk HW5.out.2.2.1).cell 0, (h.blk HW5.out.2.2.1).cell 1⟩))
    go_upto_region 2 with fail
    apply region_facts 9 (fun w' => Since w5 w')
    case hm => kernel_rfl
    case hB => kernel_rfl
    case hS => exact (Since.rfl_ w5).drew
    case h =>
    simp only [List.take_succ_cons, List.take_zero, List.drop_succ_cons, List.drop_zero]
    apply wpO_det
    case hw => rfl
    case h =>
      intro hFm wx hS_ hF_ K hK
      go_big_quiet_op
      first
        | exact hK _ rfl
        | (apply Exists.intro; refine ⟨fun _ => ?_, ?_⟩; (focus (first | (intro hC; have hC := KF.out _ hC.out.1; (try simp only [hC, Result.andThen]); first | exact ⟨True.intro, rfl⟩ | exact ⟨rfl, rfl⟩ | rfl))); exact hK _ rfl)
    case k =>
    simp only [Act.put, List.setIfInBounds_toArray, List.set_cons_succ, List.set_cons_zero, List.cons_append, List.nil_append]
    apply wpO_det
    case hw => rfl
    case h =>
      intro hFm wx hS_ hF_ K hK
      go_big_quiet_op
      first
        | exact hK _ rfl
        | (apply Exists.intro; refine ⟨fun _ => ?_, ?_⟩; (focus (first | (intro hC; have hC := KF.out _ hC.out.1; (try simp only [hC, Result.andThen]); first | exact ⟨True.intro, rfl⟩ | exact ⟨rfl, rfl⟩ | rfl))); exact hK _ rfl)
    case k =>
    simp only [Act.put, List.setIfInBounds_toArray, List.set_cons_succ, List.set_cons_zero, List.cons_append, List.nil_append]
    apply wpO_det
    case hw => rfl
    case h =>
      intro hFm wx hS_ hF_ K hK
      go_big_quiet_op
      first
        | exact hK _ rfl
        | (apply Exists.intro; refine ⟨fun _ => ?_, ?_⟩; (focus (first | (intro hC; go_at_call 157; refine (HZ1.out _).mono ?_; rintro e w' ⟨rfl, rfl⟩; exact ⟨rfl, hC⟩))); exact hK _ rfl)
    case k =>
    simp only [Act.put, List.setIfInBounds_toArray, List.set_cons_succ, List.set_cons_zero, List.cons_append, List.nil_append]
    apply wpO_det
    case hw => rfl
    case h =>
      intro hFm wx hS_ hF_ K hK
      go_big_quiet_op
      first
        | exact hK _ rfl
        | (apply Exists.intro; refine ⟨fun _ => ?_, ?_⟩; (focus (first | (intro hC; have hC := KF.out _ hC.out.1; (try simp only [hC, Result.andThen]); first | exact ⟨True.intro, rfl⟩ | exact ⟨rfl, rfl⟩ | rfl))); exact hK _ rfl)
    case k =>
    simp only [Act.put, List.setIfInBounds_toArray, List.set_cons_succ, List.set_cons_zero, List.cons_append, List.nil_append]
    apply wpO_det
    case hw => rfl
    case h =>
      intro hFm wx hS_ hF_ K hK
      go_big_quiet_op
      first
        | exact hK _ rfl
        | (apply Exists.intro; refine ⟨fun _ => ?_, ?_⟩; (focus (first | (intro hC; have hC := KF.out _ hC.out.1; (try simp only [hC, Result.andThen]); first | exact ⟨True.intro, rfl⟩ | exact ⟨rfl, rfl⟩ | rfl))); exact hK _ rfl)
    case k =>
    simp only [Act.put, List.setIfInBounds_toArray, List.set_cons_succ, List.set_cons_zero, List.cons_append, List.nil_append]
    apply wpO_det
    case hw => rfl
    case h =>
      intro hFm wx hS_ hF_ K hK
      go_big_quiet_op
      first
        | exact hK _ rfl
        | (apply Exists.intro; refine ⟨fun _ => ?_, ?_⟩; (focus (first | (intro hC; go_at_call 157; refine (HZ2.out _).mono ?_; rintro e w' ⟨rfl, rfl⟩; exact ⟨rfl, hC⟩))); exact hK _ rfl)
    case k =>
    simp only [Act.put, List.setIfInBounds_toArray, List.set_cons_succ, List.set_cons_zero, List.cons_append, List.nil_append]
    apply wpO_det
    case hw => rfl
    case h =>
      intro hFm wx hS_ hF_ K hK
      go_big_quiet_op
      first
        | exact hK _ rfl
        | (apply Exists.intro; refine ⟨fun _ => ?_, ?_⟩; (focus (first | (intro hC; go_at_call 158; refine (HG1.out _).mono ?_; rintro e w' ⟨rfl, hb⟩; refine ⟨rfl, ?_⟩; exact cls_call hFm hC hb))); exact hK _ rfl)
    case k =>
    simp only [Act.put, List.setIfInBounds_toArray, List.set_cons_succ, List.set_cons_zero, List.cons_append, List.nil_append]
    apply wpO_det
    case hw => rfl
    case h =>
      intro hFm wx hS_ hF_ K hK
      go_big_quiet_op
      first
        | exact hK _ rfl
        | (apply Exists.intro; refine ⟨fun _ => ?_, ?_⟩; (focus (first | (intro hC; have hC := hC.out; (try simp only [hC, Result.andThen]); first | exact ⟨True.intro, rfl⟩ | exact ⟨rfl, rfl⟩ | rfl))); exact hK _ rfl)
    case k =>
    simp only [Act.put, List.setIfInBounds_toArray, List.set_cons_succ, List.set_cons_zero, List.cons_append, List.nil_append]
    apply wpO_det
    case hw => rfl
    case h =>
      intro hFm wx hS_ hF_ K hK
      go_big_quiet_op
      first
        | exact hK _ rfl
        | (apply Exists.intro; refine ⟨fun _ => ?_, ?_⟩; (focus (first | (intro hC; have hC := hC.out; (try simp only [hC, Result.andThen]); first | exact ⟨True.intro, rfl⟩ | exact ⟨rfl, rfl⟩ | rfl))); exact hK _ rfl)
    case k =>
    simp only [Act.put, List.setIfInBounds_toArray, List.set_cons_succ, List.set_cons_zero, List.cons_append, List.nil_append]
    refine wpO_nil ?_
    intro w6 hS hF hB
    (try simp [allF] at hF)
    (try simp [List.pairwise_cons] at hB)
    have HW6 := Lib.hid hS
    clear hS
    go_upto_region 3 with fail
    have KF6 := Lib.hid (fun w' (h : Since w6 w') => KF.out w' (HW6.out.trans h))
    clear KF
    have KF := KF6
    clear KF6
    apply region_facts 16 (fun w' => Since w6 w')
    case hm => kernel_rfl
    case hB => kernel_rfl
    case hS => exact (Since.rfl_ w6).drew
    case h =>
    simp only [List.take_succ_cons, List.take_zero, List.drop_succ_cons, List.drop_zero]
    apply wpO_det
    case hw => rfl
    case h =>
      intro hFm wx hS_ hF_ K hK
      go_big_quiet_op
      first
        | exact hK _ rfl
        | (apply Exists.intro; refine ⟨fun _ => ?_, ?_⟩; (focus (first | (intro hC; have hC := KF.out _ hC.out.1; (try simp only [hC, Result.andThen]); first | exact ⟨True.intro, rfl⟩ | exact ⟨rfl, rfl⟩ | rfl))); exact hK _ rfl)
    case k =>
    simp only [Act.put, List.setIfInBounds_toArray, List.set_cons_succ, List.set_cons_zero, List.cons_append, List.nil_append]
    apply wpO_det
    case hw => rfl
    case h =>
      intro hFm wx hS_ hF_ K hK
      go_big_quiet_op
      first
        | exact hK _ rfl
        | (apply Exists.intro; refine ⟨fun _ => ?_, ?_⟩; (focus (first | (intro hC; have hC := KF.out _ hC.out.1; (try simp only [hC, Result.andThen]); first | exact ⟨True.intro, rfl⟩ | exact ⟨rfl, rfl⟩ | rfl))); exact hK _ rfl)
    case k =>
    simp only [Act.put, List.setIfInBounds_toArray, List.set_cons_succ, List.set_cons_zero, List.cons_append, List.nil_append]
    apply wpO_det
    case hw => rfl
    case h =>
      intro hFm wx hS_ hF_ K hK
      go_big_quiet_op
      first
        | exact hK _ rfl
        | (apply Exists.intro; refine ⟨fun _ => ?_, ?_⟩; (focus (first | (intro hC; have hC := KF.out _ hC.out.1; (try simp only [hC, Result.andThen]); first | exact ⟨True.intro, rfl⟩ | exact ⟨rfl, rfl⟩ | rfl))); exact hK _ rfl)
    case k =>
    simp only [Act.put, List.setIfInBounds_toArray, List.set_cons_succ, List.set_cons_zero, List.cons_append, List.nil_append]
    apply wpO_det
    case hw => rfl
    case h =>
      intro hFm wx hS_ hF_ K hK
      go_big_quiet_op
      first
        | exact hK _ rfl
        | (apply Exists.intro; refine ⟨fun _ => ?_, ?_⟩; (focus (first | (intro hC; have hC := KF.out _ hC.out.1; (try simp only [hC, Result.andThen]); first | exact ⟨True.intro, rfl⟩ | exact ⟨rfl, rfl⟩ | rfl))); exact hK _ rfl)
    case k =>
    simp only [Act.put, List.setIfInBounds_toArray, List.set_cons_succ, List.set_cons_zero, List.cons_append, List.nil_append]
    apply wpO_det
    case hw => rfl
    case h =>
      intro hFm wx hS_ hF_ K hK
      go_big_quiet_op
      first
        | exact hK _ rfl
        | (apply Exists.intro; refine ⟨fun _ => ?_, ?_⟩; (focus (first | (intro hC; have hC := KF.out _ hC.out.1; (try simp only [hC, Result.andThen]); first | exact ⟨True.intro, rfl⟩ | exact ⟨rfl, rfl⟩ | rfl))); exact hK _ rfl)
    case k =>
    simp only [Act.put, List.setIfInBounds_toArray, List.set_cons_succ, List.set_cons_zero, List.cons_append, List.nil_append]
    apply wpO_det
    case hw => rfl
    case h =>
      intro hFm wx hS_ hF_ K hK
      go_big_quiet_op
      first
        | exact hK _ rfl
        | (apply Exists.intro; refine ⟨fun _ => ?_, ?_⟩; (focus (first | (intro hC; have hC := KF.out _ hC.out.1; (try simp only [hC, Result.andThen]); first | exact ⟨True.intro, rfl⟩ | exact ⟨rfl, rfl⟩ | rfl))); exact hK _ rfl)
    case k =>
    simp only [Act.put, List.setIfInBounds_toArray, List.set_cons_succ, List.set_cons_zero, List.cons_append, List.nil_append]
    apply wpO_det
    case hw => rfl
    case h =>
      intro hFm wx hS_ hF_ K hK
      go_big_quiet_op
      first
        | exact hK _ rfl
        | (apply Exists.intro; refine ⟨fun _ => ?_, ?_⟩; (focus (first | (intro hC; go_at_call 123; refine (HM1.out _).mono ?_; rintro e w' ⟨rfl, hb⟩; refine ⟨rfl, ?_⟩; exact cls_call hFm hC hb))); exact hK _ rfl)
    case k =>
    simp only [Act.put, List.setIfInBounds_toArray, List.set_cons_succ, List.set_cons_zero, List.cons_append, List.nil_append]
    apply wpO_det
    case hw => rfl
    case h =>
      intro hFm wx hS_ hF_ K hK
      go_big_quiet_op
      first
        | exact hK _ rfl
        | (apply Exists.intro; refine ⟨fun _ => ?_, ?_⟩; (focus (first | (intro hC; have hC := KF.out _ hC.out.1; (try simp only [hC, Result.andThen]); first | exact ⟨True.intro, rfl⟩ | exact ⟨rfl, rfl⟩ | rfl))); exact hK _ rfl)
    case k =>
    simp only [Act.put, List.setIfInBounds_toArray, List.set_cons_succ, List.set_cons_zero, List.cons_append, List.nil_append]
    apply wpO_det
    case hw => rfl
    case h =>
      intro hFm wx hS_ hF_ K hK
      go_big_quiet_op
      first
        | exact hK _ rfl
        | (apply Exists.intro; refine ⟨fun _ => ?_, ?_⟩; (focus (first | (intro hC; have hC := KF.out _ hC.out.1; (try simp only [hC, Result.andThen]); first | exact ⟨True.intro, rfl⟩ | exact ⟨rfl, rfl⟩ | rfl))); exact hK _ rfl)
    case k =>
    simp only [Act.put, List.setIfInBounds_toArray, List.set_cons_succ, List.set_cons_zero, List.cons_append, List.nil_append]
    apply wpO_det
    case hw => rfl
    case h =>
      intro hFm wx hS_ hF_ K hK
      go_big_quiet_op
      first
        | exact hK _ rfl
        | (apply Exists.intro; refine ⟨fun _ => ?_, ?_⟩; (focus (first | (intro hC; have hC := KF.out _ hC.out.1; (try simp only [hC, Result.andThen]); first | exact ⟨True.intro, rfl⟩ | exact ⟨rfl, rfl⟩ | rfl))); exact hK _ rfl)
    case k =>
    simp only [Act.put, List.setIfInBounds_toArray, List.set_cons_succ, List.set_cons_zero, List.cons_append, List.nil_append]
    apply wpO_det
    case hw => rfl
    case h =>
      intro hFm wx hS_ hF_ K hK
      go_big_quiet_op
      first
        | exact hK _ rfl
        | (apply Exists.intro; refine ⟨fun _ => ?_, ?_⟩; (focus (first | (intro hC; have hC := KF.out _ hC.out.1; (try simp only [hC, Result.andThen]); first | exact ⟨True.intro, rfl⟩ | exact ⟨rfl, rfl⟩ | rfl))); exact hK _ rfl)
    case k =>
    simp only [Act.put, List.setIfInBounds_toArray, List.set_cons_succ, List.set_cons_zero, List.cons_append, List.nil_append]
    apply wpO_det
    case hw => rfl
    case h =>
      intro hFm wx hS_ hF_ K hK
      go_big_quiet_op
      first
        | exact hK _ rfl
        | (apply Exists.intro; refine ⟨fun _ => ?_, ?_⟩; (focus (first | (intro hC; have hC := KF.out _ hC.out.1; (try simp only [hC, Result.andThen]); first | exact ⟨True.intro, rfl⟩ | exact ⟨rfl, rfl⟩ | rfl))); exact hK _ rfl)
    case k =>
    simp only [Act.put, List.setIfInBounds_toArray, List.set_cons_succ, List.set_cons_zero, List.cons_append, List.nil_append]
    apply wpO_det
    case hw => rfl
    case h =>
      intro hFm wx hS_ hF_ K hK
      go_big_quiet_op
      first
        | exact hK _ rfl
        | (apply Exists.intro; refine ⟨fun _ => ?_, ?_⟩; (focus (first | (intro hC; have hC := KF.out _ hC.out.1; (try simp only [hC, Result.andThen]); first | exact ⟨True.intro, rfl⟩ | exact ⟨rfl, rfl⟩ | rfl))); exact hK _ rfl)
    case k =>
    simp only [Act.put, List.setIfInBounds_toArray, List.set_cons_succ, List.set_cons_zero, List.cons_append, List.nil_append]
    apply wpO_det
    case hw => rfl
    case h =>
      intro hFm wx hS_ hF_ K hK
      go_big_quiet_op
      first
        | exact hK _ rfl
        | (apply Exists.intro; refine ⟨fun _ => ?_, ?_⟩; (focus (first | (intro hC; go_at_call 123; refine (HM2.out _).mono ?_; rintro e w' ⟨rfl, hb⟩; refine ⟨rfl, ?_⟩; exact cls_call hFm hC hb))); exact hK _ rfl)
    case k =>
    simp only [Act.put, List.setIfInBounds_toArray, List.set_cons_succ, List.set_cons_zero, List.cons_append, List.nil_append]
    apply wpO_det
    case hw => rfl
    case h =>
      intro hFm wx hS_ hF_ K hK
      go_big_quiet_op
      first
        | exact hK _ rfl
        | (apply Exists.intro; refine ⟨fun _ => ?_, ?_⟩; (focus (first | (intro hC; go_at_call 160; refine (HA.out _).mono ?_; rintro e w' ⟨rfl, hb⟩; refine ⟨rfl, ?_⟩; exact cls_call hFm hC hb))); exact hK _ rfl)
    case k =>
    simp only [Act.put, List.setIfInBounds_toArray, List.set_cons_succ, List.set_cons_zero, List.cons_append, List.nil_append]
    apply wpO_mk (f := fun g => .pointer (some ⟨g, 0, none⟩)) (t := 147) (cs := #[.int .i64 0, .int .u64 0])
    case hi => (intro g g' h; simpa using h)
    case hw => rfl
    case h => (intro w; simp [go_sem])
    case k =>
    intro g7
    simp only [Act.put, List.setIfInBounds_toArray, List.set_cons_succ, List.set_cons_zero, List.cons_append, List.nil_append]
    refine wpO_nil ?_
    intro w7 hS hF hB
    (try simp [allF] at hF)
    (try simp [List.pairwise_cons] at hB)
    have lg := hF.2
    have hg6 := HW5.out.2.2.2.lt
    have hg7 := HW6.out.size
    have z0 : w7.cell? ⟨g7, 0, none⟩ = some (.int .i64 0) := hF.1.cell 0
    have z1 : w7.cell? ⟨g7, 1, none⟩ = some (.int .u64 0) := hF.1.cell 1
    have f0 := hF.1.frozen 0
    have f1 := hF.1.frozen 1
    have HF7 := Lib.hid (And.intro hF.1 hS)
    clear hF hS hB
    go_upto_region 4 with fail
    refine atW (fun w' => Since w5 w' ∧ Blk w' g7 147 #[.int .i64 h3, .int .u64 l3]) ⟨HW6.out.trans ((HF7.out.2.setCell lg _).setCell lg _), (HF7.out.1.set_ 0 (.int .i64 h3)).set_ 1 (.int .u64 l3)⟩ ?_
    clear HF7 z0 z1 f0 f1
    rintro w8 ⟨hs, hb⟩
    have z0 : w8.cell? ⟨g7, 0, none⟩ = some (.int .i64 h3) := hb.cell 0
    have z1 : w8.cell? ⟨g7, 1, none⟩ = some (.int .u64 l3) := hb.cell 1
    have HF8 := Lib.hid (And.intro hs hb)
    clear hs hb
    go_wp2_with fail
    refine (HD.out _).mono ?_
    rintro e w9 ⟨rfl, hs⟩
    have HF9 := Lib.hid (And.intro (HF8.out.1.trans hs) (hs.blk HF8.out.2))
    clear hs HF8 z0 z1
    go_upto_region 5 with fail
    refine atW (fun w' => Since w5 w' ∧ Blk w' g7 147 #[.int .i64 h3, .int .u64 l3]) ⟨HF9.out.1.alloc _, HF9.out.2.alloc _⟩ ?_
    clear HF9
    rintro wa ⟨hs, hb⟩
    have HFa := Lib.hid (And.intro hs hb)
    clear hs hb
    go_wp2_with fail
    refine (HZ0.out _).mono ?_
    rintro e wb ⟨rfl, rfl⟩
    go_wp2_with fail
    refine (HZ1.out _).mono ?_
    rintro e wb ⟨rfl, rfl⟩
    go_wp2_with fail
    refine (HG2.out _).mono ?_
    rintro e wb ⟨rfl, hs⟩
    have HFb := Lib.hid (And.intro (HFa.out.1.trans hs) (hs.blk HFa.out.2))
    clear hs HFa
    go_upto_region 6 with fail
    have z0 : wb.cell? ⟨g7, 0, none⟩ = some (.int .i64 h3) := HFb.out.2.cell 0
    have z1 : wb.cell? ⟨g7, 1, none⟩ = some (.int .u64 l3) := HFb.out.2.cell 1
    go_wp2_with fail
    refine (HDD.out _).mono ?_
    rintro e wc ⟨rfl, hs⟩
    have HFc := Lib.hid (HFb.out.1.trans hs)
    clear hs HFb z0 z1
    go_upto_region 7 with fail
    obtain ⟨gc, HGC⟩ : ∃ gc, gc = wc.heap.size := ⟨_, rfl⟩
    rw [← HGC]
    refine atW (fun w' => Since w5 w' ∧ Blk w' gc 147 #[.int .i64 h3, .int .u64 l3]) ⟨HFc.out.alloc _, Blk.new' HGC⟩ ?_
    clear HFc HGC
    rintro wd ⟨hs, hb⟩
    have z0 : wd.cell? ⟨gc, 0, none⟩ = some (.int .i64 h3) := hb.cell 0
    have z1 : wd.cell? ⟨gc, 1, none⟩ = some (.int .u64 l3) := hb.cell 1
    have HFd := Lib.hid hs
    clear hs hb
    go_wp2_with fail
    refine (HS1.out _).mono ?_
    rintro e we ⟨rfl, hs⟩
    have HFe := Lib.hid (HFd.out.trans hs)
    clear hs HFd z0 z1
    go_upto_region 8 with fail
    have KFe := Lib.hid (fun w' (h : Since we w') => (show w'.cell? ⟨G, 0, none⟩ = some (.int .i64 m) ∧ w'.cell? ⟨G, 1, none⟩ = some (.int .i64 1) ∧ w'.cell? ⟨G + 1, 0, none⟩ = some (.int .i64 p) ∧ w'.cell? ⟨G + 1, 1, none⟩ = some (.int .i64 q) from
      ⟨((HFe.out.trans h).blk HW5.out.2.1).cell 0, ((HFe.out.trans h).blk HW5.out.2.1).cell 1, ((HFe.out.trans h).blk HW5.out.2.2.1).cell 0, ((HFe.out.trans h).blk HW5.out.2.2.1).cell 1⟩))
    clear KF
    have KF := KFe
    clear KFe
    apply region_facts 15 (fun w' => Since we w')
    case hm => kernel_rfl
    case hB => kernel_rfl
    case hS => exact (Since.rfl_ we).drew
    case h =>
    simp only [List.take_succ_cons, List.take_zero, List.drop_succ_cons, List.drop_zero]
    apply wpO_det
    case hw => rfl
    case h =>
      intro hFm wx hS_ hF_ K hK
      go_big_quiet_op
      first
        | exact hK _ rfl
        | (apply Exists.intro; refine ⟨fun _ => ?_, ?_⟩; (focus (first | (intro hC; have hC := KF.out _ hC.out.1; (try simp only [hC, Result.andThen]); first | exact ⟨True.intro, rfl⟩ | exact ⟨rfl, rfl⟩ | rfl))); exact hK _ rfl)
    case k =>
    simp only [Act.put, List.setIfInBounds_toArray, List.set_cons_succ, List.set_cons_zero, List.cons_append, List.nil_append]
    apply wpO_det
    case hw => rfl
    case h =>
      intro hFm wx hS_ hF_ K hK
      go_big_quiet_op
      first
        | exact hK _ rfl
        | (apply Exists.intro; refine ⟨fun _ => ?_, ?_⟩; (focus (first | (intro hC; have hC := KF.out _ hC.out.1; (try simp only [hC, Result.andThen]); first | exact ⟨True.intro, rfl⟩ | exact ⟨rfl, rfl⟩ | rfl))); exact hK _ rfl)
    case k =>
    simp only [Act.put, List.setIfInBounds_toArray, List.set_cons_succ, List.set_cons_zero, List.cons_append, List.nil_append]
    apply wpO_det
    case hw => rfl
    case h =>
      intro hFm wx hS_ hF_ K hK
      go_big_quiet_op
      first
        | exact hK _ rfl
        | (apply Exists.intro; refine ⟨fun _ => ?_, ?_⟩; (focus (first | (intro hC; have hC := KF.out _ hC.out.1; (try simp only [hC, Result.andThen]); first | exact ⟨True.intro, rfl⟩ | exact ⟨rfl, rfl⟩ | rfl))); exact hK _ rfl)
    case k =>
    simp only [Act.put, List.setIfInBounds_toArray, List.set_cons_succ, List.set_cons_zero, List.cons_append, List.nil_append]
    apply wpO_det
    case hw => rfl
    case h =>
      intro hFm wx hS_ hF_ K hK
      go_big_quiet_op
      first
        | exact hK _ rfl
        | (apply Exists.intro; refine ⟨fun _ => ?_, ?_⟩; (focus (first | (intro hC; have hC := KF.out _ hC.out.1; (try simp only [hC, Result.andThen]); first | exact ⟨True.intro, rfl⟩ | exact ⟨rfl, rfl⟩ | rfl))); exact hK _ rfl)
    case k =>
    simp only [Act.put, List.setIfInBounds_toArray, List.set_cons_succ, List.set_cons_zero, List.cons_append, List.nil_append]
    apply wpO_det
    case hw => rfl
    case h =>
      intro hFm wx hS_ hF_ K hK
      go_big_quiet_op
      first
        | exact hK _ rfl
        | (apply Exists.intro; refine ⟨fun _ => ?_, ?_⟩; (focus (first | (intro hC; have hC := KF.out _ hC.out.1; (try simp only [hC, Result.andThen]); first | exact ⟨True.intro, rfl⟩ | exact ⟨rfl, rfl⟩ | rfl))); exact hK _ rfl)
    case k =>
    simp only [Act.put, List.setIfInBounds_toArray, List.set_cons_succ, List.set_cons_zero, List.cons_append, List.nil_append]
    apply wpO_det
    case hw => rfl
    case h =>
      intro hFm wx hS_ hF_ K hK
      go_big_quiet_op
      first
        | exact hK _ rfl
        | (apply Exists.intro; refine ⟨fun _ => ?_, ?_⟩; (focus (first | (intro hC; have hC := KF.out _ hC.out.1; (try simp only [hC, Result.andThen]); first | exact ⟨True.intro, rfl⟩ | exact ⟨rfl, rfl⟩ | rfl))); exact hK _ rfl)
    case k =>
    simp only [Act.put, List.setIfInBounds_toArray, List.set_cons_succ, List.set_cons_zero, List.cons_append, List.nil_append]
    apply wpO_det
    case hw => rfl
    case h =>
      intro hFm wx hS_ hF_ K hK
      go_big_quiet_op
      first
        | exact hK _ rfl
        | (apply Exists.intro; refine ⟨fun _ => ?_, ?_⟩; (focus (first | (intro hC; have hC := KF.out _ hC.out.1; (try simp only [hC, Result.andThen]); first | exact ⟨True.intro, rfl⟩ | exact ⟨rfl, rfl⟩ | rfl))); exact hK _ rfl)
    case k =>
    simp only [Act.put, List.setIfInBounds_toArray, List.set_cons_succ, List.set_cons_zero, List.cons_append, List.nil_append]
    apply wpO_det
    case hw => rfl
    case h =>
      intro hFm wx hS_ hF_ K hK
      go_big_quiet_op
      first
        | exact hK _ rfl
        | (apply Exists.intro; refine ⟨fun _ => ?_, ?_⟩; (focus (first | (intro hC; have hC := KF.out _ hC.out.1; (try simp only [hC, Result.andThen]); first | exact ⟨True.intro, rfl⟩ | exact ⟨rfl, rfl⟩ | rfl))); exact hK _ rfl)
    case k =>
    simp only [Act.put, List.setIfInBounds_toArray, List.set_cons_succ, List.set_cons_zero, List.cons_append, List.nil_append]
    apply wpO_det
    case hw => rfl
    case h =>
      intro hFm wx hS_ hF_ K hK
      go_big_quiet_op
      first
        | exact hK _ rfl
        | (apply Exists.intro; refine ⟨fun _ => ?_, ?_⟩; (focus (first | (intro hC; go_at_call 123; refine (HM3.out _).mono ?_; rintro e w' ⟨rfl, hb⟩; refine ⟨rfl, ?_⟩; exact cls_call hFm hC hb))); exact hK _ rfl)
    case k =>
    simp only [Act.put, List.setIfInBounds_toArray, List.set_cons_succ, List.set_cons_zero, List.cons_append, List.nil_append]
    apply wpO_det
    case hw => rfl
    case h =>
      intro hFm wx hS_ hF_ K hK
      go_big_quiet_op
      first
        | exact hK _ rfl
        | (apply Exists.intro; refine ⟨fun _ => ?_, ?_⟩; (focus (first | (intro hC; go_at_call 124; refine (HS2.out _).mono ?_; rintro e w' ⟨rfl, hb⟩; refine ⟨rfl, ?_⟩; exact cls_call hFm hC hb))); exact hK _ rfl)
    case k =>
    simp only [Act.put, List.setIfInBounds_toArray, List.set_cons_succ, List.set_cons_zero, List.cons_append, List.nil_append]
    apply wpO_det
    case hw => rfl
    case h =>
      intro hFm wx hS_ hF_ K hK
      go_big_quiet_op
      first
        | exact hK _ rfl
        | (apply Exists.intro; refine ⟨fun _ => ?_, ?_⟩; (focus (first | (intro hC; have hC := hC.out; (try simp only [hC, Result.andThen]); first | exact ⟨True.intro, rfl⟩ | exact ⟨rfl, rfl⟩ | rfl))); exact hK _ rfl)
    case k =>
    simp only [Act.put, List.setIfInBounds_toArray, List.set_cons_succ, List.set_cons_zero, List.cons_append, List.nil_append]
    apply wpO_det
    case hw => rfl
    case h =>
      intro hFm wx hS_ hF_ K hK
      go_big_quiet_op
      first
        | exact hK _ rfl
        | (apply Exists.intro; refine ⟨fun _ => ?_, ?_⟩; (focus (first | (intro hC; have hC := hC.out; (try simp only [hC, Result.andThen]); first | exact ⟨True.intro, rfl⟩ | exact ⟨rfl, rfl⟩ | rfl))); exact hK _ rfl)
    case k =>
    simp only [Act.put, List.setIfInBounds_toArray, List.set_cons_succ, List.set_cons_zero, List.cons_append, List.nil_append]
    apply wpO_det
    case hw => rfl
    case h =>
      intro hFm wx hS_ hF_ K hK
      go_big_quiet_op
      first
        | exact hK _ rfl
        | (apply Exists.intro; refine ⟨fun _ => ?_, ?_⟩; (focus (first | (intro hC; have hC := hC.out; (try simp only [hC, Result.andThen]); first | exact ⟨True.intro, rfl⟩ | exact ⟨rfl, rfl⟩ | rfl))); exact hK _ rfl)
    case k =>
    simp only [Act.put, List.setIfInBounds_toArray, List.set_cons_succ, List.set_cons_zero, List.cons_append, List.nil_append]
    apply wpO_det
    case hw => rfl
    case h =>
      intro hFm wx hS_ hF_ K hK
      go_big_quiet_op
      first
        | exact hK _ rfl
        | (apply Exists.intro; refine ⟨fun _ => ?_, ?_⟩; (focus (first | (intro hC; have hC := hC.out; (try simp only [hC, Result.andThen]); first | exact ⟨True.intro, rfl⟩ | exact ⟨rfl, rfl⟩ | rfl))); exact hK _ rfl)
    case k =>
    simp only [Act.put, List.setIfInBounds_toArray, List.set_cons_succ, List.set_cons_zero, List.cons_append, List.nil_append]
    apply wpO_det
    case hw => rfl
    case h =>
      intro hFm wx hS_ hF_ K hK
      go_big_quiet_op
      first
        | exact hK _ rfl
        | (apply Exists.intro; refine ⟨fun _ => ?_, ?_⟩; (focus (first | (intro hC; have hC := hC.out; (try simp only [hC, Result.andThen]); first | exact ⟨True.intro, rfl⟩ | exact ⟨rfl, rfl⟩ | rfl))); exact hK _ rfl)
    case k =>
    simp only [Act.put, List.setIfInBounds_toArray, List.set_cons_succ, List.set_cons_zero, List.cons_append, List.nil_append]
    refine wpO_nil ?_
    intro wf hS hF hB
    (try simp [allF] at hF)
    (try simp [List.pairwise_cons] at hB)
    have HWf := Lib.hid (HFe.out.trans hS)
    have hb3 := HWf.out.blk HW5.out.2.2.2
    have r0 : wf.cell? ⟨G + 1 + 1, 0, none⟩ = some (.int .i64 0) := hb3.cell 0
    have r1 : wf.cell? ⟨G + 1 + 1, 1, none⟩ = some (.int .i64 0) := hb3.cell 1
    have f0 := hb3.frozen 0
    have f1 := hb3.frozen 1
    clear hS hF hB hb3 HFe
    go_wp2_with fail
    refine bodyPost_ret (v := .tuple #[.agg #[.int .i64 s, .int .i64 q], .int .i64 0]) (by simp [results, Try.results126, go_sem, cSetS, cSetO, cellDrew, r0, r1]) rfl ⟨rfl, ?_⟩
    have hG := HGG.out
    exact ((HW5.out.1.trans HWf.out).setCell (by dsimp only; omega) _).setCell (by dsimp only; omega) _
end Go.Proofs.Ytdbknodifpmmoaa
end
section
namespace Go.Proofs.Ytdbknodifpmmoaa
set_option linter.unusedSimpArgs false
set_option linter.unusedVariables false
open Go.RowKit Go.BigFrame

theorem place_s (x y : Int) (hx : -1048576 ≤ x ∧ x ≤ 1048576) (hy : -1048576 ≤ y ∧ y ≤ 1048576) (w : World) :
    Calls Try.prog 100 #[.agg #[.int .i64 x, .int .i64 y]] w fun e w' => e = .returned (.agg #[.int .i64 x, .int .i64 1, .int .i64 y, .int .i64 1]) ∧ Since w w' := by
  have H1 : Hid (∀ w, Calls Try.prog 121 #[.int .i64 x] w fun e w' => e = .returned (.agg #[.int .i64 x, .int .i64 1]) ∧ Since w w') := fun w => Of_f x (by omega) w
  have H2 : Hid (∀ w, Calls Try.prog 121 #[.int .i64 y] w fun e w' => e = .returned (.agg #[.int .i64 y, .int .i64 1]) ∧ Since w w') := fun w => Of_f y (by omega) w
  go_enter Try.func100, Try.ntmps100
  go_upto_region 1 with fail
  obtain ⟨G, HG⟩ : ∃ G, G = w.heap.size := ⟨_, rfl⟩
  rw [← HG]
  refine atW (fun w' => Since w w' ∧ Blk w' G 26 #[.int .i64 x, .int .i64 y] ∧ Blk w' (G + 1) 99 #[.int .i64 0, .int .i64 0, .int .i64 0, .int .i64 0]) ⟨((Since.rfl_ w).alloc _).alloc _, (Blk.new' HG).alloc _, Blk.new' (by simp [HG])⟩ ?_
  rintro w1 ⟨hs, ba, bb⟩
  have HGG := Lib.hid HG
  clear HG
  have KF := Lib.hid (fun w' (h : Since w1 w') => (show w'.cell? ⟨G, 0, none⟩ = some (.int .i64 x) ∧ w'.cell? ⟨G, 1, none⟩ = some (.int .i64 y) from ⟨(h.blk ba).cell 0, (h.blk ba).cell 1⟩))
  have HW1 := Lib.hid (And.intro hs bb)
  clear hs ba bb
  apply region_facts 7 (fun w' => Since w1 w')
  case hm => kernel_rfl
  case hB => kernel_rfl
  case hS => exact (Since.rfl_ w1).drew
  case h =>
  simp only [List.take_succ_cons, List.take_zero, List.drop_succ_cons, List.drop_zero]
  apply wpO_det
  case hw => rfl
  case h =>
    intro hFm wx hS_ hF_ K hK
    go_big_quiet_op
    first
      | exact hK _ rfl
      | (apply Exists.intro; refine ⟨fun _ => ?_, ?_⟩; (focus (first | (intro hC; have hC := KF.out _ hC.out.1; (try simp only [hC, Result.andThen]); first | exact ⟨True.intro, rfl⟩ | exact ⟨rfl, rfl⟩ | rfl))); exact hK _ rfl)
  case k =>
  simp only [Act.put, List.setIfInBounds_toArray, List.set_cons_succ, List.set_cons_zero, List.cons_append, List.nil_append]
  apply wpO_det
  case hw => rfl
  case h =>
    intro hFm wx hS_ hF_ K hK
    go_big_quiet_op
    first
      | exact hK _ rfl
      | (apply Exists.intro; refine ⟨fun _ => ?_, ?_⟩; (focus (first | (intro hC; have hC := KF.out _ hC.out.1; (try simp only [hC, Result.andThen]); first | exact ⟨True.intro, rfl⟩ | exact ⟨rfl, rfl⟩ | rfl))); exact hK _ rfl)
  case k =>
  simp only [Act.put, List.setIfInBounds_toArray, List.set_cons_succ, List.set_cons_zero, List.cons_append, List.nil_append]
  apply wpO_det
  case hw => rfl
  case h =>
    intro hFm wx hS_ hF_ K hK
    go_big_quiet_op
    first
      | exact hK _ rfl
      | (apply Exists.intro; refine ⟨fun _ => ?_, ?_⟩; (focus (first | (intro hC; go_at_call 121; refine (H1.out _).mono ?_; rintro e w' ⟨rfl, hb⟩; refine ⟨rfl, ?_⟩; exact cls_call hFm hC hb))); exact hK _ rfl)
  case k =>
  simp only [Act.put, List.setIfInBounds_toArray, List.set_cons_succ, List.set_cons_zero, List.cons_append, List.nil_append]
  apply wpO_det
  case hw => rfl
  case h =>
    intro hFm wx hS_ hF_ K hK
    go_big_quiet_op
    first
      | exact hK _ rfl
      | (apply Exists.intro; refine ⟨fun _ => ?_, ?_⟩; (focus (first | (intro hC; have hC := KF.out _ hC.out.1; (try simp only [hC, Result.andThen]); first | exact ⟨True.intro, rfl⟩ | exact ⟨rfl, rfl⟩ | rfl))); exact hK _ rfl)
  case k =>
  simp only [Act.put, List.setIfInBounds_toArray, List.set_cons_succ, List.set_cons_zero, List.cons_append, List.nil_append]
  apply wpO_det
  case hw => rfl
  case h =>
    intro hFm wx hS_ hF_ K hK
    go_big_quiet_op
    first
      | exact hK _ rfl
      | (apply Exists.intro; refine ⟨fun _ => ?_, ?_⟩; (focus (first | (intro hC; have hC := KF.out _ hC.out.1; (try simp only [hC, Result.andThen]); first | exact ⟨True.intro, rfl⟩ | exact ⟨rfl, rfl⟩ | rfl))); exact hK _ rfl)
  case k =>
  simp only [Act.put, List.setIfInBounds_toArray, List.set_cons_succ, List.set_cons_zero, List.cons_append, List.nil_append]
  apply wpO_det
  case hw => rfl
  case h =>
    intro hFm wx hS_ hF_ K hK
    go_big_quiet_op
    first
      | exact hK _ rfl
      | (apply Exists.intro; refine ⟨fun _ => ?_, ?_⟩; (focus (first | (intro hC; go_at_call 121; refine (H2.out _).mono ?_; rintro e w' ⟨rfl, hb⟩; refine ⟨rfl, ?_⟩; exact cls_call hFm hC hb))); exact hK _ rfl)
  case k =>
  simp only [Act.put, List.setIfInBounds_toArray, List.set_cons_succ, List.set_cons_zero, List.cons_append, List.nil_append]
  apply wpO_det
  case hw => rfl
  case h =>
    intro hFm wx hS_ hF_ K hK
    go_big_quiet_op
    first
      | exact hK _ rfl
      | (apply Exists.intro; refine ⟨fun _ => ?_, ?_⟩; (focus (first | (intro hC; have hC := hC.out; (try simp only [hC, Result.andThen]); first | exact ⟨True.intro, rfl⟩ | exact ⟨rfl, rfl⟩ | rfl))); exact hK _ rfl)
  case k =>
  simp only [Act.put, List.setIfInBounds_toArray, List.set_cons_succ, List.set_cons_zero, List.cons_append, List.nil_append]
  refine wpO_nil ?_
  intro w2 hS hF hB
  (try simp [allF] at hF)
  (try simp [List.pairwise_cons] at hB)
  have hb := hS.blk HW1.out.2
  have HW2 := Lib.hid (HW1.out.1.trans hS)
  have r_0 := hb.cell 0
  have r_1 := hb.cell 1
  have r_2 := hb.cell 2
  have r_3 := hb.cell 3
  simp only [List.getElem?_toArray, List.getElem?_cons_zero, List.getElem?_cons_succ] at r_0 r_1 r_2 r_3
  have f0 := hb.frozen 0
  have f1 := hb.frozen 1
  have f2 := hb.frozen 2
  have f3 := hb.frozen 3
  clear hS hF hB hb
  go_wp2_with fail
  refine bodyPost_ret (v := .agg #[.int .i64 x, .int .i64 1, .int .i64 y, .int .i64 1]) (by simp [results, Try.results100, go_sem, cSetS, cSetO, cellDrew, r_0, r_1, r_2, r_3]) rfl ⟨rfl, ?_⟩
  have hG := HGG.out
  exact (((HW2.out.setCell (by dsimp only; omega) _).setCell (by dsimp only; omega) _).setCell (by dsimp only; omega) _).setCell (by dsimp only; omega) _

theorem Snap_s (xn xd yn yd : Int) (h1 : FracOk xn xd) (h2 : FracOk yn yd) (w : World) :
    Calls Try.prog 69 #[.agg #[.int .i64 xn, .int .i64 xd, .int .i64 yn, .int .i64 yd]] w fun e w' => e = .returned (.agg #[.int .i64 (clampI (rndF xn xd)), .int .i64 (clampI (rndF yn yd))]) ∧ Since w w' := by
  have H1 := Lib.hid (fun w => Round_f xn xd h1 w)
  have H2 := Lib.hid (fun w => Round_f yn yd h2 w)
  have H3 := Lib.hid (fun w => Clamp_any (rndF xn xd) (rndF yn yd) w)
  obtain ⟨rx, HX⟩ : ∃ a, Hid (a = rndF xn xd) := ⟨_, rfl⟩
  obtain ⟨ry, HY⟩ : ∃ a, Hid (a = rndF yn yd) := ⟨_, rfl⟩
  rw [← HX.out, ← HY.out] at H3
  rw [← HX.out] at H1
  rw [← HY.out] at H2
  rw [← HX.out, ← HY.out]
  obtain ⟨cx, HCX⟩ : ∃ a, Hid (a = clampI rx) := ⟨_, rfl⟩
  obtain ⟨cy, HCY⟩ : ∃ a, Hid (a = clampI ry) := ⟨_, rfl⟩
  rw [← HCX.out, ← HCY.out] at H3 ⊢
  clear h1 h2
  go_enter Try.func69, Try.ntmps69
  go_upto_region 1 with fail
  obtain ⟨G, HG⟩ : ∃ G, G = w.heap.size := ⟨_, rfl⟩
  rw [← HG]
  refine atW (fun w' => Since w w' ∧ Blk w' G 99 #[.int .i64 xn, .int .i64 xd, .int .i64 yn, .int .i64 yd] ∧ Blk w' (G + 1) 26 #[.int .i64 0, .int .i64 0]) ⟨((Since.rfl_ w).alloc _).alloc _, (Blk.new' HG).alloc _, Blk.new' (by simp [HG])⟩ ?_
  rintro w1 ⟨hs, ba, bb⟩
  have HGG := Lib.hid HG
  clear HG
  have KF := Lib.hid (fun w' (h : Since w1 w') => (show w'.cell? ⟨G, 0, none⟩ = some (.int .i64 xn) ∧ w'.cell? ⟨G, 1, none⟩ = some (.int .i64 xd) ∧ w'.cell? ⟨G, 2, none⟩ = some (.int .i64 yn) ∧ w'.cell? ⟨G, 3, none⟩ = some (.int .i64 yd) from ⟨(h.blk ba).cell 0, (h.blk ba).cell 1, (h.blk ba).cell 2, (h.blk ba).cell 3⟩))
  have HW1 := Lib.hid (And.intro hs bb)
  clear hs ba bb
  apply region_facts 8 (fun w' => Since w1 w')
  case hm => kernel_rfl
  case hB => kernel_rfl
  case hS => exact (Since.rfl_ w1).drew
  case h =>
  simp only [List.take_succ_cons, List.take_zero, List.drop_succ_cons, List.drop_zero]
  apply wpO_det
  case hw => rfl
  case h =>
    intro hFm wx hS_ hF_ K hK
    go_big_quiet_op
    first
      | exact hK _ rfl
      | (apply Exists.intro; refine ⟨fun _ => ?_, ?_⟩; (focus (first | (intro hC; have hC := KF.out _ hC.out.1; (try simp only [hC, Result.andThen]); first | exact ⟨True.intro, rfl⟩ | exact ⟨rfl, rfl⟩ | rfl))); exact hK _ rfl)
  case k =>
  simp only [Act.put, List.setIfInBounds_toArray, List.set_cons_succ, List.set_cons_zero, List.cons_append, List.nil_append]
  apply wpO_det
  case hw => rfl
  case h =>
    intro hFm wx hS_ hF_ K hK
    go_big_quiet_op
    first
      | exact hK _ rfl
      | (apply Exists.intro; refine ⟨fun _ => ?_, ?_⟩; (focus (first | (intro hC; have hC := KF.out _ hC.out.1; (try simp only [hC, Result.andThen]); first | exact ⟨True.intro, rfl⟩ | exact ⟨rfl, rfl⟩ | rfl))); exact hK _ rfl)
  case k =>
  simp only [Act.put, List.setIfInBounds_toArray, List.set_cons_succ, List.set_cons_zero, List.cons_append, List.nil_append]
  apply wpO_det
  case hw => rfl
  case h =>
    intro hFm wx hS_ hF_ K hK
    go_big_quiet_op
    first
      | exact hK _ rfl
      | (apply Exists.intro; refine ⟨fun _ => ?_, ?_⟩; (focus (first | (intro hC; go_at_call 102; refine (H1.out _).mono ?_; rintro e w' ⟨rfl, hb⟩; refine ⟨rfl, ?_⟩; exact cls_call hFm hC hb))); exact hK _ rfl)
  case k =>
  simp only [Act.put, List.setIfInBounds_toArray, List.set_cons_succ, List.set_cons_zero, List.cons_append, List.nil_append]
  apply wpO_det
  case hw => rfl
  case h =>
    intro hFm wx hS_ hF_ K hK
    go_big_quiet_op
    first
      | exact hK _ rfl
      | (apply Exists.intro; refine ⟨fun _ => ?_, ?_⟩; (focus (first | (intro hC; have hC := KF.out _ hC.out.1; (try simp only [hC, Result.andThen]); first | exact ⟨True.intro, rfl⟩ | exact ⟨rfl, rfl⟩ | rfl))); exact hK _ rfl)
  case k =>
  simp only [Act.put, List.setIfInBounds_toArray, List.set_cons_succ, List.set_cons_zero, List.cons_append, List.nil_append]
  apply wpO_det
  case hw => rfl
  case h =>
    intro hFm wx hS_ hF_ K hK
    go_big_quiet_op
    first
      | exact hK _ rfl
      | (apply Exists.intro; refine ⟨fun _ => ?_, ?_⟩; (focus (first | (intro hC; have hC := KF.out _ hC.out.1; (try simp only [hC, Result.andThen]); first | exact ⟨True.intro, rfl⟩ | exact ⟨rfl, rfl⟩ | rfl))); exact hK _ rfl)
  case k =>
  simp only [Act.put, List.setIfInBounds_toArray, List.set_cons_succ, List.set_cons_zero, List.cons_append, List.nil_append]
  apply wpO_det
  case hw => rfl
  case h =>
    intro hFm wx hS_ hF_ K hK
    go_big_quiet_op
    first
      | exact hK _ rfl
      | (apply Exists.intro; refine ⟨fun _ => ?_, ?_⟩; (focus (first | (intro hC; go_at_call 102; refine (H2.out _).mono ?_; rintro e w' ⟨rfl, hb⟩; refine ⟨rfl, ?_⟩; exact cls_call hFm hC hb))); exact hK _ rfl)
  case k =>
  simp only [Act.put, List.setIfInBounds_toArray, List.set_cons_succ, List.set_cons_zero, List.cons_append, List.nil_append]
  apply wpO_det
  case hw => rfl
  case h =>
    intro hFm wx hS_ hF_ K hK
    go_big_quiet_op
    first
      | exact hK _ rfl
      | (apply Exists.intro; refine ⟨fun _ => ?_, ?_⟩; (focus (first | (intro hC; have hC := hC.out; (try simp only [hC, Result.andThen]); first | exact ⟨True.intro, rfl⟩ | exact ⟨rfl, rfl⟩ | rfl))); exact hK _ rfl)
  case k =>
  simp only [Act.put, List.setIfInBounds_toArray, List.set_cons_succ, List.set_cons_zero, List.cons_append, List.nil_append]
  apply wpO_det
  case hw => rfl
  case h =>
    intro hFm wx hS_ hF_ K hK
    go_big_quiet_op
    first
      | exact hK _ rfl
      | (apply Exists.intro; refine ⟨fun _ => ?_, ?_⟩; (focus (first | (intro hC; go_at_call 41; refine (H3.out _).mono ?_; rintro e w' ⟨rfl, hb⟩; refine ⟨rfl, ?_⟩; exact cls_call hFm hC hb))); exact hK _ rfl)
  case k =>
  simp only [Act.put, List.setIfInBounds_toArray, List.set_cons_succ, List.set_cons_zero, List.cons_append, List.nil_append]
  refine wpO_nil ?_
  intro w2 hS hF hB
  (try simp [allF] at hF)
  (try simp [List.pairwise_cons] at hB)
  have hb := hS.blk HW1.out.2
  have HW2 := Lib.hid (HW1.out.1.trans hS)
  have r0 : w2.cell? ⟨G + 1, 0, none⟩ = some (.int .i64 0) := hb.cell 0
  have r1 : w2.cell? ⟨G + 1, 1, none⟩ = some (.int .i64 0) := hb.cell 1
  have f0 := hb.frozen 0
  have f1 := hb.frozen 1
  clear hS hF hB hb
  go_wp2_with fail
  refine bodyPost_ret (v := .agg #[.int .i64 cx, .int .i64 cy]) (by simp [results, Try.results69, go_sem, cSetS, cSetO, cellDrew, r0, r1]) rfl ⟨rfl, ?_⟩
  have hG := HGG.out
  exact (HW2.out.setCell (by dsimp only; omega) _).setCell (by dsimp only; omega) _

/-- What along computes. -/
structure AlongM (fr way num den q r g p d s : Int) : Prop where
  hg : g = (Nat.gcd r.toNat den.toNat : Int)
  hm : -1048577 ≤ fr + q ∧ fr + q ≤ 1048577
  hp : p = r / g
  hd : d = den / g
  pd : 0 ≤ p ∧ p < d
  dl : d ≤ 8796093022208
  hs : s = (fr + q) * d + p
  sb : -9223372036854775808 < s ∧ s ≤ 9223372036854775807
  ok : FracOk p d
  val : s * den = (fr * den + way * num) * d
theorem along_math {fr way num den : Int} (hd : 0 < den ∧ den ≤ 8796093022208) (hb : -(1048576 * den) ≤ fr * den + way * num ∧ fr * den + way * num ≤ 1048576 * den) :
    ∃ g p d s, AlongM fr way num den (way * num / den) (way * num % den) g p d s := by
  have m0 := Int.emod_nonneg (way * num) (show den ≠ 0 by omega)
  have m1 := Int.emod_lt_of_pos (way * num) hd.1
  have dm := Int.mul_ediv_add_emod (way * num) den
  generalize way * num / den = q at *
  generalize way * num % den = r at *
  obtain ⟨gn, hgn⟩ : ∃ gn, gn = Nat.gcd r.toNat den.toNat := ⟨_, rfl⟩
  have gpos : 0 < gn := by rw [hgn]; exact Nat.gcd_pos_of_pos_right _ (by omega)
  obtain ⟨pn, hpn⟩ : gn ∣ r.toNat := by rw [hgn]; exact Nat.gcd_dvd_left _ _
  obtain ⟨dn, hdn⟩ : gn ∣ den.toNat := by rw [hgn]; exact Nat.gcd_dvd_right _ _
  have er : r = (gn : Int) * pn := by rw [← Int.natCast_mul, ← hpn]; omega
  have ed : den = (gn : Int) * dn := by rw [← Int.natCast_mul, ← hdn]; omega
  have dpos : 0 < dn := by
    rcases Nat.eq_zero_or_pos dn with h | h
    · rw [h] at ed; simp at ed; omega
    · exact h
  have cop : Nat.gcd pn dn = 1 := by
    have : Nat.gcd (gn * pn) (gn * dn) = gn * Nat.gcd pn dn := Nat.gcd_mul_left _ _ _
    rw [← hpn, ← hdn, ← hgn] at this
    exact Nat.eq_of_mul_eq_mul_left gpos (by omega)
  have plt : pn < dn := by
    have : gn * pn < gn * dn := by rw [← hpn, ← hdn]; omega
    exact Nat.lt_of_mul_lt_mul_left this
  have dle : (dn : Int) ≤ den := by
    have : 1 * dn ≤ gn * dn := Nat.mul_le_mul_right dn gpos
    rw [← hdn] at this; omega
  -- the sum lies in the box
  have key : (fr + q) * den + r = fr * den + way * num := by rw [← dm]; grind
  have mb : -1048576 ≤ fr + q ∧ fr + q ≤ 1048576 := by
    constructor
    · refine Classical.byContradiction fun hn => ?_
      have := Int.mul_le_mul_of_nonneg_right (show fr + q ≤ -1048577 by omega) (show 0 ≤ den by omega)
      omega
    · refine Classical.byContradiction fun hn => ?_
      have := Int.mul_le_mul_of_nonneg_right (show 1048577 ≤ fr + q by omega) (show 0 ≤ den by omega)
      omega
  have sb0 : -(1048576 * (dn : Int)) ≤ (fr + q) * dn + pn ∧ (fr + q) * dn + pn ≤ 1048576 * (dn : Int) := by
    have e : (gn : Int) * ((fr + q) * dn + pn) = fr * den + way * num := by rw [← key, ed, er]; grind
    rw [← e, ed] at hb
    have gp : (0 : Int) < gn := by omega
    constructor
    · refine Int.le_of_mul_le_mul_left ?_ gp
      have : (gn : Int) * -(1048576 * (dn : Int)) = -(1048576 * ((gn : Int) * dn)) := by grind
      omega
    · refine Int.le_of_mul_le_mul_left ?_ gp
      have : (gn : Int) * (1048576 * (dn : Int)) = 1048576 * ((gn : Int) * dn) := by grind
      omega
  have sb : -9223372036854775808 < (fr + q) * dn + pn ∧ (fr + q) * dn + pn ≤ 9223372036854775807 := by
    rcases Nat.eq_zero_or_pos pn with h0 | h0
    · rw [h0, Nat.gcd_zero_left] at cop
      subst cop
      omega
    · have a1 : (fr + q) * dn ≤ 1048575 * dn ∨ fr + q = 1048576 := by
        rcases Int.lt_or_le (fr + q) 1048576 with h | h
        · exact .inl (Int.mul_le_mul_of_nonneg_right (by omega) (by omega))
        · exact .inr (by omega)
      have a2 : -1048576 * dn ≤ (fr + q) * (dn : Int) := Int.mul_le_mul_of_nonneg_right (by omega) (by omega)
      rcases a1 with a1 | a1
      · omega
      · rw [a1] at sb0; omega
  refine ⟨gn, pn, dn, (fr + q) * dn + pn, by rw [hgn], by omega, ?_, ?_, ⟨by omega, by omega⟩, by omega, rfl, sb, ⟨by omega, by omega, by omega, by omega, by simpa using cop⟩, ?_⟩
  · rw [er, Int.mul_ediv_cancel_left _ (by omega)]
  · rw [ed, Int.mul_ediv_cancel_left _ (by omega)]
  · rw [← key, er]
    grind
end Go.Proofs.Ytdbknodifpmmoaa
end
