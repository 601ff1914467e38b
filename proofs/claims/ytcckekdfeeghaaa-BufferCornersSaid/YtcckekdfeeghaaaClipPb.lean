/-
  Walks of terrref3.Ok, BoxOk, PartOf. Conditions: what Part returns.
-/
import Derived.Test.YtcckekdfeeghaaaClipV
namespace Go.Proofs.Ytcckekdfeeghaaa
set_option linter.unusedSimpArgs false
set_option linter.unusedVariables false
open Go.RowKit Go.BigFrame

theorem okR_any (x y : Int) (w : World) : Calls Try.prog 32 #[.agg #[.int .i64 x, .int .i64 y]] w fun e w' => e = .returned (.bool (okP x y)) ∧ Since w w' := by
  have HF : Hid (okP x y = (decide (-1048576 ≤ x) && decide (x ≤ 1048576) && decide (-1048576 ≤ y) && decide (y ≤ 1048576))) := rfl
  cases h1 : decide (-1048576 ≤ x) <;> cases h2 : decide (x ≤ 1048576) <;> cases h3 : decide (-1048576 ≤ y) <;> cases h4 : decide (y ≤ 1048576)
  all_goals
    go_enter Try.func32, Try.ntmps32
    go_wp2
    go_ret
    exact ⟨ret_bool (by rw [HF.out, h1, h2, h3, h4]; rfl), (Since.rfl_ w).alloc _⟩

theorem okBR_any (lx ly hx hy : Int) (w : World) : Calls Try.prog 33 #[.agg #[.int .i64 lx, .int .i64 ly, .int .i64 hx, .int .i64 hy]] w fun e w' => e = .returned (.bool (okB lx ly hx hy)) ∧ Since w w' := by
  have HF : Hid (okB lx ly hx hy = (okP lx ly && okP hx hy && decide (lx ≤ hx) && decide (ly ≤ hy))) := rfl
  cases h1 : okP lx ly
  · go_enter Try.func33, Try.ntmps33
    go_wp2_with fail
    refine (okR_any _ _ _).mono ?_
    rintro e w1 ⟨rfl, hs⟩
    have HS := Lib.hid (((Since.rfl_ w).alloc _).trans hs)
    clear hs
    go_wp2
    go_ret
    exact ⟨ret_bool (by rw [HF.out, h1]; rfl), HS.out⟩
  · cases h2 : okP hx hy
    · go_enter Try.func33, Try.ntmps33
      go_wp2_with fail
      refine (okR_any _ _ _).mono ?_
      rintro e w1 ⟨rfl, hs⟩
      have HS := Lib.hid (((Since.rfl_ w).alloc _).trans hs)
      have hb := hs.blk (Blk.new w _ _)
      have c2 : w1.cell? ⟨w.heap.size, 2, none⟩ = some (.int .i64 hx) := hb.cell 2
      have c3 : w1.cell? ⟨w.heap.size, 3, none⟩ = some (.int .i64 hy) := hb.cell 3
      clear hs hb
      go_wp2_with fail
      refine (okR_any _ _ _).mono ?_
      rintro e w2 ⟨rfl, hs⟩
      have HS2 := Lib.hid (HS.out.trans hs)
      clear hs
      go_wp2
      go_ret
      exact ⟨ret_bool (by rw [HF.out, h1, h2]; rfl), HS2.out⟩
    · cases h3 : decide (lx ≤ hx)
      all_goals
        go_enter Try.func33, Try.ntmps33
        go_wp2_with fail
        refine (okR_any _ _ _).mono ?_
        rintro e w1 ⟨rfl, hs⟩
        have HS := Lib.hid (((Since.rfl_ w).alloc _).trans hs)
        have hb := hs.blk (Blk.new w _ _)
        have HB := Lib.hid hb
        have c2 : w1.cell? ⟨w.heap.size, 2, none⟩ = some (.int .i64 hx) := hb.cell 2
        have c3 : w1.cell? ⟨w.heap.size, 3, none⟩ = some (.int .i64 hy) := hb.cell 3
        clear hs hb
        go_wp2_with fail
        refine (okR_any _ _ _).mono ?_
        rintro e w2 ⟨rfl, hs⟩
        have HS2 := Lib.hid (HS.out.trans hs)
        have hb := hs.blk HB.out
        have c0' : w2.cell? ⟨w.heap.size, 0, none⟩ = some (.int .i64 lx) := hb.cell 0
        have c1' : w2.cell? ⟨w.heap.size, 1, none⟩ = some (.int .i64 ly) := hb.cell 1
        have c2' : w2.cell? ⟨w.heap.size, 2, none⟩ = some (.int .i64 hx) := hb.cell 2
        have c3' : w2.cell? ⟨w.heap.size, 3, none⟩ = some (.int .i64 hy) := hb.cell 3
        clear hs hb
        go_wp2
        go_ret
        exact ⟨ret_bool (by rw [HF.out, h1, h2, h3]; simp), HS2.out⟩

set_option maxRecDepth 100000 in
set_option maxHeartbeats 2000000 in
theorem atR_any (ga gc : Nat) (ax ay cx cy n d : Int) (w : World) (ha : Blk w ga 23 #[.int .i64 ax, .int .i64 ay]) (hc : Blk w gc 23 #[.int .i64 cx, .int .i64 cy])
    (h1 : okP ax ay = true) (h2 : okP cx cy = true) (hn : 0 ≤ n) (hnd : n ≤ d) (hd : 0 < d) (hd2 : d ≤ 2097152) :
    Calls Try.prog 82 #[.agg #[.int .i64 n, .int .i64 d], .pointer (some ⟨ga, 0, none⟩), .pointer (some ⟨gc, 0, none⟩)] w fun e w' =>
      e = .returned (.agg #[.int .i64 (ax + rnd ((cx - ax) * n) d), .int .i64 (ay + rnd ((cy - ay) * n) d)]) ∧ Since w w' := by
  rw [okP_iff] at h1 h2
  obtain ⟨⟨a1, a2⟩, a3, a4⟩ := h1
  obtain ⟨⟨c1, c2⟩, c3, c4⟩ := h2
  have la := ha.lt
  have lc := hc.lt
  have X1 := Lib.hid (fun w => along_any ax (cx - ax) n d w (by omega) (by omega) hn hnd hd (by omega) (Nat.lt_of_le_of_lt (mul_bd (A := 2097152) (B := 2097152) (by omega) (by omega)) (by decide)))
  have X2 := Lib.hid (fun w => along_any ay (cy - ay) n d w (by omega) (by omega) hn hnd hd (by omega) (Nat.lt_of_le_of_lt (mul_bd (A := 2097152) (B := 2097152) (by omega) (by omega)) (by decide)))
  go_enter Try.func82, Try.ntmps82
  go_upto_region 1 with fail
  refine atW (fun w' => Blk w' ga 23 #[.int .i64 ax, .int .i64 ay] ∧ Blk w' gc 23 #[.int .i64 cx, .int .i64 cy] ∧ Blk w' w.heap.size 106 #[.int .i64 n, .int .i64 d] ∧ Blk w' (w.heap.size + 1) 23 #[.int .i64 0, .int .i64 0] ∧ Since w w') ⟨(ha.alloc _).alloc _, (hc.alloc _).alloc _, (Blk.new w _ _).alloc _, Blk.new' (by simp), ((Since.rfl_ w).alloc _).alloc _⟩ ?_
  clear ha hc
  rintro w1 ⟨ha, hc, hr, hz, hs⟩
  have p_0 := ha.cell 0
  have p_1 := ha.cell 1
  have p_f0 := ha.frozen 0
  have p_f1 := ha.frozen 1
  simp only [List.getElem?_toArray, List.getElem?_cons_zero, List.getElem?_cons_succ] at p_0 p_1
  have q_0 := hc.cell 0
  have q_1 := hc.cell 1
  have q_f0 := hc.frozen 0
  have q_f1 := hc.frozen 1
  simp only [List.getElem?_toArray, List.getElem?_cons_zero, List.getElem?_cons_succ] at q_0 q_1
  have r_0 := hr.cell 0
  have r_1 := hr.cell 1
  have r_f0 := hr.frozen 0
  have r_f1 := hr.frozen 1
  simp only [List.getElem?_toArray, List.getElem?_cons_zero, List.getElem?_cons_succ] at r_0 r_1
  have HB := Lib.hid (And.intro hz hs)
  clear ha hc hr hz hs
  apply region_facts 25 (fun w' => w'.cell? ⟨ga, 0, none⟩ = some (.int .i64 ax) ∧ w'.cell? ⟨ga, 1, none⟩ = some (.int .i64 ay) ∧ w'.cell? ⟨gc, 0, none⟩ = some (.int .i64 cx) ∧ w'.cell? ⟨gc, 1, none⟩ = some (.int .i64 cy) ∧ w'.cell? ⟨w.heap.size, 0, none⟩ = some (.int .i64 n) ∧ w'.cell? ⟨w.heap.size, 1, none⟩ = some (.int .i64 d) ∧ Since w1 w')
  case hm => kernel_rfl
  case hB => kernel_rfl
  case hS => exact ⟨p_0, p_1, q_0, q_1, r_0, r_1, (Since.rfl_ w1).drew⟩
  case h =>
  simp only [List.take_succ_cons, List.take_zero, List.drop_succ_cons, List.drop_zero]
  apply wpO_det
  case hw => rfl
  case h =>
    intro hFm wx hS_ hF_ K hK
    go_big_quiet_op
    first
      | exact hK _ rfl
      | (apply Exists.intro; refine ⟨fun _ => ?_, ?_⟩; (focus (first | (intro hC; have hC := hC.out; (try simp only [hC, Result.andThen]); first | exact ⟨True.intro, rfl⟩ | exact ⟨rfl, rfl⟩ | rfl))); exact hK _ rfl)
  case k =>
  simp only [Act.put, List.setIfInBounds_toArray, List.set_cons_succ, List.set_cons_zero, List.cons_append, List.nil_append]
  apply wpO_det
  case hw => rfl
  case h =>
    intro hFm wx hS_ hF_ K hK
    go_big_quiet_op
    first
      | exact hK _ rfl
      | (apply Exists.intro; refine ⟨fun _ => ?_, ?_⟩; (focus (first | (intro hC; have hC := hC.out; (try simp only [hC, Result.andThen]); first | exact ⟨True.intro, rfl⟩ | exact ⟨rfl, rfl⟩ | rfl))); exact hK _ rfl)
  case k =>
  simp only [Act.put, List.setIfInBounds_toArray, List.set_cons_succ, List.set_cons_zero, List.cons_append, List.nil_append]
  apply wpO_det
  case hw => rfl
  case h =>
    intro hFm wx hS_ hF_ K hK
    go_big_quiet_op
    first
      | exact hK _ rfl
      | (apply Exists.intro; refine ⟨fun _ => ?_, ?_⟩; (focus (first | (intro hC; have hC := hC.out; (try simp only [hC, Result.andThen]); first | exact ⟨True.intro, rfl⟩ | exact ⟨rfl, rfl⟩ | rfl))); exact hK _ rfl)
  case k =>
  simp only [Act.put, List.setIfInBounds_toArray, List.set_cons_succ, List.set_cons_zero, List.cons_append, List.nil_append]
  apply wpO_det
  case hw => rfl
  case h =>
    intro hFm wx hS_ hF_ K hK
    go_big_quiet_op
    first
      | exact hK _ rfl
      | (apply Exists.intro; refine ⟨fun _ => ?_, ?_⟩; (focus (first | (intro hC; have hC := hC.out; (try simp only [hC, Result.andThen]); first | exact ⟨True.intro, rfl⟩ | exact ⟨rfl, rfl⟩ | rfl))); exact hK _ rfl)
  case k =>
  simp only [Act.put, List.setIfInBounds_toArray, List.set_cons_succ, List.set_cons_zero, List.cons_append, List.nil_append]
  apply wpO_det
  case hw => rfl
  case h =>
    intro hFm wx hS_ hF_ K hK
    go_big_quiet_op
    first
      | exact hK _ rfl
      | (apply Exists.intro; refine ⟨fun _ => ?_, ?_⟩; (focus (first | (intro hC; have hC := hC.out; (try simp only [hC, Result.andThen]); first | exact ⟨True.intro, rfl⟩ | exact ⟨rfl, rfl⟩ | rfl))); exact hK _ rfl)
  case k =>
  simp only [Act.put, List.setIfInBounds_toArray, List.set_cons_succ, List.set_cons_zero, List.cons_append, List.nil_append]
  apply wpO_det
  case hw => rfl
  case h =>
    intro hFm wx hS_ hF_ K hK
    go_big_quiet_op
    first
      | exact hK _ rfl
      | (apply Exists.intro; refine ⟨fun _ => ?_, ?_⟩; (focus (first | (intro hC; have hC := hC.out; (try simp only [hC, Result.andThen]); first | exact ⟨True.intro, rfl⟩ | exact ⟨rfl, rfl⟩ | rfl))); exact hK _ rfl)
  case k =>
  simp only [Act.put, List.setIfInBounds_toArray, List.set_cons_succ, List.set_cons_zero, List.cons_append, List.nil_append]
  apply wpO_det
  case hw => rfl
  case h =>
    intro hFm wx hS_ hF_ K hK
    go_big_quiet_op
    first
      | exact hK _ rfl
      | (apply Exists.intro; refine ⟨fun _ => ?_, ?_⟩; (focus (first | (intro hC; have hC := hC.out; (try simp only [hC, Result.andThen]); first | exact ⟨True.intro, rfl⟩ | exact ⟨rfl, rfl⟩ | rfl))); exact hK _ rfl)
  case k =>
  simp only [Act.put, List.setIfInBounds_toArray, List.set_cons_succ, List.set_cons_zero, List.cons_append, List.nil_append]
  apply wpO_det
  case hw => rfl
  case h =>
    intro hFm wx hS_ hF_ K hK
    go_big_quiet_op
    first
      | exact hK _ rfl
      | (apply Exists.intro; refine ⟨fun _ => ?_, ?_⟩; (focus (first | (intro hC; have hC := hC.out; (try simp only [hC, Result.andThen]); first | exact ⟨True.intro, rfl⟩ | exact ⟨rfl, rfl⟩ | rfl))); exact hK _ rfl)
  case k =>
  simp only [Act.put, List.setIfInBounds_toArray, List.set_cons_succ, List.set_cons_zero, List.cons_append, List.nil_append]
  apply wpO_det
  case hw => rfl
  case h =>
    intro hFm wx hS_ hF_ K hK
    go_big_quiet_op
    first
      | exact hK _ rfl
      | (apply Exists.intro; refine ⟨fun _ => ?_, ?_⟩; (focus (first | (intro hC; have hC := hC.out; (try simp only [hC, Result.andThen]); first | exact ⟨True.intro, rfl⟩ | exact ⟨rfl, rfl⟩ | rfl))); exact hK _ rfl)
  case k =>
  simp only [Act.put, List.setIfInBounds_toArray, List.set_cons_succ, List.set_cons_zero, List.cons_append, List.nil_append]
  apply wpO_det
  case hw => rfl
  case h =>
    intro hFm wx hS_ hF_ K hK
    go_big_quiet_op
    first
      | exact hK _ rfl
      | (apply Exists.intro; refine ⟨fun _ => ?_, ?_⟩; (focus (first | (intro hC; have hC := hC.out; (try simp only [hC, Result.andThen]); first | exact ⟨True.intro, rfl⟩ | exact ⟨rfl, rfl⟩ | rfl))); exact hK _ rfl)
  case k =>
  simp only [Act.put, List.setIfInBounds_toArray, List.set_cons_succ, List.set_cons_zero, List.cons_append, List.nil_append]
  apply wpO_det
  case hw => rfl
  case h =>
    intro hFm wx hS_ hF_ K hK
    go_big_quiet_op
    first
      | exact hK _ rfl
      | (apply Exists.intro; refine ⟨fun _ => ?_, ?_⟩; (focus (first | (intro hC; have hC := hC.out; (try simp only [hC, Result.andThen]); first | exact ⟨True.intro, rfl⟩ | exact ⟨rfl, rfl⟩ | rfl))); exact hK _ rfl)
  case k =>
  simp only [Act.put, List.setIfInBounds_toArray, List.set_cons_succ, List.set_cons_zero, List.cons_append, List.nil_append]
  apply wpO_det
  case hw => rfl
  case h =>
    intro hFm wx hS_ hF_ K hK
    go_big_quiet_op
    first
      | exact hK _ rfl
      | (apply Exists.intro; refine ⟨fun _ => ?_, ?_⟩; (focus (first | (intro hC; go_at_call 83; refine (X1.out _).mono ?_; rintro e w' ⟨rfl, hb⟩; refine ⟨rfl, ?_⟩; exact cls_call hFm hC hb))); exact hK _ rfl)
  case k =>
  simp only [Act.put, List.setIfInBounds_toArray, List.set_cons_succ, List.set_cons_zero, List.cons_append, List.nil_append]
  apply wpO_det
  case hw => rfl
  case h =>
    intro hFm wx hS_ hF_ K hK
    go_big_quiet_op
    first
      | exact hK _ rfl
      | (apply Exists.intro; refine ⟨fun _ => ?_, ?_⟩; (focus (first | (intro hC; have hC := hC.out; (try simp only [hC, Result.andThen]); first | exact ⟨True.intro, rfl⟩ | exact ⟨rfl, rfl⟩ | rfl))); exact hK _ rfl)
  case k =>
  simp only [Act.put, List.setIfInBounds_toArray, List.set_cons_succ, List.set_cons_zero, List.cons_append, List.nil_append]
  apply wpO_det
  case hw => rfl
  case h =>
    intro hFm wx hS_ hF_ K hK
    go_big_quiet_op
    first
      | exact hK _ rfl
      | (apply Exists.intro; refine ⟨fun _ => ?_, ?_⟩; (focus (first | (intro hC; have hC := hC.out; (try simp only [hC, Result.andThen]); first | exact ⟨True.intro, rfl⟩ | exact ⟨rfl, rfl⟩ | rfl))); exact hK _ rfl)
  case k =>
  simp only [Act.put, List.setIfInBounds_toArray, List.set_cons_succ, List.set_cons_zero, List.cons_append, List.nil_append]
  apply wpO_det
  case hw => rfl
  case h =>
    intro hFm wx hS_ hF_ K hK
    go_big_quiet_op
    first
      | exact hK _ rfl
      | (apply Exists.intro; refine ⟨fun _ => ?_, ?_⟩; (focus (first | (intro hC; have hC := hC.out; (try simp only [hC, Result.andThen]); first | exact ⟨True.intro, rfl⟩ | exact ⟨rfl, rfl⟩ | rfl))); exact hK _ rfl)
  case k =>
  simp only [Act.put, List.setIfInBounds_toArray, List.set_cons_succ, List.set_cons_zero, List.cons_append, List.nil_append]
  apply wpO_det
  case hw => rfl
  case h =>
    intro hFm wx hS_ hF_ K hK
    go_big_quiet_op
    first
      | exact hK _ rfl
      | (apply Exists.intro; refine ⟨fun _ => ?_, ?_⟩; (focus (first | (intro hC; have hC := hC.out; (try simp only [hC, Result.andThen]); first | exact ⟨True.intro, rfl⟩ | exact ⟨rfl, rfl⟩ | rfl))); exact hK _ rfl)
  case k =>
  simp only [Act.put, List.setIfInBounds_toArray, List.set_cons_succ, List.set_cons_zero, List.cons_append, List.nil_append]
  apply wpO_det
  case hw => rfl
  case h =>
    intro hFm wx hS_ hF_ K hK
    go_big_quiet_op
    first
      | exact hK _ rfl
      | (apply Exists.intro; refine ⟨fun _ => ?_, ?_⟩; (focus (first | (intro hC; have hC := hC.out; (try simp only [hC, Result.andThen]); first | exact ⟨True.intro, rfl⟩ | exact ⟨rfl, rfl⟩ | rfl))); exact hK _ rfl)
  case k =>
  simp only [Act.put, List.setIfInBounds_toArray, List.set_cons_succ, List.set_cons_zero, List.cons_append, List.nil_append]
  apply wpO_det
  case hw => rfl
  case h =>
    intro hFm wx hS_ hF_ K hK
    go_big_quiet_op
    first
      | exact hK _ rfl
      | (apply Exists.intro; refine ⟨fun _ => ?_, ?_⟩; (focus (first | (intro hC; have hC := hC.out; (try simp only [hC, Result.andThen]); first | exact ⟨True.intro, rfl⟩ | exact ⟨rfl, rfl⟩ | rfl))); exact hK _ rfl)
  case k =>
  simp only [Act.put, List.setIfInBounds_toArray, List.set_cons_succ, List.set_cons_zero, List.cons_append, List.nil_append]
  apply wpO_det
  case hw => rfl
  case h =>
    intro hFm wx hS_ hF_ K hK
    go_big_quiet_op
    first
      | exact hK _ rfl
      | (apply Exists.intro; refine ⟨fun _ => ?_, ?_⟩; (focus (first | (intro hC; have hC := hC.out; (try simp only [hC, Result.andThen]); first | exact ⟨True.intro, rfl⟩ | exact ⟨rfl, rfl⟩ | rfl))); exact hK _ rfl)
  case k =>
  simp only [Act.put, List.setIfInBounds_toArray, List.set_cons_succ, List.set_cons_zero, List.cons_append, List.nil_append]
  apply wpO_det
  case hw => rfl
  case h =>
    intro hFm wx hS_ hF_ K hK
    go_big_quiet_op
    first
      | exact hK _ rfl
      | (apply Exists.intro; refine ⟨fun _ => ?_, ?_⟩; (focus (first | (intro hC; have hC := hC.out; (try simp only [hC, Result.andThen]); first | exact ⟨True.intro, rfl⟩ | exact ⟨rfl, rfl⟩ | rfl))); exact hK _ rfl)
  case k =>
  simp only [Act.put, List.setIfInBounds_toArray, List.set_cons_succ, List.set_cons_zero, List.cons_append, List.nil_append]
  apply wpO_det
  case hw => rfl
  case h =>
    intro hFm wx hS_ hF_ K hK
    go_big_quiet_op
    first
      | exact hK _ rfl
      | (apply Exists.intro; refine ⟨fun _ => ?_, ?_⟩; (focus (first | (intro hC; have hC := hC.out; (try simp only [hC, Result.andThen]); first | exact ⟨True.intro, rfl⟩ | exact ⟨rfl, rfl⟩ | rfl))); exact hK _ rfl)
  case k =>
  simp only [Act.put, List.setIfInBounds_toArray, List.set_cons_succ, List.set_cons_zero, List.cons_append, List.nil_append]
  apply wpO_det
  case hw => rfl
  case h =>
    intro hFm wx hS_ hF_ K hK
    go_big_quiet_op
    first
      | exact hK _ rfl
      | (apply Exists.intro; refine ⟨fun _ => ?_, ?_⟩; (focus (first | (intro hC; have hC := hC.out; (try simp only [hC, Result.andThen]); first | exact ⟨True.intro, rfl⟩ | exact ⟨rfl, rfl⟩ | rfl))); exact hK _ rfl)
  case k =>
  simp only [Act.put, List.setIfInBounds_toArray, List.set_cons_succ, List.set_cons_zero, List.cons_append, List.nil_append]
  apply wpO_det
  case hw => rfl
  case h =>
    intro hFm wx hS_ hF_ K hK
    go_big_quiet_op
    first
      | exact hK _ rfl
      | (apply Exists.intro; refine ⟨fun _ => ?_, ?_⟩; (focus (first | (intro hC; have hC := hC.out; (try simp only [hC, Result.andThen]); first | exact ⟨True.intro, rfl⟩ | exact ⟨rfl, rfl⟩ | rfl))); exact hK _ rfl)
  case k =>
  simp only [Act.put, List.setIfInBounds_toArray, List.set_cons_succ, List.set_cons_zero, List.cons_append, List.nil_append]
  apply wpO_det
  case hw => rfl
  case h =>
    intro hFm wx hS_ hF_ K hK
    go_big_quiet_op
    first
      | exact hK _ rfl
      | (apply Exists.intro; refine ⟨fun _ => ?_, ?_⟩; (focus (first | (intro hC; go_at_call 83; refine (X2.out _).mono ?_; rintro e w' ⟨rfl, hb⟩; refine ⟨rfl, ?_⟩; exact cls_call hFm hC hb))); exact hK _ rfl)
  case k =>
  simp only [Act.put, List.setIfInBounds_toArray, List.set_cons_succ, List.set_cons_zero, List.cons_append, List.nil_append]
  apply wpO_det
  case hw => rfl
  case h =>
    intro hFm wx hS_ hF_ K hK
    go_big_quiet_op
    first
      | exact hK _ rfl
      | (apply Exists.intro; refine ⟨fun _ => ?_, ?_⟩; (focus (first | (intro hC; have hC := hC.out; (try simp only [hC, Result.andThen]); first | exact ⟨True.intro, rfl⟩ | exact ⟨rfl, rfl⟩ | rfl))); exact hK _ rfl)
  case k =>
  simp only [Act.put, List.setIfInBounds_toArray, List.set_cons_succ, List.set_cons_zero, List.cons_append, List.nil_append]
  refine wpO_nil ?_
  intro w2 hS hF hB
  (try simp [allF] at hF)
  (try simp [List.pairwise_cons] at hB)
  have hs := hS.2.2.2.2.2.2
  clear hS hF hB
  have hz := hs.blk HB.out.1
  have z_0 := hz.cell 0
  have z_1 := hz.cell 1
  have z_f0 := hz.frozen 0
  have z_f1 := hz.frozen 1
  simp only [List.getElem?_toArray, List.getElem?_cons_zero, List.getElem?_cons_succ] at z_0 z_1
  have HS := Lib.hid (HB.out.2.trans hs)
  clear hs hz HB p_0 p_1 q_0 q_1 r_0 r_1
  go_wp2
  refine bodyPost_ret (v := .agg #[.int .i64 (ax + rnd ((cx - ax) * n) d), .int .i64 (ay + rnd ((cy - ay) * n) d)]) (by simp [results, Try.results82, go_sem, cSetS, cSetO, z_0, z_1]) rfl ⟨rfl, ?_⟩
  exact (HS.out.setCell (by dsimp only; omega) _).setCell (by dsimp only; omega) _
end Go.Proofs.Ytcckekdfeeghaaa
