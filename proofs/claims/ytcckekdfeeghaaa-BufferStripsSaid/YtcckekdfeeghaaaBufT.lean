/-
  The walk of ring.apart at a hull's corners. Conditions: the corners of a hull.
-/
import Derived.Test.YtcckekdfeeghaaaHullF
import Derived.Test.YtcckekdfeeghaaaFactsF
namespace Go.Proofs.Ytcckekdfeeghaaa
set_option linter.unusedSimpArgs false
set_option linter.unusedVariables false
open Go.RowKit Go.BigFrame
attribute [local go_sem ↓] eqPt neqPt

set_option maxRecDepth 100000 in
set_option maxHeartbeats 4000000 in
theorem apart_any {l H : List Pt2} (v : Value) (k i : Nat) (w : World) (hv : PtsS w v H) (hR : Ring3 l H) (ok : ∀ q ∈ H, okP q.1 q.2 = true) (hki : k < i) (hi : i < H.length) (hl : H.length ≤ 1000000) :
    Calls Try.prog 93 #[v, .int .i64 k, .int .i64 i] w fun e w' => e = .returned (.bool true) ∧ Since w w' := by
  obtain ⟨n, HN⟩ : ∃ n, Hid (n = H.length) := ⟨_, rfl⟩
  have hn : n = H.length := HN.out
  obtain ⟨j, HJ⟩ : ∃ j, Hid (j = (k + 1) % H.length) := ⟨_, rfl⟩
  obtain ⟨m, HM⟩ : ∃ m, Hid (m = (i + 1) % H.length) := ⟨_, rfl⟩
  have n3 := hR.n3
  have hml : m < n := by rw [HM.out, hn]; exact Nat.mod_lt _ (by omega)
  have hjl : j < n := by rw [HJ.out, hn]; exact Nat.mod_lt _ (by omega)
  obtain ⟨x, c, rfl, hpts⟩ := hv
  obtain ⟨g, o, ha, a0, a1⟩ := hpts k (by omega)
  subst ha
  have cell : ∀ t, t < n → w.cell? ⟨g, o + t * 2, none⟩ = some (.int .i64 (pAt H t).1) ∧ w.cell? ⟨g, o + t * 2 + 1, none⟩ = some (.int .i64 (pAt H t).2) := fun t ht => by
    obtain ⟨g', o', ha, e0, e1⟩ := hpts t (by omega)
    injection ha with ha
    injection ha with ha1 ha2
    subst ha1 ha2
    exact ⟨e0, e1⟩
  obtain ⟨b0, b1⟩ := cell j hjl
  obtain ⟨c0, c1⟩ := cell i (by omega)
  obtain ⟨d0, d1⟩ := cell m hml
  have gl : g < w.heap.size := World.block_lt_of_cell? w _ a0
  obtain ⟨a, HA⟩ : ∃ a, Hid (a = pAt H k) := ⟨_, rfl⟩
  obtain ⟨b, HB⟩ : ∃ b, Hid (b = pAt H j) := ⟨_, rfl⟩
  obtain ⟨cc, HC⟩ : ∃ cc, Hid (cc = pAt H i) := ⟨_, rfl⟩
  obtain ⟨d, HD⟩ : ∃ d, Hid (d = pAt H m) := ⟨_, rfl⟩
  rw [← HA.out] at a0 a1
  rw [← HB.out] at b0 b1
  rw [← HC.out] at c0 c1
  rw [← HD.out] at d0 d1
  have okk := ok _ (pAt_mem (s := H) (i := k) (by omega))
  have okj := ok _ (pAt_mem (s := H) (i := j) (by omega))
  have oki := ok _ (pAt_mem (s := H) (i := i) hi)
  have okm := ok _ (pAt_mem (s := H) (i := m) (by omega))
  have eab := hR.edge k (by omega)
  have ecd := hR.edge i hi
  rw [← HJ.out, ← HA.out, ← HB.out] at eab
  rw [← HM.out, ← HC.out, ← HD.out] at ecd
  rw [← HA.out] at okk
  rw [← HB.out] at okj
  rw [← HC.out] at oki
  rw [← HD.out] at okm
  have HMT := Lib.hid (fun w => SMeet_any okk okj oki okm (eab.2.1 cc (by rw [HC.out]; exact hR.mem i hi)) (eab.2.1 d (by rw [HD.out]; exact hR.mem m (by omega))) w)
  have hsl : Hid ((sharedL a b cc d).length = if j = i ∨ m = k then 1 else 0) := by
    show _ = _
    rw [HA.out, HB.out, HC.out, HD.out]; exact shared_len hR ok hki hi HJ.out HM.out
  rw [hsl.out] at HMT
  have nab := eab.1
  have ncd := ecd.1
  have jw : ((k : Int) + 1) % (n : Int) = (j : Int) := by rw [HJ.out, hn]; norm_cast
  have mw : ((i : Int) + 1) % (n : Int) = (m : Int) := by rw [HM.out, hn]; norm_cast
  have jw2 : ((k : Int) + 1).tmod (n : Int) = (j : Int) := by rw [Int.tmod_eq_emod_of_nonneg (by omega)]; exact jw
  have mw2 : ((i : Int) + 1).tmod (n : Int) = (m : Int) := by rw [Int.tmod_eq_emod_of_nonneg (by omega)]; exact mw
  have hjk : j = k + 1 := by rw [HJ.out]; exact Nat.mod_eq_of_lt (by omega)
  have HJK := Lib.hid hjk
  clear hjk
  have i1 : (0 : Int) ≤ (k : Int) := by omega
  have i2 : (k : Int) < (n : Int) := by omega
  have i3 : (0 : Int) ≤ (i : Int) := by omega
  have i4 : (i : Int) < (n : Int) := by omega
  have i5 : (0 : Int) ≤ (j : Int) := by omega
  have i6 : (j : Int) < (n : Int) := by omega
  have i7 : (0 : Int) ≤ (m : Int) := by omega
  have i8 : (m : Int) < (n : Int) := by omega
  have i9 : ((n : Int) = 0) = False := by simp; omega
  have hnb : n ≤ 1000000 := by omega
  rw [← hn]
  clear cell hpts eab ecd hn hR ok hi n3 hl hsl okk okj oki okm
  go_enter Try.func93, Try.ntmps93
  go_upto_region 2 with fail
  go_cut [8, 9, 10, 11] from 14 to 72 (fun v8 v9 v10 v11 w' => ∃ g8 g9 g10 g11 : Nat, v8 = .pointer (some ⟨g8, 0, none⟩) ∧ v9 = .pointer (some ⟨g9, 0, none⟩) ∧ v10 = .pointer (some ⟨g10, 0, none⟩) ∧ v11 = .pointer (some ⟨g11, 0, none⟩) ∧ Blk w' g8 23 #[.int .i64 a.1, .int .i64 a.2] ∧ Blk w' g9 23 #[.int .i64 b.1, .int .i64 b.2] ∧ Blk w' g10 23 #[.int .i64 cc.1, .int .i64 cc.2] ∧ Blk w' g11 23 #[.int .i64 d.1, .int .i64 d.2] ∧ Since w w')
  case first =>
    have KF := Lib.hid (fun w' (h : Since w w') => (show w'.cell? ⟨g, o + k * 2, none⟩ = some (.int .i64 a.1) ∧ w'.cell? ⟨g, o + k * 2 + 1, none⟩ = some (.int .i64 a.2) ∧ w'.cell? ⟨g, o + j * 2, none⟩ = some (.int .i64 b.1) ∧ w'.cell? ⟨g, o + j * 2 + 1, none⟩ = some (.int .i64 b.2) ∧ w'.cell? ⟨g, o + i * 2, none⟩ = some (.int .i64 cc.1) ∧ w'.cell? ⟨g, o + i * 2 + 1, none⟩ = some (.int .i64 cc.2) ∧ w'.cell? ⟨g, o + m * 2, none⟩ = some (.int .i64 d.1) ∧ w'.cell? ⟨g, o + m * 2 + 1, none⟩ = some (.int .i64 d.2) from
      ⟨keepC h _ _ a0, keepC h _ _ a1, keepC h _ _ b0, keepC h _ _ b1, keepC h _ _ c0, keepC h _ _ c1, keepC h _ _ d0, keepC h _ _ d1⟩))
    apply region_factsF 30 (fun w' => Since w w')
    case hm => kernel_rfl
    case hB => kernel_rfl
    case hS => exact (Since.rfl_ w).drew
    case hmono => exact (fun w1 w2 h k => Below.trans h k)
    case h =>
    simp only [List.take_succ_cons, List.take_zero, List.drop_succ_cons, List.drop_zero]
    apply wpO_detF
    case hw => rfl
    case h =>
      intro hFm wx hS_ hF_ hbx K hK
      go_big_quiet_op
      first
        | exact hK _ rfl
        | (apply Exists.intro; refine ⟨fun _ => ?_, ?_⟩; (focus (first | (intro hC; have hC := KF.out _ hC.out.1; (try simp only [hC, Result.andThen]); first | exact ⟨True.intro, rfl⟩ | exact ⟨rfl, rfl⟩ | rfl))); exact hK _ rfl)
    case k =>
    simp only [Act.put, List.setIfInBounds_toArray, List.set_cons_succ, List.set_cons_zero, List.cons_append, List.nil_append]
    apply wpO_detF
    case hw => rfl
    case h =>
      intro hFm wx hS_ hF_ hbx K hK
      go_big_quiet_op
      first
        | exact hK _ rfl
        | (apply Exists.intro; refine ⟨fun _ => ?_, ?_⟩; (focus (first | (intro hC; have hC := KF.out _ hC.out.1; (try simp only [hC, Result.andThen]); first | exact ⟨True.intro, rfl⟩ | exact ⟨rfl, rfl⟩ | rfl))); exact hK _ rfl)
    case k =>
    simp only [Act.put, List.setIfInBounds_toArray, List.set_cons_succ, List.set_cons_zero, List.cons_append, List.nil_append]
    apply wpO_detF
    case hw => rfl
    case h =>
      intro hFm wx hS_ hF_ hbx K hK
      go_big_quiet_op
      first
        | exact hK _ rfl
        | (apply Exists.intro; refine ⟨fun _ => ?_, ?_⟩; (focus (first | (intro hC; have hC := KF.out _ hC.out.1; (try simp only [hC, Result.andThen]); first | exact ⟨True.intro, rfl⟩ | exact ⟨rfl, rfl⟩ | rfl))); exact hK _ rfl)
    case k =>
    simp only [Act.put, List.setIfInBounds_toArray, List.set_cons_succ, List.set_cons_zero, List.cons_append, List.nil_append]
    apply wpO_detF
    case hw => rfl
    case h =>
      intro hFm wx hS_ hF_ hbx K hK
      go_big_quiet_op
      first
        | exact hK _ rfl
        | (apply Exists.intro; refine ⟨fun _ => ?_, ?_⟩; (focus (first | (intro hC; have hC := KF.out _ hC.out.1; (try simp only [hC, Result.andThen]); first | exact ⟨True.intro, rfl⟩ | exact ⟨rfl, rfl⟩ | rfl))); exact hK _ rfl)
    case k =>
    simp only [Act.put, List.setIfInBounds_toArray, List.set_cons_succ, List.set_cons_zero, List.cons_append, List.nil_append]
    apply wpO_detF
    case hw => rfl
    case h =>
      intro hFm wx hS_ hF_ hbx K hK
      go_big_quiet_op
      first
        | exact hK _ rfl
        | (apply Exists.intro; refine ⟨fun _ => ?_, ?_⟩; (focus (first | (intro hC; have hC := KF.out _ hC.out.1; (try simp only [hC, Result.andThen]); first | exact ⟨True.intro, rfl⟩ | exact ⟨rfl, rfl⟩ | rfl))); exact hK _ rfl)
    case k =>
    simp only [Act.put, List.setIfInBounds_toArray, List.set_cons_succ, List.set_cons_zero, List.cons_append, List.nil_append]
    apply wpO_detF
    case hw => rfl
    case h =>
      intro hFm wx hS_ hF_ hbx K hK
      go_big_quiet_op
      first
        | exact hK _ rfl
        | (apply Exists.intro; refine ⟨fun _ => ?_, ?_⟩; (focus (first | (intro hC; have hC := KF.out _ hC.out.1; (try simp only [hC, Result.andThen]); first | exact ⟨True.intro, rfl⟩ | exact ⟨rfl, rfl⟩ | rfl))); exact hK _ rfl)
    case k =>
    simp only [Act.put, List.setIfInBounds_toArray, List.set_cons_succ, List.set_cons_zero, List.cons_append, List.nil_append]
    apply wpO_detF
    case hw => rfl
    case h =>
      intro hFm wx hS_ hF_ hbx K hK
      go_big_quiet_op
      first
        | exact hK _ rfl
        | (apply Exists.intro; refine ⟨fun _ => ?_, ?_⟩; (focus (first | (intro hC; have hC := KF.out _ hC.out.1; (try simp only [hC, Result.andThen]); first | exact ⟨True.intro, rfl⟩ | exact ⟨rfl, rfl⟩ | rfl))); exact hK _ rfl)
    case k =>
    simp only [Act.put, List.setIfInBounds_toArray, List.set_cons_succ, List.set_cons_zero, List.cons_append, List.nil_append]
    apply wpO_detF
    case hw => rfl
    case h =>
      intro hFm wx hS_ hF_ hbx K hK
      go_big_quiet_op
      first
        | exact hK _ rfl
        | (apply Exists.intro; refine ⟨fun _ => ?_, ?_⟩; (focus (first | (intro hC; have hC := KF.out _ hC.out.1; (try simp only [hC, Result.andThen]); first | exact ⟨True.intro, rfl⟩ | exact ⟨rfl, rfl⟩ | rfl))); exact hK _ rfl)
    case k =>
    simp only [Act.put, List.setIfInBounds_toArray, List.set_cons_succ, List.set_cons_zero, List.cons_append, List.nil_append]
    apply wpO_detF
    case hw => rfl
    case h =>
      intro hFm wx hS_ hF_ hbx K hK
      go_big_quiet_op
      first
        | exact hK _ rfl
        | (apply Exists.intro; refine ⟨fun _ => ?_, ?_⟩; (focus (first | (intro hC; have hC := KF.out _ hC.out.1; (try simp only [hC, Result.andThen]); first | exact ⟨True.intro, rfl⟩ | exact ⟨rfl, rfl⟩ | rfl))); exact hK _ rfl)
    case k =>
    simp only [Act.put, List.setIfInBounds_toArray, List.set_cons_succ, List.set_cons_zero, List.cons_append, List.nil_append]
    apply wpO_detF
    case hw => rfl
    case h =>
      intro hFm wx hS_ hF_ hbx K hK
      go_big_quiet_op
      first
        | exact hK _ rfl
        | (apply Exists.intro; refine ⟨fun _ => ?_, ?_⟩; (focus (first | (intro hC; have hC := KF.out _ hC.out.1; (try simp only [hC, Result.andThen]); first | exact ⟨True.intro, rfl⟩ | exact ⟨rfl, rfl⟩ | rfl))); exact hK _ rfl)
    case k =>
    simp only [Act.put, List.setIfInBounds_toArray, List.set_cons_succ, List.set_cons_zero, List.cons_append, List.nil_append]
    apply wpO_detF
    case hw => rfl
    case h =>
      intro hFm wx hS_ hF_ hbx K hK
      go_big_quiet_op
      first
        | exact hK _ rfl
        | (apply Exists.intro; refine ⟨fun _ => ?_, ?_⟩; (focus (first | (intro hC; have hC := KF.out _ hC.out.1; (try simp only [hC, Result.andThen]); first | exact ⟨True.intro, rfl⟩ | exact ⟨rfl, rfl⟩ | rfl))); exact hK _ rfl)
    case k =>
    simp only [Act.put, List.setIfInBounds_toArray, List.set_cons_succ, List.set_cons_zero, List.cons_append, List.nil_append]
    apply wpO_detF
    case hw => rfl
    case h =>
      intro hFm wx hS_ hF_ hbx K hK
      go_big_quiet_op
      first
        | exact hK _ rfl
        | (apply Exists.intro; refine ⟨fun _ => ?_, ?_⟩; (focus (first | (intro hC; have hC := KF.out _ hC.out.1; (try simp only [hC, Result.andThen]); first | exact ⟨True.intro, rfl⟩ | exact ⟨rfl, rfl⟩ | rfl))); exact hK _ rfl)
    case k =>
    simp only [Act.put, List.setIfInBounds_toArray, List.set_cons_succ, List.set_cons_zero, List.cons_append, List.nil_append]
    apply wpO_detF
    case hw => rfl
    case h =>
      intro hFm wx hS_ hF_ hbx K hK
      go_big_quiet_op
      first
        | exact hK _ rfl
        | (apply Exists.intro; refine ⟨fun _ => ?_, ?_⟩; (focus (first | (intro hC; have hC := KF.out _ hC.out.1; (try simp only [hC, Result.andThen]); first | exact ⟨True.intro, rfl⟩ | exact ⟨rfl, rfl⟩ | rfl))); exact hK _ rfl)
    case k =>
    simp only [Act.put, List.setIfInBounds_toArray, List.set_cons_succ, List.set_cons_zero, List.cons_append, List.nil_append]
    apply wpO_detF
    case hw => rfl
    case h =>
      intro hFm wx hS_ hF_ hbx K hK
      go_big_quiet_op
      first
        | exact hK _ rfl
        | (apply Exists.intro; refine ⟨fun _ => ?_, ?_⟩; (focus (first | (intro hC; have hC := KF.out _ hC.out.1; (try simp only [hC, Result.andThen]); first | exact ⟨True.intro, rfl⟩ | exact ⟨rfl, rfl⟩ | rfl))); exact hK _ rfl)
    case k =>
    simp only [Act.put, List.setIfInBounds_toArray, List.set_cons_succ, List.set_cons_zero, List.cons_append, List.nil_append]
    apply wpO_detF
    case hw => rfl
    case h =>
      intro hFm wx hS_ hF_ hbx K hK
      go_big_quiet_op
      first
        | exact hK _ rfl
        | (apply Exists.intro; refine ⟨fun _ => ?_, ?_⟩; (focus (first | (intro hC; have hC := KF.out _ hC.out.1; (try simp only [hC, Result.andThen]); first | exact ⟨True.intro, rfl⟩ | exact ⟨rfl, rfl⟩ | rfl))); exact hK _ rfl)
    case k =>
    simp only [Act.put, List.setIfInBounds_toArray, List.set_cons_succ, List.set_cons_zero, List.cons_append, List.nil_append]
    apply wpO_detF
    case hw => rfl
    case h =>
      intro hFm wx hS_ hF_ hbx K hK
      go_big_quiet_op
      first
        | exact hK _ rfl
        | (apply Exists.intro; refine ⟨fun _ => ?_, ?_⟩; (focus (first | (intro hC; have hC := KF.out _ hC.out.1; (try simp only [hC, Result.andThen]); first | exact ⟨True.intro, rfl⟩ | exact ⟨rfl, rfl⟩ | rfl))); exact hK _ rfl)
    case k =>
    simp only [Act.put, List.setIfInBounds_toArray, List.set_cons_succ, List.set_cons_zero, List.cons_append, List.nil_append]
    apply wpO_detF
    case hw => rfl
    case h =>
      intro hFm wx hS_ hF_ hbx K hK
      go_big_quiet_op
      first
        | exact hK _ rfl
        | (apply Exists.intro; refine ⟨fun _ => ?_, ?_⟩; (focus (first | (intro hC; have hC := KF.out _ hC.out.1; (try simp only [hC, Result.andThen]); first | exact ⟨True.intro, rfl⟩ | exact ⟨rfl, rfl⟩ | rfl))); exact hK _ rfl)
    case k =>
    simp only [Act.put, List.setIfInBounds_toArray, List.set_cons_succ, List.set_cons_zero, List.cons_append, List.nil_append]
    apply wpO_detF
    case hw => rfl
    case h =>
      intro hFm wx hS_ hF_ hbx K hK
      go_big_quiet_op
      first
        | exact hK _ rfl
        | (apply Exists.intro; refine ⟨fun _ => ?_, ?_⟩; (focus (first | (intro hC; have hC := KF.out _ hC.out.1; (try simp only [hC, Result.andThen]); first | exact ⟨True.intro, rfl⟩ | exact ⟨rfl, rfl⟩ | rfl))); exact hK _ rfl)
    case k =>
    simp only [Act.put, List.setIfInBounds_toArray, List.set_cons_succ, List.set_cons_zero, List.cons_append, List.nil_append]
    apply wpO_detF
    case hw => rfl
    case h =>
      intro hFm wx hS_ hF_ hbx K hK
      go_big_quiet_op
      first
        | exact hK _ rfl
        | (apply Exists.intro; refine ⟨fun _ => ?_, ?_⟩; (focus (first | (intro hC; have hC := KF.out _ hC.out.1; (try simp only [hC, Result.andThen]); first | exact ⟨True.intro, rfl⟩ | exact ⟨rfl, rfl⟩ | rfl))); exact hK _ rfl)
    case k =>
    simp only [Act.put, List.setIfInBounds_toArray, List.set_cons_succ, List.set_cons_zero, List.cons_append, List.nil_append]
    apply wpO_detF
    case hw => rfl
    case h =>
      intro hFm wx hS_ hF_ hbx K hK
      go_big_quiet_op
      first
        | exact hK _ rfl
        | (apply Exists.intro; refine ⟨fun _ => ?_, ?_⟩; (focus (first | (intro hC; have hC := KF.out _ hC.out.1; (try simp only [hC, Result.andThen]); first | exact ⟨True.intro, rfl⟩ | exact ⟨rfl, rfl⟩ | rfl))); exact hK _ rfl)
    case k =>
    simp only [Act.put, List.setIfInBounds_toArray, List.set_cons_succ, List.set_cons_zero, List.cons_append, List.nil_append]
    apply wpO_detF
    case hw => rfl
    case h =>
      intro hFm wx hS_ hF_ hbx K hK
      go_big_quiet_op
      first
        | exact hK _ rfl
        | (apply Exists.intro; refine ⟨fun _ => ?_, ?_⟩; (focus (first | (intro hC; have hC := KF.out _ hC.out.1; (try simp only [hC, Result.andThen]); first | exact ⟨True.intro, rfl⟩ | exact ⟨rfl, rfl⟩ | rfl))); exact hK _ rfl)
    case k =>
    simp only [Act.put, List.setIfInBounds_toArray, List.set_cons_succ, List.set_cons_zero, List.cons_append, List.nil_append]
    apply wpO_detF
    case hw => rfl
    case h =>
      intro hFm wx hS_ hF_ hbx K hK
      go_big_quiet_op
      first
        | exact hK _ rfl
        | (apply Exists.intro; refine ⟨fun _ => ?_, ?_⟩; (focus (first | (intro hC; have hC := KF.out _ hC.out.1; (try simp only [hC, Result.andThen]); first | exact ⟨True.intro, rfl⟩ | exact ⟨rfl, rfl⟩ | rfl))); exact hK _ rfl)
    case k =>
    simp only [Act.put, List.setIfInBounds_toArray, List.set_cons_succ, List.set_cons_zero, List.cons_append, List.nil_append]
    apply wpO_mkfF (f := fun g => .pointer (some ⟨g, 0, none⟩)) (t := 23) (cs := #[.int .i64 0, .int .i64 0])
    case hi => (intro g g' h; simpa using h)
    case hw => rfl
    case h => (intro w; simp [go_sem])
    case k =>
    intro x8
    simp only [Act.put, List.setIfInBounds_toArray, List.set_cons_succ, List.set_cons_zero, List.cons_append, List.nil_append]
    apply wpO_mkfF (f := fun g => .pointer (some ⟨g, 0, none⟩)) (t := 23) (cs := #[.int .i64 0, .int .i64 0])
    case hi => (intro g g' h; simpa using h)
    case hw => rfl
    case h => (intro w; simp [go_sem])
    case k =>
    intro x9
    simp only [Act.put, List.setIfInBounds_toArray, List.set_cons_succ, List.set_cons_zero, List.cons_append, List.nil_append]
    apply wpO_mkfF (f := fun g => .pointer (some ⟨g, 0, none⟩)) (t := 23) (cs := #[.int .i64 0, .int .i64 0])
    case hi => (intro g g' h; simpa using h)
    case hw => rfl
    case h => (intro w; simp [go_sem])
    case k =>
    intro x10
    simp only [Act.put, List.setIfInBounds_toArray, List.set_cons_succ, List.set_cons_zero, List.cons_append, List.nil_append]
    apply wpO_mkfF (f := fun g => .pointer (some ⟨g, 0, none⟩)) (t := 23) (cs := #[.int .i64 0, .int .i64 0])
    case hi => (intro g g' h; simpa using h)
    case hw => rfl
    case h => (intro w; simp [go_sem])
    case k =>
    intro x11
    simp only [Act.put, List.setIfInBounds_toArray, List.set_cons_succ, List.set_cons_zero, List.cons_append, List.nil_append]
    apply wpO_fillF (j := 22) (t := 23) (cs := #[.int .i64 a.1, .int .i64 a.2]) x8
    case hT => rfl
    case hj => decide
    case hw => rfl
    case hd => rfl
    case hp => decide
    case h =>
      intro w' hS_ hF_
      obtain ⟨⟨cs', hcs, hb⟩, hg⟩ := factsOf_at (j := 22) (by decide) hF_
      obtain ⟨x, y, rfl⟩ := two_of_size hcs
      refine ⟨_, _, hg, hb, rfl, ?_, (fill2 (.int .i64 a.1) (.int .i64 a.2) hb).1, (fill2 (.int .i64 a.1) (.int .i64 a.2) hb).2⟩
      have c0 := hb.cell 0
      have c1 := hb.cell 1
      have f0 := hb.frozen 0
      have f1 := hb.frozen 1
      simp only [List.getElem?_toArray, List.getElem?_cons_zero, List.getElem?_cons_succ] at c0 c1
      simp [go_sem, c0, c1, f0, f1, cSetS, cSetO]
    case k =>
    simp only [Act.put, List.setIfInBounds_toArray, List.set_cons_succ, List.set_cons_zero, List.cons_append, List.nil_append]
    apply wpO_fillF (j := 23) (t := 23) (cs := #[.int .i64 b.1, .int .i64 b.2]) x9
    case hT => rfl
    case hj => decide
    case hw => rfl
    case hd => rfl
    case hp => decide
    case h =>
      intro w' hS_ hF_
      obtain ⟨⟨cs', hcs, hb⟩, hg⟩ := factsOf_at (j := 23) (by decide) hF_
      obtain ⟨x, y, rfl⟩ := two_of_size hcs
      refine ⟨_, _, hg, hb, rfl, ?_, (fill2 (.int .i64 b.1) (.int .i64 b.2) hb).1, (fill2 (.int .i64 b.1) (.int .i64 b.2) hb).2⟩
      have c0 := hb.cell 0
      have c1 := hb.cell 1
      have f0 := hb.frozen 0
      have f1 := hb.frozen 1
      simp only [List.getElem?_toArray, List.getElem?_cons_zero, List.getElem?_cons_succ] at c0 c1
      simp [go_sem, c0, c1, f0, f1, cSetS, cSetO]
    case k =>
    simp only [Act.put, List.setIfInBounds_toArray, List.set_cons_succ, List.set_cons_zero, List.cons_append, List.nil_append]
    apply wpO_fillF (j := 24) (t := 23) (cs := #[.int .i64 cc.1, .int .i64 cc.2]) x10
    case hT => rfl
    case hj => decide
    case hw => rfl
    case hd => rfl
    case hp => decide
    case h =>
      intro w' hS_ hF_
      obtain ⟨⟨cs', hcs, hb⟩, hg⟩ := factsOf_at (j := 24) (by decide) hF_
      obtain ⟨x, y, rfl⟩ := two_of_size hcs
      refine ⟨_, _, hg, hb, rfl, ?_, (fill2 (.int .i64 cc.1) (.int .i64 cc.2) hb).1, (fill2 (.int .i64 cc.1) (.int .i64 cc.2) hb).2⟩
      have c0 := hb.cell 0
      have c1 := hb.cell 1
      have f0 := hb.frozen 0
      have f1 := hb.frozen 1
      simp only [List.getElem?_toArray, List.getElem?_cons_zero, List.getElem?_cons_succ] at c0 c1
      simp [go_sem, c0, c1, f0, f1, cSetS, cSetO]
    case k =>
    simp only [Act.put, List.setIfInBounds_toArray, List.set_cons_succ, List.set_cons_zero, List.cons_append, List.nil_append]
    apply wpO_fillF (j := 25) (t := 23) (cs := #[.int .i64 d.1, .int .i64 d.2]) x11
    case hT => rfl
    case hj => decide
    case hw => rfl
    case hd => rfl
    case hp => decide
    case h =>
      intro w' hS_ hF_
      obtain ⟨⟨cs', hcs, hb⟩, hg⟩ := factsOf_at (j := 25) (by decide) hF_
      obtain ⟨x, y, rfl⟩ := two_of_size hcs
      refine ⟨_, _, hg, hb, rfl, ?_, (fill2 (.int .i64 d.1) (.int .i64 d.2) hb).1, (fill2 (.int .i64 d.1) (.int .i64 d.2) hb).2⟩
      have c0 := hb.cell 0
      have c1 := hb.cell 1
      have f0 := hb.frozen 0
      have f1 := hb.frozen 1
      simp only [List.getElem?_toArray, List.getElem?_cons_zero, List.getElem?_cons_succ] at c0 c1
      simp [go_sem, c0, c1, f0, f1, cSetS, cSetO]
    case k =>
    simp only [Act.put, List.setIfInBounds_toArray, List.set_cons_succ, List.set_cons_zero, List.cons_append, List.nil_append]
    refine wpO_nilF ?_
    intro w5 hS hF hB
    (try simp [allF] at hF)
    (try simp [List.pairwise_cons] at hB)
    go_wp2_with fail
    go_meet
    exact ⟨x8, x9, x10, x11, rfl, rfl, rfl, rfl, hF.2.2.2.2.1.1, hF.2.2.2.2.2.1.1, hF.2.2.2.2.2.2.1.1, hF.2.2.2.2.2.2.2.1, hS⟩
  case rest =>
    obtain ⟨g8, g9, g10, g11, rfl, rfl, rfl, rfl, k8, k9, k10, k11, hs⟩ := hcut
    obtain ⟨w5, rfl⟩ : ∃ w5, w5 = wc := ⟨_, rfl⟩
    have HW := Lib.hid hs
    clear a0 a1 b0 b1 c0 c1 d0 d1 hs
    have a_0 := k8.cell 0
    have a_1 := k8.cell 1
    have a_f0 := k8.frozen 0
    have a_f1 := k8.frozen 1
    simp only [List.getElem?_toArray, List.getElem?_cons_zero, List.getElem?_cons_succ] at a_0 a_1
    have b_0 := k9.cell 0
    have b_1 := k9.cell 1
    have b_f0 := k9.frozen 0
    have b_f1 := k9.frozen 1
    simp only [List.getElem?_toArray, List.getElem?_cons_zero, List.getElem?_cons_succ] at b_0 b_1
    have c_0 := k10.cell 0
    have c_1 := k10.cell 1
    have c_f0 := k10.frozen 0
    have c_f1 := k10.frozen 1
    simp only [List.getElem?_toArray, List.getElem?_cons_zero, List.getElem?_cons_succ] at c_0 c_1
    have d_0 := k11.cell 0
    have d_1 := k11.cell 1
    have d_f0 := k11.frozen 0
    have d_f1 := k11.frozen 1
    simp only [List.getElem?_toArray, List.getElem?_cons_zero, List.getElem?_cons_succ] at d_0 d_1
    clear k8 k9 k10 k11
    have e1 : (a.1 == b.1 && a.2 == b.2) = false := by
      rw [Bool.eq_false_iff]; intro h; rw [Bool.and_eq_true, beq_iff_eq, beq_iff_eq] at h; exact nab (Prod.ext h.1 h.2)
    have e2 : (cc.1 == d.1 && cc.2 == d.2) = false := by
      rw [Bool.eq_false_iff]; intro h; rw [Bool.and_eq_true, beq_iff_eq, beq_iff_eq] at h; exact ncd (Prod.ext h.1 h.2)
    clear nab ncd
    by_cases hn : j = i
    · have hb1 : ((k : Int) + 1 == (i : Int)) = true := by rw [beq_iff_eq]; have := HJK.out; omega
      have HM1 : Hid (∀ w, Calls Try.prog 113 #[.agg #[.int .i64 a.1, .int .i64 a.2], .agg #[.int .i64 b.1, .int .i64 b.2], .agg #[.int .i64 cc.1, .int .i64 cc.2], .agg #[.int .i64 d.1, .int .i64 d.2]] w fun e w' => e = .returned (.int .i64 1) ∧ Since w w') := fun w => by
        have h := HMT.out w; rw [if_pos (.inl hn)] at h; exact h
      clear hn HMT
      by_cases hm : m = k
      · have hb2 : ((m : Int) == (k : Int)) = true := by rw [beq_iff_eq, hm]
        clear hm
        go_upto_region 3 with fail
        go_quiet (fail)
        go_wp2_with fail
        refine (HM1.out _).mono ?_
        rintro e w7 ⟨rfl, hs⟩
        have HS7 := Lib.hid (HW.out.trans (Since.trans ((Since.rfl_ w5).drewN _) hs))
        clear hs
        go_wp2_with fail
        go_ret
        exact ⟨rfl, HS7.out⟩
      · have hb2 : ((m : Int) == (k : Int)) = false := by rw [beq_eq_false_iff_ne]; omega
        clear hm
        go_upto_region 3 with fail
        go_quiet (fail)
        go_wp2_with fail
        refine (HM1.out _).mono ?_
        rintro e w7 ⟨rfl, hs⟩
        have HS7 := Lib.hid (HW.out.trans (Since.trans ((Since.rfl_ w5).drewN _) hs))
        clear hs
        go_wp2_with fail
        go_ret
        exact ⟨rfl, HS7.out⟩
    · have hb1 : ((k : Int) + 1 == (i : Int)) = false := by rw [beq_eq_false_iff_ne]; have := HJK.out; omega
      by_cases hm : m = k
      · have hb2 : ((m : Int) == (k : Int)) = true := by rw [beq_iff_eq, hm]
        have HM1 : Hid (∀ w, Calls Try.prog 113 #[.agg #[.int .i64 a.1, .int .i64 a.2], .agg #[.int .i64 b.1, .int .i64 b.2], .agg #[.int .i64 cc.1, .int .i64 cc.2], .agg #[.int .i64 d.1, .int .i64 d.2]] w fun e w' => e = .returned (.int .i64 1) ∧ Since w w') := fun w => by
          have h := HMT.out w; rw [if_pos (.inr hm)] at h; exact h
        clear hm HMT
        go_upto_region 3 with fail
        go_quiet (fail)
        go_wp2_with fail
        refine (HM1.out _).mono ?_
        rintro e w7 ⟨rfl, hs⟩
        have HS7 := Lib.hid (HW.out.trans (Since.trans ((Since.rfl_ w5).drewN _) hs))
        clear hs
        go_wp2_with fail
        go_ret
        exact ⟨rfl, HS7.out⟩
      · have hb2 : ((m : Int) == (k : Int)) = false := by rw [beq_eq_false_iff_ne]; omega
        have HM1 : Hid (∀ w, Calls Try.prog 113 #[.agg #[.int .i64 a.1, .int .i64 a.2], .agg #[.int .i64 b.1, .int .i64 b.2], .agg #[.int .i64 cc.1, .int .i64 cc.2], .agg #[.int .i64 d.1, .int .i64 d.2]] w fun e w' => e = .returned (.int .i64 0) ∧ Since w w') := fun w => by
          have h := HMT.out w; rw [if_neg (by omega)] at h; exact h
        clear hm hn HMT
        go_upto_region 3 with fail
        go_quiet (fail)
        go_wp2_with fail
        refine (HM1.out _).mono ?_
        rintro e w7 ⟨rfl, hs⟩
        have HS7 := Lib.hid (HW.out.trans (Since.trans ((Since.rfl_ w5).drewN _) hs))
        clear hs
        go_wp2_with fail
        go_ret
        exact ⟨rfl, HS7.out⟩
end Go.Proofs.Ytcckekdfeeghaaa
