/-
  The walk of HotChains. Conditions: the argument's list.
-/
import Derived.Test.YtdbknodifpmmoaaLHotAp
import Derived.Test.YtdbknodifpmmoaaLHotCh
import Derived.Test.YtdbknodifpmmoaaLClipX
namespace Go.Proofs.Ytdbknodifpmmoaa
set_option linter.unusedSimpArgs false
set_option linter.unusedVariables false
open Go.RowKit Go.BigFrame
attribute [local go_sem ↓] eqPt neqPt

theorem Chains_m (v : Value) (m : List Sg) (w : World) (hv : SegsN w v m) (hl : m.length ≤ 12) (hok : ∀ s ∈ m, SgOk s) :
    Calls Try.prog 11 #[v] w fun e w' => ∃ g cs, e = .returned (.tuple #[.slice (some ⟨g, 0, none⟩) m.length m.length, .int .i64 0]) ∧ (∀ i, i < m.length → ∃ u, w'.cell? ⟨g, i, none⟩ = some u ∧ PtsS w' u (chAt cs i)) ∧ (∀ i, i < m.length → ChOk (hotL m) (sgAt m i) (chAt cs i) ∧ (chAt cs i).length ≤ 1000) ∧ Since w w' := by
  by_cases hm : m = []
  · rw [hv.1 hm]
    refine (chains_nil w).mono ?_
    rintro e w' ⟨g, rfl, hs⟩
    rw [hm]
    exact ⟨g, [], rfl, fun i hi => absurd hi (Nat.not_lt_zero _), fun i hi => absurd hi (Nat.not_lt_zero _), hs⟩
  · have hcap := few_hot hl
    obtain ⟨N, hN⟩ := run_ex hm (by omega) hok hcap
    obtain ⟨hI, hW⟩ := cs0_inv hok
    have hit := iter_inv hI hW (N + 1)
    refine (chains_any v m w (hv.2 hm) (List.length_pos_iff.2 hm) (by omega) hok N hN).mono ?_
    rintro e w' ⟨g, rfl, hch, -, hs⟩
    have hlen : (iterC (N + 1) (cs0 m)).length = m.length := by rw [iterC_len]; simp [cs0]
    obtain ⟨g', c', hv', hx⟩ := hch
    injection hv' with h1 h2 h3
    injection h1 with h1
    injection h1 with h1
    subst h1
    refine ⟨g, _, rfl, fun i hi => hx i (by rw [hlen]; exact hi), fun i hi => ⟨chains_ok hok (N + 1) hi, ?_⟩, hs⟩
    have := ways_len hit.1 hit.2.1 _ (ch_mem.2 ⟨i, by rw [hlen]; exact hi, rfl⟩)
    have := hit.2.2
    omega
theorem hot_len {m : List Sg} (hl : m.length ≤ 12) : (hotL m).length ≤ 1000 := by
  have h1 := outS_len m 12 m.length hl
  have h2 : (hotL m).length ≤ (outS m m.length).length := hull_len_le fun p hp => hp
  have h3 := Nat.mul_le_mul_right (12 + 2) hl
  omega
theorem Points_m (v : Value) (m : List Sg) (w : World) (hv : SegsN w v m) (hl : m.length ≤ 12) (hok : ∀ s ∈ m, SgOk s) :
    Calls Try.prog 19 #[v] w fun e w' => ∃ x, e = .returned (.tuple #[x, .int .i64 0]) ∧ PtsS w' x (hotL m) ∧ Since w w' := by
  have HCK : Hid (Calls Try.prog 32 #[v] w fun e w' => e = .returned (.int .i64 0) ∧ Since w w') := by
    by_cases hm : m = []
    · rw [hv.1 hm]
      exact check_any (.slice none 0 0) [] w ⟨none, 0, rfl, Nat.le_refl _, fun i hi => absurd hi (Nat.not_lt_zero _)⟩ (by simp) (fun s hs => by cases hs)
    · exact check_any v m w (hv.2 hm) (by omega) hok
  have HPT : Hid (∀ w', Since w w' → Calls Try.prog 33 #[v] w' fun e w'' => ∃ x, e = .returned (.tuple #[x, .bool true]) ∧ PtsS w'' x (hotL m) ∧ Since w' w'') := fun w' hs => by
    by_cases hm : m = []
    · rw [hv.1 hm]
      refine (points_nil w').mono ?_
      rintro e w'' ⟨rfl, hs'⟩
      have e0 : hotL m = [] := by rw [hm]; simp [hotL, outS, hullS, srtL, cmpL]
      rw [e0]
      exact ⟨_, rfl, ⟨none, 0, rfl, fun i hi => absurd hi (Nat.not_lt_zero _)⟩, hs'⟩
    · refine (points_any v m w' ((hv.2 hm).since hs) (by omega) hm hok (hot_len hl)).mono ?_
      rintro e w'' ⟨x, rfl, ho, hs'⟩
      exact ⟨x, rfl, (own_pts ho (Nat.le_refl _)).pts, hs'⟩
  have hsl := hv.slice
  obtain ⟨a, c, rfl⟩ := hsl
  clear hv hok
  go_enter Try.func19, Try.ntmps19
  go_wp2_with fail
  refine (HCK.out).mono ?_
  rintro e w1 ⟨rfl, hs⟩
  have HS1 := Lib.hid hs
  have HP1 := Lib.hid (HPT.out w1 hs)
  clear hs HCK HPT
  go_wp2_with fail
  refine (HP1.out).mono ?_
  rintro e w2 ⟨x, rfl, hp, hs⟩
  have HP2 := Lib.hid hp
  obtain ⟨ax, cx, rfl, -⟩ := hp
  have HS2 := Lib.hid (HS1.out.trans hs)
  clear hs HP1 HS1
  go_wp2_with fail
  refine bodyPost_ret (v := .tuple #[.slice ax (hotL m).length cx, .int .i64 0]) (by simp [results, Try.results19, go_sem, cSetS, cSetO, cellDrew, go_sem]) rfl ⟨_, rfl, HP2.out, HS2.out⟩
set_option maxRecDepth 100000 in
set_option maxHeartbeats 8000000 in
theorem ChainsK_walk (v : Value) (l : List Int) (w : World) (hi : IntsB w v l w.heap.size) (hlen : l.length ≤ 9223372036854775807) :
    Calls Try.prog 5 #[v] w fun e w' => e = .returned (.bool true) ∧ Since w w' := by
  have HSEG := Lib.hid (Segs_any v l w hi hlen)
  clear hi
  go_enter Try.func5, Try.ntmps5
  go_wp2_with fail
  refine (HSEG.out).mono ?_
  rintro e w1 ⟨x, rfl, ho, hs, hn⟩
  have hsn := own_segsN ho hn
  have HMS := Lib.hid (And.intro (msegs_len l) (msegs_ok l))
  obtain ⟨m, HM⟩ : ∃ m, Hid (m = msegs l) := ⟨_, rfl⟩
  rw [← HM.out] at hsn HMS
  obtain ⟨n, HN⟩ : ∃ n, Hid (n = m.length) := ⟨_, rfl⟩
  have hn12 : n ≤ 12 := by rw [HN.out]; exact HMS.out.1
  have HS1 := Lib.hid hs
  have HV1 := Lib.hid hsn
  have hcap := hsn.slice
  obtain ⟨a, c, rfl⟩ := hcap
  have HCH := Lib.hid (Chains_m _ m w1 hsn HMS.out.1 HMS.out.2)
  have HPO := Lib.hid (fun w' (hs : Since w1 w') => Points_m _ m w' (hsn.since hs) HMS.out.1 HMS.out.2)
  rw [← HN.out] at HV1 HCH HPO ⊢
  clear ho hs hn HSEG hsn
  go_wp2_with fail
  refine (HCH.out).mono ?_
  rintro e w2 ⟨g, cs, rfl, hc1, hc2, hs⟩
  have HC1 := Lib.hid hc1
  have HC2 := Lib.hid hc2
  have HS2 := Lib.hid hs
  clear hc1 hc2 hs HCH
  go_wp2_with fail
  refine (HPO.out w2 HS2.out).mono ?_
  rintro e w3 ⟨xp, rfl, hp, hs⟩
  have HP3 := Lib.hid hp
  obtain ⟨ap, cp, rfl, -⟩ := hp
  have HS3 := Lib.hid hs
  have HL3 : Hid ((hotL m).length ≤ 1000000000000000) := Nat.le_trans (hot_len HMS.out.1) (by decide)
  obtain ⟨np, HNP⟩ : ∃ np, Hid (np = (hotL m).length) := ⟨_, rfl⟩
  rw [← HNP.out] at HP3 ⊢
  clear hs HPO
  go_wp2_with fail
  refine (rounds_any _).mono ?_
  rintro e w4 ⟨rfl, hs⟩
  have HS4 := Lib.hid ((((HS1.out.trans HS2.out).trans HS3.out)).trans hs)
  have HV4 := Lib.hid (HV1.out.since ((HS2.out.trans HS3.out).trans hs))
  have HP4 := Lib.hid (HP3.out.since hs)
  have HC4 : Hid (∀ i, i < n → ∃ u, w4.cell? ⟨g, i, none⟩ = some u ∧ PtsS w4 u (chAt cs i)) := fun i hi => by
    obtain ⟨u, h1, h2⟩ := HC1.out i hi
    exact ⟨u, keepC (HS3.out.trans hs) _ _ h1, h2.since (HS3.out.trans hs)⟩
  clear hs HS1 HS2 HS3 HV1 HP3 HC1
  go_wp2_with fail
  go_loopw [45] (fun v45 wr => ∃ k : Nat, k ≤ n ∧ v45 = .int .i64 k ∧ Hid (Since w4 wr)) (fun v45 _ => n - (intOf v45).toNat)
  case atStart => exact ⟨0, by omega, by go_num, Since.rfl_ w4⟩
  case round =>
    obtain ⟨k, hk, rfl, HR⟩ := hrel
    rcases Nat.lt_or_ge k n with hlt | hge
    · have hz : decide ((k : Int) < (n : Int)) = true := by rw [decide_eq_true_eq]; omega
      obtain ⟨ga, oa, rfl, h1, h2, h3, h4⟩ := HV4.out.cells (k := k) (by rw [← HN.out]; exact hlt)
      obtain ⟨s, hs⟩ : ∃ s, s = sgAt m k := ⟨_, rfl⟩
      obtain ⟨u, hu, hpu⟩ := HC4.out k hlt
      obtain ⟨hch, hcl⟩ := HC2.out k hlt
      have hso : SgOk s := by rw [hs]; exact HMS.out.2 _ (sgAt_mem (by rw [← HN.out]; exact hlt))
      rw [← hs] at h1 h2 h3 h4 hch
      obtain ⟨C, hC⟩ : ∃ C, C = chAt cs k := ⟨_, rfl⟩
      rw [← hC] at hpu hch hcl
      have HCO := Lib.hid hch
      have HPU := Lib.hid (hpu.since HR.out)
      obtain ⟨au, cu, rfl, hpp⟩ := hpu
      have h20 := hch.two
      obtain ⟨L, hL⟩ : ∃ L, L = C.length := ⟨_, rfl⟩
      have HLL := Lib.hid hL
      obtain ⟨L1, hL1⟩ : ∃ L1, L = L1 + 1 := ⟨L - 1, by omega⟩
      obtain ⟨g2, o2, rfl, x0, x1⟩ := hpp 0 (by omega)
      obtain ⟨g2', o2', hg, y0, y1⟩ := hpp L1 (by omega)
      injection hg with hg
      injection hg with hg1 hg2
      subst hg1 hg2
      have e0 := hch.fst
      have e1 := hch.lst
      rw [← hL, show L - 1 = L1 by omega] at e1
      rw [e0] at x0 x1
      rw [e1] at y0 y1
      rw [← hL] at hcl h20
      simp only [Nat.zero_mul, Nat.add_zero] at x0 x1
      have h1 := keepC HR.out _ _ h1
      have h2 := keepC HR.out _ _ h2
      have h3 := keepC HR.out _ _ h3
      have h4 := keepC HR.out _ _ h4
      have x0 := keepC HR.out _ _ x0
      have x1 := keepC HR.out _ _ x1
      have y0 := keepC HR.out _ _ y0
      have y1 := keepC HR.out _ _ y1
      have hu := keepC HR.out _ _ hu
      have KF := Lib.hid (fun w' (h : Since wr w') => (show w'.cell? ⟨ga, oa + k * 4, none⟩ = some (.int .i64 s.1.1) ∧ w'.cell? ⟨ga, oa + k * 4 + 1, none⟩ = some (.int .i64 s.1.2) ∧ w'.cell? ⟨ga, oa + k * 4 + 2, none⟩ = some (.int .i64 s.2.1) ∧ w'.cell? ⟨ga, oa + k * 4 + 3, none⟩ = some (.int .i64 s.2.2) ∧ w'.cell? ⟨g2, o2, none⟩ = some (.int .i64 s.1.1) ∧ w'.cell? ⟨g2, o2 + 1, none⟩ = some (.int .i64 s.1.2) ∧ w'.cell? ⟨g2, o2 + L1 * 2, none⟩ = some (.int .i64 s.2.1) ∧ w'.cell? ⟨g2, o2 + L1 * 2 + 1, none⟩ = some (.int .i64 s.2.2) from
        ⟨keepC h _ _ h1, keepC h _ _ h2, keepC h _ _ h3, keepC h _ _ h4, keepC h _ _ x0, keepC h _ _ x1, keepC h _ _ y0, keepC h _ _ y1⟩))
      have iw : IntKind.i64.wrap ((L : Int) - 1) = (L1 : Int) := by
        rw [i64wc, show (L : Int) - 1 = L1 by omega]
        exact wrap_id (by omega)
      have hso1 := okP_abs hso.1
      have hso2 := okP_abs hso.2.1
      obtain ⟨dx, HDX⟩ : ∃ dx, Hid (dx = s.2.1 - s.1.1) := ⟨_, rfl⟩
      obtain ⟨dy, HDY⟩ : ∃ dy, Hid (dy = s.2.2 - s.1.2) := ⟨_, rfl⟩
      have wx : IntKind.i64.wrap (s.2.1 - s.1.1) = dx := by rw [i64wc, HDX.out]; exact wrap_id (by omega)
      have wy : IntKind.i64.wrap (s.2.2 - s.1.2) = dy := by rw [i64wc, HDY.out]; exact wrap_id (by omega)
      have bx : -2097152 ≤ dx ∧ dx ≤ 2097152 := by rw [HDX.out]; omega
      have by_ : -2097152 ≤ dy ∧ dy ≤ 2097152 := by rw [HDY.out]; omega
      have i1 : (0 : Int) ≤ (k : Int) := by omega
      have i2 : (k : Int) < (n : Int) := by omega
      have l1 : (0 : Int) ≤ (L1 : Int) := by omega
      have l2 : (L1 : Int) < (L : Int) := by omega
      have l3 : (0 : Int) < (L : Int) := by omega
      have l4 : 0 < L := by omega
      have d1 : decide ((L : Int) < 2) = false := by rw [decide_eq_false_iff_not]; omega
      have q1 : (s.1.1 == s.1.1 && s.1.2 == s.1.2) = true := by simp
      have q2 : (s.2.1 == s.2.1 && s.2.2 == s.2.2) = true := by simp
      have HPX := Lib.hid hpp
      have HPK := Lib.hid (fun w' (h : Since w4 w') => keepC h)
      clear hs hC hch hpp h1 h2 h3 h4 x0 x1 y0 y1 e0 e1 hL1 hso hso1 hso2
      rw [← hL] at hu
      clear hL
      go_upto_region 9 with fail
      apply region_facts 28 (fun w' => Since wr w')
      case hm => kernel_rfl
      case hB => kernel_rfl
      case hS => exact (Since.rfl_ wr).drew
      case h =>
      simp only [List.take_succ_cons, List.take_zero, List.drop_succ_cons, List.drop_zero]
      apply wpO_det
      case hw => rfl
      case h =>
        intro hFm wx hS_ hF_ K hK
        go_big_quiet_op
        first
          | exact hK _ rfl
          | (apply Exists.intro; refine ⟨fun _ => ?_, ?_⟩; (focus (first | (intro hC; have hC := hC.out; (try simp only [hC, Result.andThen]); first | exact ⟨True.intro, rfl⟩ | exact ⟨rfl, rfl⟩ | rfl))); exact hK _ rfl)
      case k =>
      simp only [Act.put, List.setIfInBounds_toArray, List.set_cons_succ, List.set_cons_zero, List.cons_append, List.nil_append]
      apply wpO_det
      case hw => rfl
      case h =>
        intro hFm wx hS_ hF_ K hK
        go_big_quiet_op
        first
          | exact hK _ rfl
          | (apply Exists.intro; refine ⟨fun _ => ?_, ?_⟩; (focus (first | (intro hC; have hC := hC.out; (try simp only [hC, Result.andThen]); first | exact ⟨True.intro, rfl⟩ | exact ⟨rfl, rfl⟩ | rfl))); exact hK _ rfl)
      case k =>
      simp only [Act.put, List.setIfInBounds_toArray, List.set_cons_succ, List.set_cons_zero, List.cons_append, List.nil_append]
      apply wpO_det
      case hw => rfl
      case h =>
        intro hFm wx hS_ hF_ K hK
        go_big_quiet_op
        first
          | exact hK _ rfl
          | (apply Exists.intro; refine ⟨fun _ => ?_, ?_⟩; (focus (first | (intro hC; have hC := hC.out; (try simp only [hC, Result.andThen]); first | exact ⟨True.intro, rfl⟩ | exact ⟨rfl, rfl⟩ | rfl))); exact hK _ rfl)
      case k =>
      simp only [Act.put, List.setIfInBounds_toArray, List.set_cons_succ, List.set_cons_zero, List.cons_append, List.nil_append]
      apply wpO_det
      case hw => rfl
      case h =>
        intro hFm wx hS_ hF_ K hK
        go_big_quiet_op
        first
          | exact hK _ rfl
          | (apply Exists.intro; refine ⟨fun _ => ?_, ?_⟩; (focus (first | (intro hC; have hC := hC.out; (try simp only [hC, Result.andThen]); first | exact ⟨True.intro, rfl⟩ | exact ⟨rfl, rfl⟩ | rfl))); exact hK _ rfl)
      case k =>
      simp only [Act.put, List.setIfInBounds_toArray, List.set_cons_succ, List.set_cons_zero, List.cons_append, List.nil_append]
      apply wpO_det
      case hw => rfl
      case h =>
        intro hFm wx hS_ hF_ K hK
        go_big_quiet_op
        first
          | exact hK _ rfl
          | (apply Exists.intro; refine ⟨fun _ => ?_, ?_⟩; (focus (first | (intro hC; have hC := hC.out; (try simp only [hC, Result.andThen]); first | exact ⟨True.intro, rfl⟩ | exact ⟨rfl, rfl⟩ | rfl))); exact hK _ rfl)
      case k =>
      simp only [Act.put, List.setIfInBounds_toArray, List.set_cons_succ, List.set_cons_zero, List.cons_append, List.nil_append]
      apply wpO_det
      case hw => rfl
      case h =>
        intro hFm wx hS_ hF_ K hK
        go_big_quiet_op
        first
          | exact hK _ rfl
          | (apply Exists.intro; refine ⟨fun _ => ?_, ?_⟩; (focus (first | (intro hC; have hC := hC.out; (try simp only [hC, Result.andThen]); first | exact ⟨True.intro, rfl⟩ | exact ⟨rfl, rfl⟩ | rfl))); exact hK _ rfl)
      case k =>
      simp only [Act.put, List.setIfInBounds_toArray, List.set_cons_succ, List.set_cons_zero, List.cons_append, List.nil_append]
      apply wpO_det
      case hw => rfl
      case h =>
        intro hFm wx hS_ hF_ K hK
        go_big_quiet_op
        first
          | exact hK _ rfl
          | (apply Exists.intro; refine ⟨fun _ => ?_, ?_⟩; (focus (first | (intro hC; have hC := KF.out _ hC.out.1; (try simp only [hC, Result.andThen]); first | exact ⟨True.intro, rfl⟩ | exact ⟨rfl, rfl⟩ | rfl))); exact hK _ rfl)
      case k =>
      simp only [Act.put, List.setIfInBounds_toArray, List.set_cons_succ, List.set_cons_zero, List.cons_append, List.nil_append]
      apply wpO_det
      case hw => rfl
      case h =>
        intro hFm wx hS_ hF_ K hK
        go_big_quiet_op
        first
          | exact hK _ rfl
          | (apply Exists.intro; refine ⟨fun _ => ?_, ?_⟩; (focus (first | (intro hC; have hC := hC.out; (try simp only [hC, Result.andThen]); first | exact ⟨True.intro, rfl⟩ | exact ⟨rfl, rfl⟩ | rfl))); exact hK _ rfl)
      case k =>
      simp only [Act.put, List.setIfInBounds_toArray, List.set_cons_succ, List.set_cons_zero, List.cons_append, List.nil_append]
      apply wpO_det
      case hw => rfl
      case h =>
        intro hFm wx hS_ hF_ K hK
        go_big_quiet_op
        first
          | exact hK _ rfl
          | (apply Exists.intro; refine ⟨fun _ => ?_, ?_⟩; (focus (first | (intro hC; have hC := hC.out; (try simp only [hC, Result.andThen]); first | exact ⟨True.intro, rfl⟩ | exact ⟨rfl, rfl⟩ | rfl))); exact hK _ rfl)
      case k =>
      simp only [Act.put, List.setIfInBounds_toArray, List.set_cons_succ, List.set_cons_zero, List.cons_append, List.nil_append]
      apply wpO_det
      case hw => rfl
      case h =>
        intro hFm wx hS_ hF_ K hK
        go_big_quiet_op
        first
          | exact hK _ rfl
          | (apply Exists.intro; refine ⟨fun _ => ?_, ?_⟩; (focus (first | (intro hC; have hC := hC.out; (try simp only [hC, Result.andThen]); first | exact ⟨True.intro, rfl⟩ | exact ⟨rfl, rfl⟩ | rfl))); exact hK _ rfl)
      case k =>
      simp only [Act.put, List.setIfInBounds_toArray, List.set_cons_succ, List.set_cons_zero, List.cons_append, List.nil_append]
      apply wpO_det
      case hw => rfl
      case h =>
        intro hFm wx hS_ hF_ K hK
        go_big_quiet_op
        first
          | exact hK _ rfl
          | (apply Exists.intro; refine ⟨fun _ => ?_, ?_⟩; (focus (first | (intro hC; have hC := hC.out; (try simp only [hC, Result.andThen]); first | exact ⟨True.intro, rfl⟩ | exact ⟨rfl, rfl⟩ | rfl))); exact hK _ rfl)
      case k =>
      simp only [Act.put, List.setIfInBounds_toArray, List.set_cons_succ, List.set_cons_zero, List.cons_append, List.nil_append]
      apply wpO_det
      case hw => rfl
      case h =>
        intro hFm wx hS_ hF_ K hK
        go_big_quiet_op
        first
          | exact hK _ rfl
          | (apply Exists.intro; refine ⟨fun _ => ?_, ?_⟩; (focus (first | (intro hC; have hC := KF.out _ hC.out.1; (try simp only [hC, Result.andThen]); first | exact ⟨True.intro, rfl⟩ | exact ⟨rfl, rfl⟩ | rfl))); exact hK _ rfl)
      case k =>
      simp only [Act.put, List.setIfInBounds_toArray, List.set_cons_succ, List.set_cons_zero, List.cons_append, List.nil_append]
      apply wpO_det
      case hw => rfl
      case h =>
        intro hFm wx hS_ hF_ K hK
        go_big_quiet_op
        first
          | exact hK _ rfl
          | (apply Exists.intro; refine ⟨fun _ => ?_, ?_⟩; (focus (first | (intro hC; have hC := hC.out; (try simp only [hC, Result.andThen]); first | exact ⟨True.intro, rfl⟩ | exact ⟨rfl, rfl⟩ | rfl))); exact hK _ rfl)
      case k =>
      simp only [Act.put, List.setIfInBounds_toArray, List.set_cons_succ, List.set_cons_zero, List.cons_append, List.nil_append]
      apply wpO_det
      case hw => rfl
      case h =>
        intro hFm wx hS_ hF_ K hK
        go_big_quiet_op
        first
          | exact hK _ rfl
          | (apply Exists.intro; refine ⟨fun _ => ?_, ?_⟩; (focus (first | (intro hC; have hC := hC.out; (try simp only [hC, Result.andThen]); first | exact ⟨True.intro, rfl⟩ | exact ⟨rfl, rfl⟩ | rfl))); exact hK _ rfl)
      case k =>
      simp only [Act.put, List.setIfInBounds_toArray, List.set_cons_succ, List.set_cons_zero, List.cons_append, List.nil_append]
      apply wpO_det
      case hw => rfl
      case h =>
        intro hFm wx hS_ hF_ K hK
        go_big_quiet_op
        first
          | exact hK _ rfl
          | (apply Exists.intro; refine ⟨fun _ => ?_, ?_⟩; (focus (first | (intro hC; have hC := hC.out; (try simp only [hC, Result.andThen]); first | exact ⟨True.intro, rfl⟩ | exact ⟨rfl, rfl⟩ | rfl))); exact hK _ rfl)
      case k =>
      simp only [Act.put, List.setIfInBounds_toArray, List.set_cons_succ, List.set_cons_zero, List.cons_append, List.nil_append]
      apply wpO_det
      case hw => rfl
      case h =>
        intro hFm wx hS_ hF_ K hK
        go_big_quiet_op
        first
          | exact hK _ rfl
          | (apply Exists.intro; refine ⟨fun _ => ?_, ?_⟩; (focus (first | (intro hC; have hC := hC.out; (try simp only [hC, Result.andThen]); first | exact ⟨True.intro, rfl⟩ | exact ⟨rfl, rfl⟩ | rfl))); exact hK _ rfl)
      case k =>
      simp only [Act.put, List.setIfInBounds_toArray, List.set_cons_succ, List.set_cons_zero, List.cons_append, List.nil_append]
      apply wpO_det
      case hw => rfl
      case h =>
        intro hFm wx hS_ hF_ K hK
        go_big_quiet_op
        first
          | exact hK _ rfl
          | (apply Exists.intro; refine ⟨fun _ => ?_, ?_⟩; (focus (first | (intro hC; have hC := hC.out; (try simp only [hC, Result.andThen]); first | exact ⟨True.intro, rfl⟩ | exact ⟨rfl, rfl⟩ | rfl))); exact hK _ rfl)
      case k =>
      simp only [Act.put, List.setIfInBounds_toArray, List.set_cons_succ, List.set_cons_zero, List.cons_append, List.nil_append]
      apply wpO_det
      case hw => rfl
      case h =>
        intro hFm wx hS_ hF_ K hK
        go_big_quiet_op
        first
          | exact hK _ rfl
          | (apply Exists.intro; refine ⟨fun _ => ?_, ?_⟩; (focus (first | (intro hC; have hC := hC.out; (try simp only [hC, Result.andThen]); first | exact ⟨True.intro, rfl⟩ | exact ⟨rfl, rfl⟩ | rfl))); exact hK _ rfl)
      case k =>
      simp only [Act.put, List.setIfInBounds_toArray, List.set_cons_succ, List.set_cons_zero, List.cons_append, List.nil_append]
      apply wpO_det
      case hw => rfl
      case h =>
        intro hFm wx hS_ hF_ K hK
        go_big_quiet_op
        first
          | exact hK _ rfl
          | (apply Exists.intro; refine ⟨fun _ => ?_, ?_⟩; (focus (first | (intro hC; have hC := hC.out; (try simp only [hC, Result.andThen]); first | exact ⟨True.intro, rfl⟩ | exact ⟨rfl, rfl⟩ | rfl))); exact hK _ rfl)
      case k =>
      simp only [Act.put, List.setIfInBounds_toArray, List.set_cons_succ, List.set_cons_zero, List.cons_append, List.nil_append]
      apply wpO_det
      case hw => rfl
      case h =>
        intro hFm wx hS_ hF_ K hK
        go_big_quiet_op
        first
          | exact hK _ rfl
          | (apply Exists.intro; refine ⟨fun _ => ?_, ?_⟩; (focus (first | (intro hC; have hC := hC.out; (try simp only [hC, Result.andThen]); first | exact ⟨True.intro, rfl⟩ | exact ⟨rfl, rfl⟩ | rfl))); exact hK _ rfl)
      case k =>
      simp only [Act.put, List.setIfInBounds_toArray, List.set_cons_succ, List.set_cons_zero, List.cons_append, List.nil_append]
      apply wpO_det
      case hw => rfl
      case h =>
        intro hFm wx hS_ hF_ K hK
        go_big_quiet_op
        first
          | exact hK _ rfl
          | (apply Exists.intro; refine ⟨fun _ => ?_, ?_⟩; (focus (first | (intro hC; have hC := KF.out _ hC.out.1; (try simp only [hC, Result.andThen]); first | exact ⟨True.intro, rfl⟩ | exact ⟨rfl, rfl⟩ | rfl))); exact hK _ rfl)
      case k =>
      simp only [Act.put, List.setIfInBounds_toArray, List.set_cons_succ, List.set_cons_zero, List.cons_append, List.nil_append]
      apply wpO_det
      case hw => rfl
      case h =>
        intro hFm wx hS_ hF_ K hK
        go_big_quiet_op
        first
          | exact hK _ rfl
          | (apply Exists.intro; refine ⟨fun _ => ?_, ?_⟩; (focus (first | (intro hC; have hC := hC.out; (try simp only [hC, Result.andThen]); first | exact ⟨True.intro, rfl⟩ | exact ⟨rfl, rfl⟩ | rfl))); exact hK _ rfl)
      case k =>
      simp only [Act.put, List.setIfInBounds_toArray, List.set_cons_succ, List.set_cons_zero, List.cons_append, List.nil_append]
      apply wpO_det
      case hw => rfl
      case h =>
        intro hFm wx hS_ hF_ K hK
        go_big_quiet_op
        first
          | exact hK _ rfl
          | (apply Exists.intro; refine ⟨fun _ => ?_, ?_⟩; (focus (first | (intro hC; have hC := hC.out; (try simp only [hC, Result.andThen]); first | exact ⟨True.intro, rfl⟩ | exact ⟨rfl, rfl⟩ | rfl))); exact hK _ rfl)
      case k =>
      simp only [Act.put, List.setIfInBounds_toArray, List.set_cons_succ, List.set_cons_zero, List.cons_append, List.nil_append]
      apply wpO_det
      case hw => rfl
      case h =>
        intro hFm wx hS_ hF_ K hK
        go_big_quiet_op
        first
          | exact hK _ rfl
          | (apply Exists.intro; refine ⟨fun _ => ?_, ?_⟩; (focus (first | (intro hC; have hC := hC.out; (try simp only [hC, Result.andThen]); first | exact ⟨True.intro, rfl⟩ | exact ⟨rfl, rfl⟩ | rfl))); exact hK _ rfl)
      case k =>
      simp only [Act.put, List.setIfInBounds_toArray, List.set_cons_succ, List.set_cons_zero, List.cons_append, List.nil_append]
      apply wpO_det
      case hw => rfl
      case h =>
        intro hFm wx hS_ hF_ K hK
        go_big_quiet_op
        first
          | exact hK _ rfl
          | (apply Exists.intro; refine ⟨fun _ => ?_, ?_⟩; (focus (first | (intro hC; have hC := hC.out; (try simp only [hC, Result.andThen]); first | exact ⟨True.intro, rfl⟩ | exact ⟨rfl, rfl⟩ | rfl))); exact hK _ rfl)
      case k =>
      simp only [Act.put, List.setIfInBounds_toArray, List.set_cons_succ, List.set_cons_zero, List.cons_append, List.nil_append]
      apply wpO_det
      case hw => rfl
      case h =>
        intro hFm wx hS_ hF_ K hK
        go_big_quiet_op
        first
          | exact hK _ rfl
          | (apply Exists.intro; refine ⟨fun _ => ?_, ?_⟩; (focus (first | (intro hC; have hC := KF.out _ hC.out.1; (try simp only [hC, Result.andThen]); first | exact ⟨True.intro, rfl⟩ | exact ⟨rfl, rfl⟩ | rfl))); exact hK _ rfl)
      case k =>
      simp only [Act.put, List.setIfInBounds_toArray, List.set_cons_succ, List.set_cons_zero, List.cons_append, List.nil_append]
      apply wpO_det
      case hw => rfl
      case h =>
        intro hFm wx hS_ hF_ K hK
        go_big_quiet_op
        first
          | exact hK _ rfl
          | (apply Exists.intro; refine ⟨fun _ => ?_, ?_⟩; (focus (first | (intro hC; have hC := hC.out; (try simp only [hC, Result.andThen]); first | exact ⟨True.intro, rfl⟩ | exact ⟨rfl, rfl⟩ | rfl))); exact hK _ rfl)
      case k =>
      simp only [Act.put, List.setIfInBounds_toArray, List.set_cons_succ, List.set_cons_zero, List.cons_append, List.nil_append]
      apply wpO_det
      case hw => rfl
      case h =>
        intro hFm wx hS_ hF_ K hK
        go_big_quiet_op
        first
          | exact hK _ rfl
          | (apply Exists.intro; refine ⟨fun _ => ?_, ?_⟩; (focus (first | (intro hC; have hC := hC.out; (try simp only [hC, Result.andThen]); first | exact ⟨True.intro, rfl⟩ | exact ⟨rfl, rfl⟩ | rfl))); exact hK _ rfl)
      case k =>
      simp only [Act.put, List.setIfInBounds_toArray, List.set_cons_succ, List.set_cons_zero, List.cons_append, List.nil_append]
      refine wpO_nil ?_
      intro w5 hS hF hB
      (try simp [allF] at hF)
      (try simp [List.pairwise_cons] at hB)
      have HS5 := Lib.hid hS
      have KF5 := Lib.hid (fun w' (h : Since w5 w') => KF.out w' (hS.trans h))
      clear hS hF hB KF iw d1 q1 q2 l1 l2 hu
      obtain ⟨KF, HKF⟩ : ∃ K, K = KF5 := ⟨_, rfl⟩
      clear HKF KF5
      go_upto_region 11 with fail
      apply region_facts 28 (fun w' => Since w5 w')
      case hm => kernel_rfl
      case hB => kernel_rfl
      case hS => exact (Since.rfl_ w5).drew
      case h =>
      simp only [List.take_succ_cons, List.take_zero, List.drop_succ_cons, List.drop_zero]
      apply wpO_det
      case hw => rfl
      case h =>
        intro hFm wx hS_ hF_ K hK
        go_big_quiet_op
        first
          | exact hK _ rfl
          | (apply Exists.intro; refine ⟨fun _ => ?_, ?_⟩; (focus (first | (intro hC; have hC := hC.out; (try simp only [hC, Result.andThen]); first | exact ⟨True.intro, rfl⟩ | exact ⟨rfl, rfl⟩ | rfl))); exact hK _ rfl)
      case k =>
      simp only [Act.put, List.setIfInBounds_toArray, List.set_cons_succ, List.set_cons_zero, List.cons_append, List.nil_append]
      apply wpO_det
      case hw => rfl
      case h =>
        intro hFm wx hS_ hF_ K hK
        go_big_quiet_op
        first
          | exact hK _ rfl
          | (apply Exists.intro; refine ⟨fun _ => ?_, ?_⟩; (focus (first | (intro hC; have hC := hC.out; (try simp only [hC, Result.andThen]); first | exact ⟨True.intro, rfl⟩ | exact ⟨rfl, rfl⟩ | rfl))); exact hK _ rfl)
      case k =>
      simp only [Act.put, List.setIfInBounds_toArray, List.set_cons_succ, List.set_cons_zero, List.cons_append, List.nil_append]
      apply wpO_det
      case hw => rfl
      case h =>
        intro hFm wx hS_ hF_ K hK
        go_big_quiet_op
        first
          | exact hK _ rfl
          | (apply Exists.intro; refine ⟨fun _ => ?_, ?_⟩; (focus (first | (intro hC; have hC := hC.out; (try simp only [hC, Result.andThen]); first | exact ⟨True.intro, rfl⟩ | exact ⟨rfl, rfl⟩ | rfl))); exact hK _ rfl)
      case k =>
      simp only [Act.put, List.setIfInBounds_toArray, List.set_cons_succ, List.set_cons_zero, List.cons_append, List.nil_append]
      apply wpO_det
      case hw => rfl
      case h =>
        intro hFm wx hS_ hF_ K hK
        go_big_quiet_op
        first
          | exact hK _ rfl
          | (apply Exists.intro; refine ⟨fun _ => ?_, ?_⟩; (focus (first | (intro hC; have hC := hC.out; (try simp only [hC, Result.andThen]); first | exact ⟨True.intro, rfl⟩ | exact ⟨rfl, rfl⟩ | rfl))); exact hK _ rfl)
      case k =>
      simp only [Act.put, List.setIfInBounds_toArray, List.set_cons_succ, List.set_cons_zero, List.cons_append, List.nil_append]
      apply wpO_det
      case hw => rfl
      case h =>
        intro hFm wx hS_ hF_ K hK
        go_big_quiet_op
        first
          | exact hK _ rfl
          | (apply Exists.intro; refine ⟨fun _ => ?_, ?_⟩; (focus (first | (intro hC; have hC := hC.out; (try simp only [hC, Result.andThen]); first | exact ⟨True.intro, rfl⟩ | exact ⟨rfl, rfl⟩ | rfl))); exact hK _ rfl)
      case k =>
      simp only [Act.put, List.setIfInBounds_toArray, List.set_cons_succ, List.set_cons_zero, List.cons_append, List.nil_append]
      apply wpO_det
      case hw => rfl
      case h =>
        intro hFm wx hS_ hF_ K hK
        go_big_quiet_op
        first
          | exact hK _ rfl
          | (apply Exists.intro; refine ⟨fun _ => ?_, ?_⟩; (focus (first | (intro hC; have hC := KF.out _ hC.out.1; (try simp only [hC, Result.andThen]); first | exact ⟨True.intro, rfl⟩ | exact ⟨rfl, rfl⟩ | rfl))); exact hK _ rfl)
      case k =>
      simp only [Act.put, List.setIfInBounds_toArray, List.set_cons_succ, List.set_cons_zero, List.cons_append, List.nil_append]
      apply wpO_det
      case hw => rfl
      case h =>
        intro hFm wx hS_ hF_ K hK
        go_big_quiet_op
        first
          | exact hK _ rfl
          | (apply Exists.intro; refine ⟨fun _ => ?_, ?_⟩; (focus (first | (intro hC; have hC := hC.out; (try simp only [hC, Result.andThen]); first | exact ⟨True.intro, rfl⟩ | exact ⟨rfl, rfl⟩ | rfl))); exact hK _ rfl)
      case k =>
      simp only [Act.put, List.setIfInBounds_toArray, List.set_cons_succ, List.set_cons_zero, List.cons_append, List.nil_append]
      apply wpO_det
      case hw => rfl
      case h =>
        intro hFm wx hS_ hF_ K hK
        go_big_quiet_op
        first
          | exact hK _ rfl
          | (apply Exists.intro; refine ⟨fun _ => ?_, ?_⟩; (focus (first | (intro hC; have hC := hC.out; (try simp only [hC, Result.andThen]); first | exact ⟨True.intro, rfl⟩ | exact ⟨rfl, rfl⟩ | rfl))); exact hK _ rfl)
      case k =>
      simp only [Act.put, List.setIfInBounds_toArray, List.set_cons_succ, List.set_cons_zero, List.cons_append, List.nil_append]
      apply wpO_det
      case hw => rfl
      case h =>
        intro hFm wx hS_ hF_ K hK
        go_big_quiet_op
        first
          | exact hK _ rfl
          | (apply Exists.intro; refine ⟨fun _ => ?_, ?_⟩; (focus (first | (intro hC; have hC := hC.out; (try simp only [hC, Result.andThen]); first | exact ⟨True.intro, rfl⟩ | exact ⟨rfl, rfl⟩ | rfl))); exact hK _ rfl)
      case k =>
      simp only [Act.put, List.setIfInBounds_toArray, List.set_cons_succ, List.set_cons_zero, List.cons_append, List.nil_append]
      apply wpO_det
      case hw => rfl
      case h =>
        intro hFm wx hS_ hF_ K hK
        go_big_quiet_op
        first
          | exact hK _ rfl
          | (apply Exists.intro; refine ⟨fun _ => ?_, ?_⟩; (focus (first | (intro hC; have hC := hC.out; (try simp only [hC, Result.andThen]); first | exact ⟨True.intro, rfl⟩ | exact ⟨rfl, rfl⟩ | rfl))); exact hK _ rfl)
      case k =>
      simp only [Act.put, List.setIfInBounds_toArray, List.set_cons_succ, List.set_cons_zero, List.cons_append, List.nil_append]
      apply wpO_det
      case hw => rfl
      case h =>
        intro hFm wx hS_ hF_ K hK
        go_big_quiet_op
        first
          | exact hK _ rfl
          | (apply Exists.intro; refine ⟨fun _ => ?_, ?_⟩; (focus (first | (intro hC; have hC := hC.out; (try simp only [hC, Result.andThen]); first | exact ⟨True.intro, rfl⟩ | exact ⟨rfl, rfl⟩ | rfl))); exact hK _ rfl)
      case k =>
      simp only [Act.put, List.setIfInBounds_toArray, List.set_cons_succ, List.set_cons_zero, List.cons_append, List.nil_append]
      apply wpO_det
      case hw => rfl
      case h =>
        intro hFm wx hS_ hF_ K hK
        go_big_quiet_op
        first
          | exact hK _ rfl
          | (apply Exists.intro; refine ⟨fun _ => ?_, ?_⟩; (focus (first | (intro hC; have hC := KF.out _ hC.out.1; (try simp only [hC, Result.andThen]); first | exact ⟨True.intro, rfl⟩ | exact ⟨rfl, rfl⟩ | rfl))); exact hK _ rfl)
      case k =>
      simp only [Act.put, List.setIfInBounds_toArray, List.set_cons_succ, List.set_cons_zero, List.cons_append, List.nil_append]
      apply wpO_det
      case hw => rfl
      case h =>
        intro hFm wx hS_ hF_ K hK
        go_big_quiet_op
        first
          | exact hK _ rfl
          | (apply Exists.intro; refine ⟨fun _ => ?_, ?_⟩; (focus (first | (intro hC; have hC := hC.out; (try simp only [hC, Result.andThen]); first | exact ⟨True.intro, rfl⟩ | exact ⟨rfl, rfl⟩ | rfl))); exact hK _ rfl)
      case k =>
      simp only [Act.put, List.setIfInBounds_toArray, List.set_cons_succ, List.set_cons_zero, List.cons_append, List.nil_append]
      apply wpO_det
      case hw => rfl
      case h =>
        intro hFm wx hS_ hF_ K hK
        go_big_quiet_op
        first
          | exact hK _ rfl
          | (apply Exists.intro; refine ⟨fun _ => ?_, ?_⟩; (focus (first | (intro hC; have hC := hC.out; (try simp only [hC, Result.andThen]); first | exact ⟨True.intro, rfl⟩ | exact ⟨rfl, rfl⟩ | rfl))); exact hK _ rfl)
      case k =>
      simp only [Act.put, List.setIfInBounds_toArray, List.set_cons_succ, List.set_cons_zero, List.cons_append, List.nil_append]
      apply wpO_det
      case hw => rfl
      case h =>
        intro hFm wx hS_ hF_ K hK
        go_big_quiet_op
        first
          | exact hK _ rfl
          | (apply Exists.intro; refine ⟨fun _ => ?_, ?_⟩; (focus (first | (intro hC; have hC := hC.out; (try simp only [hC, Result.andThen]); first | exact ⟨True.intro, rfl⟩ | exact ⟨rfl, rfl⟩ | rfl))); exact hK _ rfl)
      case k =>
      simp only [Act.put, List.setIfInBounds_toArray, List.set_cons_succ, List.set_cons_zero, List.cons_append, List.nil_append]
      apply wpO_det
      case hw => rfl
      case h =>
        intro hFm wx hS_ hF_ K hK
        go_big_quiet_op
        first
          | exact hK _ rfl
          | (apply Exists.intro; refine ⟨fun _ => ?_, ?_⟩; (focus (first | (intro hC; have hC := hC.out; (try simp only [hC, Result.andThen]); first | exact ⟨True.intro, rfl⟩ | exact ⟨rfl, rfl⟩ | rfl))); exact hK _ rfl)
      case k =>
      simp only [Act.put, List.setIfInBounds_toArray, List.set_cons_succ, List.set_cons_zero, List.cons_append, List.nil_append]
      apply wpO_det
      case hw => rfl
      case h =>
        intro hFm wx hS_ hF_ K hK
        go_big_quiet_op
        first
          | exact hK _ rfl
          | (apply Exists.intro; refine ⟨fun _ => ?_, ?_⟩; (focus (first | (intro hC; have hC := hC.out; (try simp only [hC, Result.andThen]); first | exact ⟨True.intro, rfl⟩ | exact ⟨rfl, rfl⟩ | rfl))); exact hK _ rfl)
      case k =>
      simp only [Act.put, List.setIfInBounds_toArray, List.set_cons_succ, List.set_cons_zero, List.cons_append, List.nil_append]
      apply wpO_det
      case hw => rfl
      case h =>
        intro hFm wx hS_ hF_ K hK
        go_big_quiet_op
        first
          | exact hK _ rfl
          | (apply Exists.intro; refine ⟨fun _ => ?_, ?_⟩; (focus (first | (intro hC; have hC := hC.out; (try simp only [hC, Result.andThen]); first | exact ⟨True.intro, rfl⟩ | exact ⟨rfl, rfl⟩ | rfl))); exact hK _ rfl)
      case k =>
      simp only [Act.put, List.setIfInBounds_toArray, List.set_cons_succ, List.set_cons_zero, List.cons_append, List.nil_append]
      apply wpO_det
      case hw => rfl
      case h =>
        intro hFm wx hS_ hF_ K hK
        go_big_quiet_op
        first
          | exact hK _ rfl
          | (apply Exists.intro; refine ⟨fun _ => ?_, ?_⟩; (focus (first | (intro hC; have hC := KF.out _ hC.out.1; (try simp only [hC, Result.andThen]); first | exact ⟨True.intro, rfl⟩ | exact ⟨rfl, rfl⟩ | rfl))); exact hK _ rfl)
      case k =>
      simp only [Act.put, List.setIfInBounds_toArray, List.set_cons_succ, List.set_cons_zero, List.cons_append, List.nil_append]
      apply wpO_det
      case hw => rfl
      case h =>
        intro hFm wx hS_ hF_ K hK
        go_big_quiet_op
        first
          | exact hK _ rfl
          | (apply Exists.intro; refine ⟨fun _ => ?_, ?_⟩; (focus (first | (intro hC; have hC := hC.out; (try simp only [hC, Result.andThen]); first | exact ⟨True.intro, rfl⟩ | exact ⟨rfl, rfl⟩ | rfl))); exact hK _ rfl)
      case k =>
      simp only [Act.put, List.setIfInBounds_toArray, List.set_cons_succ, List.set_cons_zero, List.cons_append, List.nil_append]
      apply wpO_det
      case hw => rfl
      case h =>
        intro hFm wx hS_ hF_ K hK
        go_big_quiet_op
        first
          | exact hK _ rfl
          | (apply Exists.intro; refine ⟨fun _ => ?_, ?_⟩; (focus (first | (intro hC; have hC := hC.out; (try simp only [hC, Result.andThen]); first | exact ⟨True.intro, rfl⟩ | exact ⟨rfl, rfl⟩ | rfl))); exact hK _ rfl)
      case k =>
      simp only [Act.put, List.setIfInBounds_toArray, List.set_cons_succ, List.set_cons_zero, List.cons_append, List.nil_append]
      apply wpO_det
      case hw => rfl
      case h =>
        intro hFm wx hS_ hF_ K hK
        go_big_quiet_op
        first
          | exact hK _ rfl
          | (apply Exists.intro; refine ⟨fun _ => ?_, ?_⟩; (focus (first | (intro hC; have hC := hC.out; (try simp only [hC, Result.andThen]); first | exact ⟨True.intro, rfl⟩ | exact ⟨rfl, rfl⟩ | rfl))); exact hK _ rfl)
      case k =>
      simp only [Act.put, List.setIfInBounds_toArray, List.set_cons_succ, List.set_cons_zero, List.cons_append, List.nil_append]
      apply wpO_det
      case hw => rfl
      case h =>
        intro hFm wx hS_ hF_ K hK
        go_big_quiet_op
        first
          | exact hK _ rfl
          | (apply Exists.intro; refine ⟨fun _ => ?_, ?_⟩; (focus (first | (intro hC; have hC := hC.out; (try simp only [hC, Result.andThen]); first | exact ⟨True.intro, rfl⟩ | exact ⟨rfl, rfl⟩ | rfl))); exact hK _ rfl)
      case k =>
      simp only [Act.put, List.setIfInBounds_toArray, List.set_cons_succ, List.set_cons_zero, List.cons_append, List.nil_append]
      apply wpO_det
      case hw => rfl
      case h =>
        intro hFm wx hS_ hF_ K hK
        go_big_quiet_op
        first
          | exact hK _ rfl
          | (apply Exists.intro; refine ⟨fun _ => ?_, ?_⟩; (focus (first | (intro hC; have hC := hC.out; (try simp only [hC, Result.andThen]); first | exact ⟨True.intro, rfl⟩ | exact ⟨rfl, rfl⟩ | rfl))); exact hK _ rfl)
      case k =>
      simp only [Act.put, List.setIfInBounds_toArray, List.set_cons_succ, List.set_cons_zero, List.cons_append, List.nil_append]
      apply wpO_det
      case hw => rfl
      case h =>
        intro hFm wx hS_ hF_ K hK
        go_big_quiet_op
        first
          | exact hK _ rfl
          | (apply Exists.intro; refine ⟨fun _ => ?_, ?_⟩; (focus (first | (intro hC; have hC := KF.out _ hC.out.1; (try simp only [hC, Result.andThen]); first | exact ⟨True.intro, rfl⟩ | exact ⟨rfl, rfl⟩ | rfl))); exact hK _ rfl)
      case k =>
      simp only [Act.put, List.setIfInBounds_toArray, List.set_cons_succ, List.set_cons_zero, List.cons_append, List.nil_append]
      apply wpO_det
      case hw => rfl
      case h =>
        intro hFm wx hS_ hF_ K hK
        go_big_quiet_op
        first
          | exact hK _ rfl
          | (apply Exists.intro; refine ⟨fun _ => ?_, ?_⟩; (focus (first | (intro hC; have hC := hC.out; (try simp only [hC, Result.andThen]); first | exact ⟨True.intro, rfl⟩ | exact ⟨rfl, rfl⟩ | rfl))); exact hK _ rfl)
      case k =>
      simp only [Act.put, List.setIfInBounds_toArray, List.set_cons_succ, List.set_cons_zero, List.cons_append, List.nil_append]
      apply wpO_det
      case hw => rfl
      case h =>
        intro hFm wx hS_ hF_ K hK
        go_big_quiet_op
        first
          | exact hK _ rfl
          | (apply Exists.intro; refine ⟨fun _ => ?_, ?_⟩; (focus (first | (intro hC; have hC := hC.out; (try simp only [hC, Result.andThen]); first | exact ⟨True.intro, rfl⟩ | exact ⟨rfl, rfl⟩ | rfl))); exact hK _ rfl)
      case k =>
      simp only [Act.put, List.setIfInBounds_toArray, List.set_cons_succ, List.set_cons_zero, List.cons_append, List.nil_append]
      apply wpO_det
      case hw => rfl
      case h =>
        intro hFm wx hS_ hF_ K hK
        go_big_quiet_op
        first
          | exact hK _ rfl
          | (apply Exists.intro; refine ⟨fun _ => ?_, ?_⟩; (focus (first | (intro hC; have hC := hC.out; (try simp only [hC, Result.andThen]); first | exact ⟨True.intro, rfl⟩ | exact ⟨rfl, rfl⟩ | rfl))); exact hK _ rfl)
      case k =>
      simp only [Act.put, List.setIfInBounds_toArray, List.set_cons_succ, List.set_cons_zero, List.cons_append, List.nil_append]
      refine wpO_nil ?_
      intro w6 hS hF hB
      (try simp [allF] at hF)
      (try simp [List.pairwise_cons] at hB)
      have HS6 := Lib.hid (HR.out.trans (HS5.out.trans hS))
      clear hS hF hB KF HS5 HR wx wy
      go_wp2_with fail
      go_loopw [106] (fun v106 wr => ∃ j : Nat, j ≤ L ∧ v106 = .int .i64 j ∧ Hid (Since w4 wr)) (fun v106 _ => L - (intOf v106).toNat)
      case atStart => exact ⟨0, by omega, by go_num, HS6⟩
      case round =>
        clear HS6
        obtain ⟨j, hj, rfl, HR⟩ := hrel
        rcases Nat.lt_or_ge j L with hlt2 | hge2
        · have hz2 : decide ((j : Int) < (L : Int)) = true := by rw [decide_eq_true_eq]; omega
          obtain ⟨gq, oq, hgq, q0, q1⟩ := HPX.out j (by rw [← HLL.out]; exact hlt2)
          injection hgq with hgq
          injection hgq with hg1 hg2
          subst hg1 hg2
          obtain ⟨q, hq⟩ : ∃ q, q = pAt C j := ⟨_, rfl⟩
          have HQ := Lib.hid hq
          rw [← hq] at q0 q1
          have q0 := HPK.out _ HR.out _ _ q0
          have q1 := HPK.out _ HR.out _ _ q1
          have hqm : q ∈ hotL m := by rw [hq]; exact HCO.out.hot j (by rw [← HLL.out]; exact hlt2)
          have hqo := okP_abs (by rw [hq]; exact HCO.out.ok j (by rw [← HLL.out]; exact hlt2) : okP q.1 q.2 = true)
          have HCN := Lib.hid (fun w' (hs : Since w4 w') => ContainsP_any _ (hotL m) q.1 q.2 w' HL3.out (HP4.out.since hs) hqm)
          have j1 : (0 : Int) ≤ (j : Int) := by omega
          have j2 : (j : Int) < (L : Int) := by omega
          clear hq hqm
          go_upto_region 15 with fail
          obtain ⟨G, HG⟩ : ∃ G, G = wr.heap.size := ⟨_, rfl⟩
          rw [← HG]
          refine atW (fun w' => Hid (Since w4 w') ∧ Blk w' G 26 #[.int .i64 q.1, .int .i64 q.2]) ⟨HR.out.alloc _, Blk.new' HG⟩ ?_
          clear HR HG q0 q1
          rintro w7 ⟨HS7, hb⟩
          have b_0 := hb.cell 0
          have b_1 := hb.cell 1
          have b_f0 := hb.frozen 0
          have b_f1 := hb.frozen 1
          simp only [List.getElem?_toArray, List.getElem?_cons_zero, List.getElem?_cons_succ] at b_0 b_1
          have HB7 := Lib.hid hb
          clear hb b_f0 b_f1
          go_wp2_with fail
          refine (HCN.out _ HS7.out).mono ?_
          rintro e w8 ⟨rfl, hs⟩
          have HS8 := Lib.hid (HS7.out.trans hs)
          have HB8 := Lib.hid (hs.blk HB7.out)
          clear hs HS7 HB7 HCN b_0 b_1
          by_cases hj0 : j = 0
          · subst hj0
            have z1 : decide ((0 : Int) < ((0 : Nat) : Int)) = false := by decide
            go_upto_region 17 with fail
            apply region_facts 39 (fun w' => Since w8 w')
            case hm => kernel_rfl
            case hB => kernel_rfl
            case hS => exact (Since.rfl_ w8).drew
            case h =>
            simp only [List.take_succ_cons, List.take_zero, List.drop_succ_cons, List.drop_zero]
            apply wpO_det
            case hw => rfl
            case h =>
              intro hFm wx hS_ hF_ K hK
              go_big_quiet_op
              first
                | exact hK _ rfl
                | (apply Exists.intro; refine ⟨fun _ => ?_, ?_⟩; (focus (first | (intro hC; have hC := hC.out; (try simp only [hC, Result.andThen]); first | exact ⟨True.intro, rfl⟩ | exact ⟨rfl, rfl⟩ | rfl))); exact hK _ rfl)
            case k =>
            simp only [Act.put, List.setIfInBounds_toArray, List.set_cons_succ, List.set_cons_zero, List.cons_append, List.nil_append]
            apply wpO_det
            case hw => rfl
            case h =>
              intro hFm wx hS_ hF_ K hK
              go_big_quiet_op
              first
                | exact hK _ rfl
                | (apply Exists.intro; refine ⟨fun _ => ?_, ?_⟩; (focus (first | (intro hC; have hC := hC.out; (try simp only [hC, Result.andThen]); first | exact ⟨True.intro, rfl⟩ | exact ⟨rfl, rfl⟩ | rfl))); exact hK _ rfl)
            case k =>
            simp only [Act.put, List.setIfInBounds_toArray, List.set_cons_succ, List.set_cons_zero, List.cons_append, List.nil_append]
            apply wpO_det
            case hw => rfl
            case h =>
              intro hFm wx hS_ hF_ K hK
              go_big_quiet_op
              first
                | exact hK _ rfl
                | (apply Exists.intro; refine ⟨fun _ => ?_, ?_⟩; (focus (first | (intro hC; have hC := hC.out; (try simp only [hC, Result.andThen]); first | exact ⟨True.intro, rfl⟩ | exact ⟨rfl, rfl⟩ | rfl))); exact hK _ rfl)
            case k =>
            simp only [Act.put, List.setIfInBounds_toArray, List.set_cons_succ, List.set_cons_zero, List.cons_append, List.nil_append]
            apply wpO_skip
            case hw => rfl
            case k =>
            simp only [Act.put, List.setIfInBounds_toArray, List.set_cons_succ, List.set_cons_zero, List.cons_append, List.nil_append]
            apply wpO_skip
            case hw => rfl
            case k =>
            simp only [Act.put, List.setIfInBounds_toArray, List.set_cons_succ, List.set_cons_zero, List.cons_append, List.nil_append]
            apply wpO_skip
            case hw => rfl
            case k =>
            simp only [Act.put, List.setIfInBounds_toArray, List.set_cons_succ, List.set_cons_zero, List.cons_append, List.nil_append]
            apply wpO_skip
            case hw => rfl
            case k =>
            simp only [Act.put, List.setIfInBounds_toArray, List.set_cons_succ, List.set_cons_zero, List.cons_append, List.nil_append]
            apply wpO_skip
            case hw => rfl
            case k =>
            simp only [Act.put, List.setIfInBounds_toArray, List.set_cons_succ, List.set_cons_zero, List.cons_append, List.nil_append]
            apply wpO_skip
            case hw => rfl
            case k =>
            simp only [Act.put, List.setIfInBounds_toArray, List.set_cons_succ, List.set_cons_zero, List.cons_append, List.nil_append]
            apply wpO_skip
            case hw => rfl
            case k =>
            simp only [Act.put, List.setIfInBounds_toArray, List.set_cons_succ, List.set_cons_zero, List.cons_append, List.nil_append]
            apply wpO_skip
            case hw => rfl
            case k =>
            simp only [Act.put, List.setIfInBounds_toArray, List.set_cons_succ, List.set_cons_zero, List.cons_append, List.nil_append]
            apply wpO_skip
            case hw => rfl
            case k =>
            simp only [Act.put, List.setIfInBounds_toArray, List.set_cons_succ, List.set_cons_zero, List.cons_append, List.nil_append]
            apply wpO_skip
            case hw => rfl
            case k =>
            simp only [Act.put, List.setIfInBounds_toArray, List.set_cons_succ, List.set_cons_zero, List.cons_append, List.nil_append]
            apply wpO_skip
            case hw => rfl
            case k =>
            simp only [Act.put, List.setIfInBounds_toArray, List.set_cons_succ, List.set_cons_zero, List.cons_append, List.nil_append]
            apply wpO_skip
            case hw => rfl
            case k =>
            simp only [Act.put, List.setIfInBounds_toArray, List.set_cons_succ, List.set_cons_zero, List.cons_append, List.nil_append]
            apply wpO_skip
            case hw => rfl
            case k =>
            simp only [Act.put, List.setIfInBounds_toArray, List.set_cons_succ, List.set_cons_zero, List.cons_append, List.nil_append]
            apply wpO_skip
            case hw => rfl
            case k =>
            simp only [Act.put, List.setIfInBounds_toArray, List.set_cons_succ, List.set_cons_zero, List.cons_append, List.nil_append]
            apply wpO_skip
            case hw => rfl
            case k =>
            simp only [Act.put, List.setIfInBounds_toArray, List.set_cons_succ, List.set_cons_zero, List.cons_append, List.nil_append]
            apply wpO_skip
            case hw => rfl
            case k =>
            simp only [Act.put, List.setIfInBounds_toArray, List.set_cons_succ, List.set_cons_zero, List.cons_append, List.nil_append]
            apply wpO_skip
            case hw => rfl
            case k =>
            simp only [Act.put, List.setIfInBounds_toArray, List.set_cons_succ, List.set_cons_zero, List.cons_append, List.nil_append]
            apply wpO_skip
            case hw => rfl
            case k =>
            simp only [Act.put, List.setIfInBounds_toArray, List.set_cons_succ, List.set_cons_zero, List.cons_append, List.nil_append]
            apply wpO_skip
            case hw => rfl
            case k =>
            simp only [Act.put, List.setIfInBounds_toArray, List.set_cons_succ, List.set_cons_zero, List.cons_append, List.nil_append]
            apply wpO_skip
            case hw => rfl
            case k =>
            simp only [Act.put, List.setIfInBounds_toArray, List.set_cons_succ, List.set_cons_zero, List.cons_append, List.nil_append]
            apply wpO_skip
            case hw => rfl
            case k =>
            simp only [Act.put, List.setIfInBounds_toArray, List.set_cons_succ, List.set_cons_zero, List.cons_append, List.nil_append]
            apply wpO_skip
            case hw => rfl
            case k =>
            simp only [Act.put, List.setIfInBounds_toArray, List.set_cons_succ, List.set_cons_zero, List.cons_append, List.nil_append]
            apply wpO_skip
            case hw => rfl
            case k =>
            simp only [Act.put, List.setIfInBounds_toArray, List.set_cons_succ, List.set_cons_zero, List.cons_append, List.nil_append]
            apply wpO_skip
            case hw => rfl
            case k =>
            simp only [Act.put, List.setIfInBounds_toArray, List.set_cons_succ, List.set_cons_zero, List.cons_append, List.nil_append]
            apply wpO_skip
            case hw => rfl
            case k =>
            simp only [Act.put, List.setIfInBounds_toArray, List.set_cons_succ, List.set_cons_zero, List.cons_append, List.nil_append]
            apply wpO_skip
            case hw => rfl
            case k =>
            simp only [Act.put, List.setIfInBounds_toArray, List.set_cons_succ, List.set_cons_zero, List.cons_append, List.nil_append]
            apply wpO_skip
            case hw => rfl
            case k =>
            simp only [Act.put, List.setIfInBounds_toArray, List.set_cons_succ, List.set_cons_zero, List.cons_append, List.nil_append]
            apply wpO_skip
            case hw => rfl
            case k =>
            simp only [Act.put, List.setIfInBounds_toArray, List.set_cons_succ, List.set_cons_zero, List.cons_append, List.nil_append]
            apply wpO_skip
            case hw => rfl
            case k =>
            simp only [Act.put, List.setIfInBounds_toArray, List.set_cons_succ, List.set_cons_zero, List.cons_append, List.nil_append]
            apply wpO_skip
            case hw => rfl
            case k =>
            simp only [Act.put, List.setIfInBounds_toArray, List.set_cons_succ, List.set_cons_zero, List.cons_append, List.nil_append]
            apply wpO_skip
            case hw => rfl
            case k =>
            simp only [Act.put, List.setIfInBounds_toArray, List.set_cons_succ, List.set_cons_zero, List.cons_append, List.nil_append]
            apply wpO_skip
            case hw => rfl
            case k =>
            simp only [Act.put, List.setIfInBounds_toArray, List.set_cons_succ, List.set_cons_zero, List.cons_append, List.nil_append]
            apply wpO_skip
            case hw => rfl
            case k =>
            simp only [Act.put, List.setIfInBounds_toArray, List.set_cons_succ, List.set_cons_zero, List.cons_append, List.nil_append]
            apply wpO_skip
            case hw => rfl
            case k =>
            simp only [Act.put, List.setIfInBounds_toArray, List.set_cons_succ, List.set_cons_zero, List.cons_append, List.nil_append]
            apply wpO_skip
            case hw => rfl
            case k =>
            simp only [Act.put, List.setIfInBounds_toArray, List.set_cons_succ, List.set_cons_zero, List.cons_append, List.nil_append]
            apply wpO_det
            case hw => rfl
            case h =>
              intro hFm wx hS_ hF_ K hK
              go_big_quiet_op
              first
                | exact hK _ rfl
                | (apply Exists.intro; refine ⟨fun _ => ?_, ?_⟩; (focus (first | (intro hC; have hC := hC.out; (try simp only [hC, Result.andThen]); first | exact ⟨True.intro, rfl⟩ | exact ⟨rfl, rfl⟩ | rfl))); exact hK _ rfl)
            case k =>
            simp only [Act.put, List.setIfInBounds_toArray, List.set_cons_succ, List.set_cons_zero, List.cons_append, List.nil_append]
            refine wpO_nil ?_
            intro w9 hS hF hB
            (try simp [allF] at hF)
            (try simp [List.pairwise_cons] at hB)
            have HS9 := Lib.hid (HS8.out.trans hS)
            clear hS hF hB HS8 HB8
            go_wp2_with fail
            go_roundw
            case rel => exact ⟨0 + 1, by omega, by go_num, HS9⟩
            case measure => simp [intOf]; omega
          · obtain ⟨i, hji⟩ : ∃ i, j = i + 1 := ⟨j - 1, by omega⟩
            obtain ⟨gr, or_, hgr, r0, r1⟩ := HPX.out i (by rw [← HLL.out]; omega)
            injection hgr with hgr
            injection hgr with hg1 hg2
            subst hg1 hg2
            obtain ⟨r, hr⟩ : ∃ r, r = pAt C i := ⟨_, rfl⟩
            rw [← hr] at r0 r1
            have r0 := HPK.out _ HS8.out _ _ r0
            have r1 := HPK.out _ HS8.out _ _ r1
            have hro := okP_abs (by rw [hr]; exact HCO.out.ok i (by rw [← HLL.out]; omega) : okP r.1 r.2 = true)
            have hw := HCO.out.way i (by rw [← HLL.out]; omega)
            rw [← hji, ← HQ.out, ← hr, ← HDX.out, ← HDY.out] at hw
            obtain ⟨ex, HEX⟩ : ∃ ex, Hid (ex = q.1 - r.1) := ⟨_, rfl⟩
            obtain ⟨ey, HEY⟩ : ∃ ey, Hid (ey = q.2 - r.2) := ⟨_, rfl⟩
            rw [← HEX.out, ← HEY.out] at hw
            have bex : -2097152 ≤ ex ∧ ex ≤ 2097152 := by rw [HEX.out]; omega
            have bey : -2097152 ≤ ey ∧ ey ≤ 2097152 := by rw [HEY.out]; omega
            obtain ⟨px, HPXX⟩ : ∃ px, Hid (px = ex * dx) := ⟨_, rfl⟩
            obtain ⟨py, HPYY⟩ : ∃ py, Hid (py = ey * dy) := ⟨_, rfl⟩
            have m1 : (ex * dx).natAbs ≤ 4398046511104 := Nat.le_trans (mul_bd (A := 2097152) (B := 2097152) (by omega) (by omega)) (by decide)
            have m2 : (ey * dy).natAbs ≤ 4398046511104 := Nat.le_trans (mul_bd (A := 2097152) (B := 2097152) (by omega) (by omega)) (by decide)
            have wex : IntKind.i64.wrap (q.1 - r.1) = ex := by rw [i64wc, HEX.out]; exact wrap_id (by omega)
            have wey : IntKind.i64.wrap (q.2 - r.2) = ey := by rw [i64wc, HEY.out]; exact wrap_id (by omega)
            have wpx : IntKind.i64.wrap (ex * dx) = px := by rw [i64wc, HPXX.out]; exact wrap_id (by omega)
            have wpy : IntKind.i64.wrap (ey * dy) = py := by rw [i64wc, HPYY.out]; exact wrap_id (by omega)
            have hpx : decide (px < 0) = false := by rw [decide_eq_false_iff_not, HPXX.out]; omega
            have hpy : decide (py < 0) = false := by rw [decide_eq_false_iff_not, HPYY.out]; omega
            have hne : (q.1 == r.1 && q.2 == r.2) = false := by
              rw [Bool.eq_false_iff]; intro h; rw [Bool.and_eq_true, beq_iff_eq, beq_iff_eq] at h; exact hw.1 (Prod.ext h.1 h.2)
            have iw : IntKind.i64.wrap ((j : Int) - 1) = (i : Int) := by
              rw [i64wc, show (j : Int) - 1 = i by omega]
              exact wrap_id (by omega)
            have z1 : decide ((0 : Int) < (j : Int)) = true := by rw [decide_eq_true_eq]; omega
            have z2 : decide (0 < j) = true := by rw [decide_eq_true_eq]; omega
            have z3 : 0 < j := by omega
            have i3 : (0 : Int) ≤ (i : Int) := by omega
            have i4 : (i : Int) < (L : Int) := by omega
            have KF := Lib.hid (fun w' (h : Since w8 w') => (show w'.cell? ⟨g2, o2 + i * 2, none⟩ = some (.int .i64 r.1) ∧ w'.cell? ⟨g2, o2 + i * 2 + 1, none⟩ = some (.int .i64 r.2) ∧ w'.cell? ⟨G, 0, none⟩ = some (.int .i64 q.1) ∧ w'.cell? ⟨G, 1, none⟩ = some (.int .i64 q.2) from
              ⟨keepC h _ _ r0, keepC h _ _ r1, (h.blk HB8.out).cell 0, (h.blk HB8.out).cell 1⟩))
            clear hji hr hw m1 m2 r0 r1 hj0
            go_upto_region 17 with fail
            apply region_facts 39 (fun w' => Since w8 w')
            case hm => kernel_rfl
            case hB => kernel_rfl
            case hS => exact (Since.rfl_ w8).drew
            case h =>
            simp only [List.take_succ_cons, List.take_zero, List.drop_succ_cons, List.drop_zero]
            apply wpO_det
            case hw => rfl
            case h =>
              intro hFm wx hS_ hF_ K hK
              go_big_quiet_op
              first
                | exact hK _ rfl
                | (apply Exists.intro; refine ⟨fun _ => ?_, ?_⟩; (focus (first | (intro hC; have hC := hC.out; (try simp only [hC, Result.andThen]); first | exact ⟨True.intro, rfl⟩ | exact ⟨rfl, rfl⟩ | rfl))); exact hK _ rfl)
            case k =>
            simp only [Act.put, List.setIfInBounds_toArray, List.set_cons_succ, List.set_cons_zero, List.cons_append, List.nil_append]
            apply wpO_det
            case hw => rfl
            case h =>
              intro hFm wx hS_ hF_ K hK
              go_big_quiet_op
              first
                | exact hK _ rfl
                | (apply Exists.intro; refine ⟨fun _ => ?_, ?_⟩; (focus (first | (intro hC; have hC := hC.out; (try simp only [hC, Result.andThen]); first | exact ⟨True.intro, rfl⟩ | exact ⟨rfl, rfl⟩ | rfl))); exact hK _ rfl)
            case k =>
            simp only [Act.put, List.setIfInBounds_toArray, List.set_cons_succ, List.set_cons_zero, List.cons_append, List.nil_append]
            apply wpO_det
            case hw => rfl
            case h =>
              intro hFm wx hS_ hF_ K hK
              go_big_quiet_op
              first
                | exact hK _ rfl
                | (apply Exists.intro; refine ⟨fun _ => ?_, ?_⟩; (focus (first | (intro hC; have hC := hC.out; (try simp only [hC, Result.andThen]); first | exact ⟨True.intro, rfl⟩ | exact ⟨rfl, rfl⟩ | rfl))); exact hK _ rfl)
            case k =>
            simp only [Act.put, List.setIfInBounds_toArray, List.set_cons_succ, List.set_cons_zero, List.cons_append, List.nil_append]
            apply wpO_det
            case hw => rfl
            case h =>
              intro hFm wx hS_ hF_ K hK
              go_big_quiet_op
              first
                | exact hK _ rfl
                | (apply Exists.intro; refine ⟨fun _ => ?_, ?_⟩; (focus (first | (intro hC; have hC := KF.out _ hC.out.1; (try simp only [hC, Result.andThen]); first | exact ⟨True.intro, rfl⟩ | exact ⟨rfl, rfl⟩ | rfl))); exact hK _ rfl)
            case k =>
            simp only [Act.put, List.setIfInBounds_toArray, List.set_cons_succ, List.set_cons_zero, List.cons_append, List.nil_append]
            apply wpO_det
            case hw => rfl
            case h =>
              intro hFm wx hS_ hF_ K hK
              go_big_quiet_op
              first
                | exact hK _ rfl
                | (apply Exists.intro; refine ⟨fun _ => ?_, ?_⟩; (focus (first | (intro hC; have hC := hC.out; (try simp only [hC, Result.andThen]); first | exact ⟨True.intro, rfl⟩ | exact ⟨rfl, rfl⟩ | rfl))); exact hK _ rfl)
            case k =>
            simp only [Act.put, List.setIfInBounds_toArray, List.set_cons_succ, List.set_cons_zero, List.cons_append, List.nil_append]
            apply wpO_det
            case hw => rfl
            case h =>
              intro hFm wx hS_ hF_ K hK
              go_big_quiet_op
              first
                | exact hK _ rfl
                | (apply Exists.intro; refine ⟨fun _ => ?_, ?_⟩; (focus (first | (intro hC; have hC := hC.out; (try simp only [hC, Result.andThen]); first | exact ⟨True.intro, rfl⟩ | exact ⟨rfl, rfl⟩ | rfl))); exact hK _ rfl)
            case k =>
            simp only [Act.put, List.setIfInBounds_toArray, List.set_cons_succ, List.set_cons_zero, List.cons_append, List.nil_append]
            apply wpO_det
            case hw => rfl
            case h =>
              intro hFm wx hS_ hF_ K hK
              go_big_quiet_op
              first
                | exact hK _ rfl
                | (apply Exists.intro; refine ⟨fun _ => ?_, ?_⟩; (focus (first | (intro hC; have hC := hC.out; (try simp only [hC, Result.andThen]); first | exact ⟨True.intro, rfl⟩ | exact ⟨rfl, rfl⟩ | rfl))); exact hK _ rfl)
            case k =>
            simp only [Act.put, List.setIfInBounds_toArray, List.set_cons_succ, List.set_cons_zero, List.cons_append, List.nil_append]
            apply wpO_det
            case hw => rfl
            case h =>
              intro hFm wx hS_ hF_ K hK
              go_big_quiet_op
              first
                | exact hK _ rfl
                | (apply Exists.intro; refine ⟨fun _ => ?_, ?_⟩; (focus (first | (intro hC; have hC := hC.out; (try simp only [hC, Result.andThen]); first | exact ⟨True.intro, rfl⟩ | exact ⟨rfl, rfl⟩ | rfl))); exact hK _ rfl)
            case k =>
            simp only [Act.put, List.setIfInBounds_toArray, List.set_cons_succ, List.set_cons_zero, List.cons_append, List.nil_append]
            apply wpO_det
            case hw => rfl
            case h =>
              intro hFm wx hS_ hF_ K hK
              go_big_quiet_op
              first
                | exact hK _ rfl
                | (apply Exists.intro; refine ⟨fun _ => ?_, ?_⟩; (focus (first | (intro hC; have hC := KF.out _ hC.out.1; (try simp only [hC, Result.andThen]); first | exact ⟨True.intro, rfl⟩ | exact ⟨rfl, rfl⟩ | rfl))); exact hK _ rfl)
            case k =>
            simp only [Act.put, List.setIfInBounds_toArray, List.set_cons_succ, List.set_cons_zero, List.cons_append, List.nil_append]
            apply wpO_det
            case hw => rfl
            case h =>
              intro hFm wx hS_ hF_ K hK
              go_big_quiet_op
              first
                | exact hK _ rfl
                | (apply Exists.intro; refine ⟨fun _ => ?_, ?_⟩; (focus (first | (intro hC; have hC := hC.out; (try simp only [hC, Result.andThen]); first | exact ⟨True.intro, rfl⟩ | exact ⟨rfl, rfl⟩ | rfl))); exact hK _ rfl)
            case k =>
            simp only [Act.put, List.setIfInBounds_toArray, List.set_cons_succ, List.set_cons_zero, List.cons_append, List.nil_append]
            apply wpO_det
            case hw => rfl
            case h =>
              intro hFm wx hS_ hF_ K hK
              go_big_quiet_op
              first
                | exact hK _ rfl
                | (apply Exists.intro; refine ⟨fun _ => ?_, ?_⟩; (focus (first | (intro hC; have hC := hC.out; (try simp only [hC, Result.andThen]); first | exact ⟨True.intro, rfl⟩ | exact ⟨rfl, rfl⟩ | rfl))); exact hK _ rfl)
            case k =>
            simp only [Act.put, List.setIfInBounds_toArray, List.set_cons_succ, List.set_cons_zero, List.cons_append, List.nil_append]
            apply wpO_det
            case hw => rfl
            case h =>
              intro hFm wx hS_ hF_ K hK
              go_big_quiet_op
              first
                | exact hK _ rfl
                | (apply Exists.intro; refine ⟨fun _ => ?_, ?_⟩; (focus (first | (intro hC; have hC := hC.out; (try simp only [hC, Result.andThen]); first | exact ⟨True.intro, rfl⟩ | exact ⟨rfl, rfl⟩ | rfl))); exact hK _ rfl)
            case k =>
            simp only [Act.put, List.setIfInBounds_toArray, List.set_cons_succ, List.set_cons_zero, List.cons_append, List.nil_append]
            apply wpO_det
            case hw => rfl
            case h =>
              intro hFm wx hS_ hF_ K hK
              go_big_quiet_op
              first
                | exact hK _ rfl
                | (apply Exists.intro; refine ⟨fun _ => ?_, ?_⟩; (focus (first | (intro hC; have hC := KF.out _ hC.out.1; (try simp only [hC, Result.andThen]); first | exact ⟨True.intro, rfl⟩ | exact ⟨rfl, rfl⟩ | rfl))); exact hK _ rfl)
            case k =>
            simp only [Act.put, List.setIfInBounds_toArray, List.set_cons_succ, List.set_cons_zero, List.cons_append, List.nil_append]
            apply wpO_det
            case hw => rfl
            case h =>
              intro hFm wx hS_ hF_ K hK
              go_big_quiet_op
              first
                | exact hK _ rfl
                | (apply Exists.intro; refine ⟨fun _ => ?_, ?_⟩; (focus (first | (intro hC; have hC := hC.out; (try simp only [hC, Result.andThen]); first | exact ⟨True.intro, rfl⟩ | exact ⟨rfl, rfl⟩ | rfl))); exact hK _ rfl)
            case k =>
            simp only [Act.put, List.setIfInBounds_toArray, List.set_cons_succ, List.set_cons_zero, List.cons_append, List.nil_append]
            apply wpO_det
            case hw => rfl
            case h =>
              intro hFm wx hS_ hF_ K hK
              go_big_quiet_op
              first
                | exact hK _ rfl
                | (apply Exists.intro; refine ⟨fun _ => ?_, ?_⟩; (focus (first | (intro hC; have hC := hC.out; (try simp only [hC, Result.andThen]); first | exact ⟨True.intro, rfl⟩ | exact ⟨rfl, rfl⟩ | rfl))); exact hK _ rfl)
            case k =>
            simp only [Act.put, List.setIfInBounds_toArray, List.set_cons_succ, List.set_cons_zero, List.cons_append, List.nil_append]
            apply wpO_det
            case hw => rfl
            case h =>
              intro hFm wx hS_ hF_ K hK
              go_big_quiet_op
              first
                | exact hK _ rfl
                | (apply Exists.intro; refine ⟨fun _ => ?_, ?_⟩; (focus (first | (intro hC; have hC := hC.out; (try simp only [hC, Result.andThen]); first | exact ⟨True.intro, rfl⟩ | exact ⟨rfl, rfl⟩ | rfl))); exact hK _ rfl)
            case k =>
            simp only [Act.put, List.setIfInBounds_toArray, List.set_cons_succ, List.set_cons_zero, List.cons_append, List.nil_append]
            apply wpO_det
            case hw => rfl
            case h =>
              intro hFm wx hS_ hF_ K hK
              go_big_quiet_op
              first
                | exact hK _ rfl
                | (apply Exists.intro; refine ⟨fun _ => ?_, ?_⟩; (focus (first | (intro hC; have hC := hC.out; (try simp only [hC, Result.andThen]); first | exact ⟨True.intro, rfl⟩ | exact ⟨rfl, rfl⟩ | rfl))); exact hK _ rfl)
            case k =>
            simp only [Act.put, List.setIfInBounds_toArray, List.set_cons_succ, List.set_cons_zero, List.cons_append, List.nil_append]
            apply wpO_det
            case hw => rfl
            case h =>
              intro hFm wx hS_ hF_ K hK
              go_big_quiet_op
              first
                | exact hK _ rfl
                | (apply Exists.intro; refine ⟨fun _ => ?_, ?_⟩; (focus (first | (intro hC; have hC := hC.out; (try simp only [hC, Result.andThen]); first | exact ⟨True.intro, rfl⟩ | exact ⟨rfl, rfl⟩ | rfl))); exact hK _ rfl)
            case k =>
            simp only [Act.put, List.setIfInBounds_toArray, List.set_cons_succ, List.set_cons_zero, List.cons_append, List.nil_append]
            apply wpO_det
            case hw => rfl
            case h =>
              intro hFm wx hS_ hF_ K hK
              go_big_quiet_op
              first
                | exact hK _ rfl
                | (apply Exists.intro; refine ⟨fun _ => ?_, ?_⟩; (focus (first | (intro hC; have hC := KF.out _ hC.out.1; (try simp only [hC, Result.andThen]); first | exact ⟨True.intro, rfl⟩ | exact ⟨rfl, rfl⟩ | rfl))); exact hK _ rfl)
            case k =>
            simp only [Act.put, List.setIfInBounds_toArray, List.set_cons_succ, List.set_cons_zero, List.cons_append, List.nil_append]
            apply wpO_det
            case hw => rfl
            case h =>
              intro hFm wx hS_ hF_ K hK
              go_big_quiet_op
              first
                | exact hK _ rfl
                | (apply Exists.intro; refine ⟨fun _ => ?_, ?_⟩; (focus (first | (intro hC; have hC := hC.out; (try simp only [hC, Result.andThen]); first | exact ⟨True.intro, rfl⟩ | exact ⟨rfl, rfl⟩ | rfl))); exact hK _ rfl)
            case k =>
            simp only [Act.put, List.setIfInBounds_toArray, List.set_cons_succ, List.set_cons_zero, List.cons_append, List.nil_append]
            apply wpO_det
            case hw => rfl
            case h =>
              intro hFm wx hS_ hF_ K hK
              go_big_quiet_op
              first
                | exact hK _ rfl
                | (apply Exists.intro; refine ⟨fun _ => ?_, ?_⟩; (focus (first | (intro hC; have hC := hC.out; (try simp only [hC, Result.andThen]); first | exact ⟨True.intro, rfl⟩ | exact ⟨rfl, rfl⟩ | rfl))); exact hK _ rfl)
            case k =>
            simp only [Act.put, List.setIfInBounds_toArray, List.set_cons_succ, List.set_cons_zero, List.cons_append, List.nil_append]
            apply wpO_det
            case hw => rfl
            case h =>
              intro hFm wx hS_ hF_ K hK
              go_big_quiet_op
              first
                | exact hK _ rfl
                | (apply Exists.intro; refine ⟨fun _ => ?_, ?_⟩; (focus (first | (intro hC; have hC := hC.out; (try simp only [hC, Result.andThen]); first | exact ⟨True.intro, rfl⟩ | exact ⟨rfl, rfl⟩ | rfl))); exact hK _ rfl)
            case k =>
            simp only [Act.put, List.setIfInBounds_toArray, List.set_cons_succ, List.set_cons_zero, List.cons_append, List.nil_append]
            apply wpO_det
            case hw => rfl
            case h =>
              intro hFm wx hS_ hF_ K hK
              go_big_quiet_op
              first
                | exact hK _ rfl
                | (apply Exists.intro; refine ⟨fun _ => ?_, ?_⟩; (focus (first | (intro hC; have hC := hC.out; (try simp only [hC, Result.andThen]); first | exact ⟨True.intro, rfl⟩ | exact ⟨rfl, rfl⟩ | rfl))); exact hK _ rfl)
            case k =>
            simp only [Act.put, List.setIfInBounds_toArray, List.set_cons_succ, List.set_cons_zero, List.cons_append, List.nil_append]
            apply wpO_det
            case hw => rfl
            case h =>
              intro hFm wx hS_ hF_ K hK
              go_big_quiet_op
              first
                | exact hK _ rfl
                | (apply Exists.intro; refine ⟨fun _ => ?_, ?_⟩; (focus (first | (intro hC; have hC := hC.out; (try simp only [hC, Result.andThen]); first | exact ⟨True.intro, rfl⟩ | exact ⟨rfl, rfl⟩ | rfl))); exact hK _ rfl)
            case k =>
            simp only [Act.put, List.setIfInBounds_toArray, List.set_cons_succ, List.set_cons_zero, List.cons_append, List.nil_append]
            apply wpO_det
            case hw => rfl
            case h =>
              intro hFm wx hS_ hF_ K hK
              go_big_quiet_op
              first
                | exact hK _ rfl
                | (apply Exists.intro; refine ⟨fun _ => ?_, ?_⟩; (focus (first | (intro hC; have hC := hC.out; (try simp only [hC, Result.andThen]); first | exact ⟨True.intro, rfl⟩ | exact ⟨rfl, rfl⟩ | rfl))); exact hK _ rfl)
            case k =>
            simp only [Act.put, List.setIfInBounds_toArray, List.set_cons_succ, List.set_cons_zero, List.cons_append, List.nil_append]
            apply wpO_det
            case hw => rfl
            case h =>
              intro hFm wx hS_ hF_ K hK
              go_big_quiet_op
              first
                | exact hK _ rfl
                | (apply Exists.intro; refine ⟨fun _ => ?_, ?_⟩; (focus (first | (intro hC; have hC := hC.out; (try simp only [hC, Result.andThen]); first | exact ⟨True.intro, rfl⟩ | exact ⟨rfl, rfl⟩ | rfl))); exact hK _ rfl)
            case k =>
            simp only [Act.put, List.setIfInBounds_toArray, List.set_cons_succ, List.set_cons_zero, List.cons_append, List.nil_append]
            apply wpO_det
            case hw => rfl
            case h =>
              intro hFm wx hS_ hF_ K hK
              go_big_quiet_op
              first
                | exact hK _ rfl
                | (apply Exists.intro; refine ⟨fun _ => ?_, ?_⟩; (focus (first | (intro hC; have hC := KF.out _ hC.out.1; (try simp only [hC, Result.andThen]); first | exact ⟨True.intro, rfl⟩ | exact ⟨rfl, rfl⟩ | rfl))); exact hK _ rfl)
            case k =>
            simp only [Act.put, List.setIfInBounds_toArray, List.set_cons_succ, List.set_cons_zero, List.cons_append, List.nil_append]
            apply wpO_det
            case hw => rfl
            case h =>
              intro hFm wx hS_ hF_ K hK
              go_big_quiet_op
              first
                | exact hK _ rfl
                | (apply Exists.intro; refine ⟨fun _ => ?_, ?_⟩; (focus (first | (intro hC; have hC := hC.out; (try simp only [hC, Result.andThen]); first | exact ⟨True.intro, rfl⟩ | exact ⟨rfl, rfl⟩ | rfl))); exact hK _ rfl)
            case k =>
            simp only [Act.put, List.setIfInBounds_toArray, List.set_cons_succ, List.set_cons_zero, List.cons_append, List.nil_append]
            apply wpO_det
            case hw => rfl
            case h =>
              intro hFm wx hS_ hF_ K hK
              go_big_quiet_op
              first
                | exact hK _ rfl
                | (apply Exists.intro; refine ⟨fun _ => ?_, ?_⟩; (focus (first | (intro hC; have hC := hC.out; (try simp only [hC, Result.andThen]); first | exact ⟨True.intro, rfl⟩ | exact ⟨rfl, rfl⟩ | rfl))); exact hK _ rfl)
            case k =>
            simp only [Act.put, List.setIfInBounds_toArray, List.set_cons_succ, List.set_cons_zero, List.cons_append, List.nil_append]
            apply wpO_det
            case hw => rfl
            case h =>
              intro hFm wx hS_ hF_ K hK
              go_big_quiet_op
              first
                | exact hK _ rfl
                | (apply Exists.intro; refine ⟨fun _ => ?_, ?_⟩; (focus (first | (intro hC; have hC := hC.out; (try simp only [hC, Result.andThen]); first | exact ⟨True.intro, rfl⟩ | exact ⟨rfl, rfl⟩ | rfl))); exact hK _ rfl)
            case k =>
            simp only [Act.put, List.setIfInBounds_toArray, List.set_cons_succ, List.set_cons_zero, List.cons_append, List.nil_append]
            apply wpO_det
            case hw => rfl
            case h =>
              intro hFm wx hS_ hF_ K hK
              go_big_quiet_op
              first
                | exact hK _ rfl
                | (apply Exists.intro; refine ⟨fun _ => ?_, ?_⟩; (focus (first | (intro hC; have hC := hC.out; (try simp only [hC, Result.andThen]); first | exact ⟨True.intro, rfl⟩ | exact ⟨rfl, rfl⟩ | rfl))); exact hK _ rfl)
            case k =>
            simp only [Act.put, List.setIfInBounds_toArray, List.set_cons_succ, List.set_cons_zero, List.cons_append, List.nil_append]
            apply wpO_det
            case hw => rfl
            case h =>
              intro hFm wx hS_ hF_ K hK
              go_big_quiet_op
              first
                | exact hK _ rfl
                | (apply Exists.intro; refine ⟨fun _ => ?_, ?_⟩; (focus (first | (intro hC; have hC := hC.out; (try simp only [hC, Result.andThen]); first | exact ⟨True.intro, rfl⟩ | exact ⟨rfl, rfl⟩ | rfl))); exact hK _ rfl)
            case k =>
            simp only [Act.put, List.setIfInBounds_toArray, List.set_cons_succ, List.set_cons_zero, List.cons_append, List.nil_append]
            apply wpO_det
            case hw => rfl
            case h =>
              intro hFm wx hS_ hF_ K hK
              go_big_quiet_op
              first
                | exact hK _ rfl
                | (apply Exists.intro; refine ⟨fun _ => ?_, ?_⟩; (focus (first | (intro hC; have hC := KF.out _ hC.out.1; (try simp only [hC, Result.andThen]); first | exact ⟨True.intro, rfl⟩ | exact ⟨rfl, rfl⟩ | rfl))); exact hK _ rfl)
            case k =>
            simp only [Act.put, List.setIfInBounds_toArray, List.set_cons_succ, List.set_cons_zero, List.cons_append, List.nil_append]
            apply wpO_det
            case hw => rfl
            case h =>
              intro hFm wx hS_ hF_ K hK
              go_big_quiet_op
              first
                | exact hK _ rfl
                | (apply Exists.intro; refine ⟨fun _ => ?_, ?_⟩; (focus (first | (intro hC; have hC := hC.out; (try simp only [hC, Result.andThen]); first | exact ⟨True.intro, rfl⟩ | exact ⟨rfl, rfl⟩ | rfl))); exact hK _ rfl)
            case k =>
            simp only [Act.put, List.setIfInBounds_toArray, List.set_cons_succ, List.set_cons_zero, List.cons_append, List.nil_append]
            apply wpO_det
            case hw => rfl
            case h =>
              intro hFm wx hS_ hF_ K hK
              go_big_quiet_op
              first
                | exact hK _ rfl
                | (apply Exists.intro; refine ⟨fun _ => ?_, ?_⟩; (focus (first | (intro hC; have hC := hC.out; (try simp only [hC, Result.andThen]); first | exact ⟨True.intro, rfl⟩ | exact ⟨rfl, rfl⟩ | rfl))); exact hK _ rfl)
            case k =>
            simp only [Act.put, List.setIfInBounds_toArray, List.set_cons_succ, List.set_cons_zero, List.cons_append, List.nil_append]
            apply wpO_det
            case hw => rfl
            case h =>
              intro hFm wx hS_ hF_ K hK
              go_big_quiet_op
              first
                | exact hK _ rfl
                | (apply Exists.intro; refine ⟨fun _ => ?_, ?_⟩; (focus (first | (intro hC; have hC := hC.out; (try simp only [hC, Result.andThen]); first | exact ⟨True.intro, rfl⟩ | exact ⟨rfl, rfl⟩ | rfl))); exact hK _ rfl)
            case k =>
            simp only [Act.put, List.setIfInBounds_toArray, List.set_cons_succ, List.set_cons_zero, List.cons_append, List.nil_append]
            apply wpO_det
            case hw => rfl
            case h =>
              intro hFm wx hS_ hF_ K hK
              go_big_quiet_op
              first
                | exact hK _ rfl
                | (apply Exists.intro; refine ⟨fun _ => ?_, ?_⟩; (focus (first | (intro hC; have hC := hC.out; (try simp only [hC, Result.andThen]); first | exact ⟨True.intro, rfl⟩ | exact ⟨rfl, rfl⟩ | rfl))); exact hK _ rfl)
            case k =>
            simp only [Act.put, List.setIfInBounds_toArray, List.set_cons_succ, List.set_cons_zero, List.cons_append, List.nil_append]
            apply wpO_det
            case hw => rfl
            case h =>
              intro hFm wx hS_ hF_ K hK
              go_big_quiet_op
              first
                | exact hK _ rfl
                | (apply Exists.intro; refine ⟨fun _ => ?_, ?_⟩; (focus (first | (intro hC; have hC := hC.out; (try simp only [hC, Result.andThen]); first | exact ⟨True.intro, rfl⟩ | exact ⟨rfl, rfl⟩ | rfl))); exact hK _ rfl)
            case k =>
            simp only [Act.put, List.setIfInBounds_toArray, List.set_cons_succ, List.set_cons_zero, List.cons_append, List.nil_append]
            apply wpO_det
            case hw => rfl
            case h =>
              intro hFm wx hS_ hF_ K hK
              go_big_quiet_op
              first
                | exact hK _ rfl
                | (apply Exists.intro; refine ⟨fun _ => ?_, ?_⟩; (focus (first | (intro hC; have hC := hC.out; (try simp only [hC, Result.andThen]); first | exact ⟨True.intro, rfl⟩ | exact ⟨rfl, rfl⟩ | rfl))); exact hK _ rfl)
            case k =>
            simp only [Act.put, List.setIfInBounds_toArray, List.set_cons_succ, List.set_cons_zero, List.cons_append, List.nil_append]
            refine wpO_nil ?_
            intro w9 hS hF hB
            (try simp [allF] at hF)
            (try simp [List.pairwise_cons] at hB)
            have HS9 := Lib.hid (HS8.out.trans hS)
            clear hS hF hB HS8 HB8 KF iw wex wey wpx wpy
            go_wp2_with fail
            go_roundw
            case rel => exact ⟨j + 1, by omega, by go_num, HS9⟩
            case measure => simp [intOf]; omega
        · obtain rfl : j = L := by omega
          have hz2 : decide ((j : Int) < (j : Int)) = false := by rw [decide_eq_false_iff_not]; omega
          go_wp2_with fail
          go_roundw
          case rel => exact ⟨k + 1, by omega, by go_num, HR⟩
          case measure => simp [intOf]; omega
    · obtain rfl : k = n := by omega
      have hz : decide ((k : Int) < (k : Int)) = false := by rw [decide_eq_false_iff_not]; omega
      have HSE := Lib.hid (HS4.out.trans HR.out)
      go_wp2_with fail
      go_ret
      exact ⟨rfl, HSE.out⟩
theorem ChainsK_walkL (v : Value) (l : List Int) (w : World) (hi : IntsB w v l w.heap.size) :
    Calls Try.prog 5 #[v] w fun e w' => e = .returned (.bool true) ∧ Since w w' := ChainsK_walk v l w hi (ints_len hi)
end Go.Proofs.Ytdbknodifpmmoaa
