/-
  The walk of arr's inside: whether a point is inside of a boundary. Conditions: those that each lemma names.
-/
import Derived.Test.YtdnccjdlmepafaaK17
import Derived.Test.YtdnccjdlmepafaaK20
section
namespace Go.Proofs.Ytdnccjdlmepafaa
set_option linter.unusedSimpArgs false
set_option linter.unusedVariables false
open Go.RowKit Go.BigFrame
attribute [local go_sem ↓] eqPt neqPt
/-- What a walk on half-edges knows of them. -/
structure Way (N V : Nat) (P : List Pt2) (fr nxn : Nat → Nat) : Prop where
  le : N ≤ 6000
  vle : V ≤ 6000
  len : P.length = V
  perm : PermN N nxn
  fr_lt : ∀ g, g < N → fr g < V
  tw_lt : ∀ g, g < N → twN g < N
set_option maxRecDepth 100000 in
set_option maxHeartbeats 8000000 in
theorem Inside_any (G gP cP gH cH gI cI nI c N V h0 : Nat) (P : List Pt2) (fr nxn : Nat → Nat) (fc : Nat → Int) (px py : Int) (w : World) (HWY : Way N V P fr nxn) (hsee : See w G gP cP gH cH P (mkH N fr (fun g => nxn g) fc)) (hn : ∀ g, g < N → w.cell? ⟨gH, g * 4 + 2, none⟩ = some (.int .i64 (nxn g : Nat)))
    (c4 : w.cell? ⟨G, 4, none⟩ = some (.slice (some ⟨gI, 0, none⟩) nI cI)) (hc : c < nI) (cc : w.cell? ⟨gI, c, none⟩ = some (.int .i64 (h0 : Nat))) (h0N : h0 < N) :
    Calls Try.prog 28 #[.pointer (some ⟨G, 0, none⟩), .int .i64 c, .agg #[.int .i64 px, .int .i64 py]] w fun e w' => e = .returned (.bool (insV P fr nxn (px, py) h0)) ∧ Since w w' := by
  obtain ⟨n, hr, hnN⟩ := HWY.perm.round h0N
  have hres := insV_eq (P := P) (fr := fr) (p := (px, py)) hr
  have HWY := Lib.hid HWY
  have HR := Lib.hid hr
  have HRES := Lib.hid hres
  have HSE := Lib.hid hsee
  have HN := Lib.hid hn
  have hn6 : n ≤ 6000 := by have := HWY.out.le; omega
  have hn1 : 0 < n := hr.1
  have C4 := Lib.hid c4
  have CC := Lib.hid cc
  have hw : w.heap.size ≤ w.heap.size := Nat.le_refl _
  have HSZ : Hid (Blk (w.alloc (.cells #[.int .i64 px, .int .i64 py] 34)) w.heap.size 34 #[.int .i64 px, .int .i64 py]) := Blk.new w _ _
  have HS1 : Hid (Since w (w.alloc (.cells #[.int .i64 px, .int .i64 py] 34))) := (Since.rfl_ w).alloc _
  have k1 : (0 : Int) ≤ (c : Int) := by omega
  have k2 : (c : Int) < (nI : Int) := by omega
  have c41 := keepC HS1.out _ _ c4
  have cc1 := keepC HS1.out _ _ cc
  clear hres hr hsee hn c4 cc hw
  go_enter Try.func28, Try.ntmps28
  obtain ⟨B, HB⟩ : ∃ B, Hid (B = w.heap.size) := ⟨_, rfl⟩
  go_wp2_with fail
  clear c41 cc1
  generalize hW1 : w.alloc (.cells #[.int .i64 px, .int .i64 py] 34) = w1 at HSZ HS1
  rw [← HB.out] at HSZ ⊢
  clear hW1
  go_loopg [7, 8] n (fun gm v7 v8 wr => ∃ (i : Nat), i + gm = n ∧ i < n ∧ v7 = .bool (insI P fr nxn (px, py) h0 i) ∧ v8 = .int .i64 ((itN nxn h0 i : Nat) : Int) ∧ Hid (Since w wr) ∧ Hid (Blk wr B 34 #[.int .i64 px, .int .i64 py]))
  case atStart => exact ⟨0, by omega, by omega, rfl, rfl, HS1, HSZ⟩
  case round =>
    clear HSZ HS1
    obtain ⟨i, hgk, hin, rfl, rfl, HS, HBP⟩ := hrel
    obtain ⟨w3, rfl⟩ : ∃ w3, w3 = wr := ⟨_, rfl⟩
    obtain ⟨g, HGG⟩ : ∃ g, Hid (g = itN nxn h0 i) := ⟨_, rfl⟩
    rw [← HGG.out]
    have hgN : g < N := by rw [HGG.out]; exact it_lt HWY.out.perm h0N i
    have HSW := Lib.hid (HSE.out.since HS.out)
    obtain ⟨u, hu⟩ : ∃ u, Hid (u = fr g) := ⟨_, rfl⟩
    obtain ⟨v, hv⟩ : ∃ v, Hid (v = fr (twN g)) := ⟨_, rfl⟩
    have htg : twN g < N := HWY.out.tw_lt g hgN
    have huV : u < V := by rw [hu.out]; exact HWY.out.fr_lt g hgN
    have hvV : v < V := by rw [hv.out]; exact HWY.out.fr_lt _ htg
    have hPL := HWY.out.len
    obtain ⟨a, ha⟩ : ∃ a, Hid (a = pAt P u) := ⟨_, rfl⟩
    obtain ⟨b, hb⟩ : ∃ b, Hid (b = pAt P v) := ⟨_, rfl⟩
    have HCR : Hid (crsB P fr (px, py) g = ((decide (a.2 ≤ py) != decide (b.2 ≤ py)) && (decide (0 < turnV a.1 a.2 b.1 b.2 px py) == decide (a.2 < b.2)))) := by
      show _ = _
      rw [ha.out, hb.out, hu.out, hv.out]; rfl
    have HTO : Hid (∀ w', Since w3 w' → Calls Try.prog 25 #[.pointer (some ⟨G, 0, none⟩), .int .i64 g] w' fun e w'' => e = .returned (.int .i64 v) ∧ w'' = w') := fun w' k => by
      have := To_any (HSW.out.since k) g (by rw [mkH_len]; exact htg) (by rw [mkH_len]; have := HWY.out.le; omega)
      rw [mkH_at htg, ← hv.out] at this
      exact this
    have c0 : w3.cell? ⟨G, 0, none⟩ = some (.slice (some ⟨gP, 0, none⟩) V cP) := by rw [HSW.out.c0, hPL]
    have c1 : w3.cell? ⟨G, 1, none⟩ = some (.slice (some ⟨gH, 0, none⟩) N cH) := by rw [HSW.out.c1, mkH_len]
    have cu : w3.cell? ⟨gH, g * 4, none⟩ = some (.int .i64 u) := by
      rw [HSW.out.h g (by rw [mkH_len]; exact hgN), mkH_at hgN, ← hu.out]
    obtain ⟨p0, p1⟩ := HSW.out.p u (by omega)
    obtain ⟨q0, q1⟩ := HSW.out.p v (by omega)
    rw [← ha.out] at p0 p1
    rw [← hb.out] at q0 q1
    have KF := Lib.hid (fun w' (k : Since w3 w') => (show w'.cell? ⟨G, 0, none⟩ = some (.slice (some ⟨gP, 0, none⟩) V cP) ∧ w'.cell? ⟨G, 1, none⟩ = some (.slice (some ⟨gH, 0, none⟩) N cH) ∧ w'.cell? ⟨gH, g * 4, none⟩ = some (.int .i64 u) ∧ w'.cell? ⟨gP, u * 2, none⟩ = some (.int .i64 a.1) ∧ w'.cell? ⟨gP, u * 2 + 1, none⟩ = some (.int .i64 a.2) ∧ w'.cell? ⟨gP, v * 2, none⟩ = some (.int .i64 b.1) ∧ w'.cell? ⟨gP, v * 2 + 1, none⟩ = some (.int .i64 b.2) from
      ⟨keepC k _ _ c0, keepC k _ _ c1, keepC k _ _ cu, keepC k _ _ p0, keepC k _ _ p1, keepC k _ _ q0, keepC k _ _ q1⟩))
    have u1 : (0 : Int) ≤ (u : Int) := by omega
    have u2 : (u : Int) < (V : Int) := by omega
    have v1 : (0 : Int) ≤ (v : Int) := by omega
    have v2 : (v : Int) < (V : Int) := by omega
    have g1 : (0 : Int) ≤ (g : Int) := by omega
    have g2 : (g : Int) < (N : Int) := by omega
    clear c0 c1 cu p0 p1 q0 q1 hPL
    obtain ⟨ax, ay⟩ := a
    obtain ⟨bx, by_⟩ := b
    dsimp only at KF HCR
    go_upto_region 3 with fail
    apply region_factsF 30 (fun w' => Since w3 w')
    case hm => kernel_rfl
    case hB => kernel_rfl
    case hS => exact (Since.rfl_ w3).drew
    case hmono => exact (fun a b h k => Below.trans h k)
    case h =>
    simp only [List.take_succ_cons, List.take_zero, List.drop_succ_cons, List.drop_zero]
    apply wpO_detF
    case hw => rfl
    case h =>
      intro hFm wx hS_ hF_ hbx K hK
      go_big_quiet_op
      first
        | exact hK _ rfl
        | (apply Exists.intro; refine ⟨fun _ => ?_, ?_⟩; (focus (first | (intro hC; have hC := hC.out; (try simp only [hC, Result.andThen]); first | exact ⟨True.intro, rfl⟩ | exact ⟨rfl, rfl⟩ | rfl))); exact hK _ rfl)
    case k =>
    simp only [Act.put, List.setIfInBounds_toArray, List.set_cons_succ, List.set_cons_zero, List.cons_append, List.nil_append]
    apply wpO_detF
    case hw => rfl
    case h =>
      intro hFm wx hS_ hF_ hbx K hK
      go_big_quiet_op
      first
        | exact hK _ rfl
        | (apply Exists.intro; refine ⟨fun _ => ?_, ?_⟩; (focus (first | (intro hC; have hC := hC.out; (try simp only [hC, Result.andThen]); first | exact ⟨True.intro, rfl⟩ | exact ⟨rfl, rfl⟩ | rfl))); exact hK _ rfl)
    case k =>
    simp only [Act.put, List.setIfInBounds_toArray, List.set_cons_succ, List.set_cons_zero, List.cons_append, List.nil_append]
    apply wpO_detF
    case hw => rfl
    case h =>
      intro hFm wx hS_ hF_ hbx K hK
      go_big_quiet_op
      first
        | exact hK _ rfl
        | (apply Exists.intro; refine ⟨fun _ => ?_, ?_⟩; (focus (first | (intro hC; have hC := hC.out; (try simp only [hC, Result.andThen]); first | exact ⟨True.intro, rfl⟩ | exact ⟨rfl, rfl⟩ | rfl))); exact hK _ rfl)
    case k =>
    simp only [Act.put, List.setIfInBounds_toArray, List.set_cons_succ, List.set_cons_zero, List.cons_append, List.nil_append]
    apply wpO_detF
    case hw => rfl
    case h =>
      intro hFm wx hS_ hF_ hbx K hK
      go_big_quiet_op
      first
        | exact hK _ rfl
        | (apply Exists.intro; refine ⟨fun _ => ?_, ?_⟩; (focus (first | (intro hC; have hC := hC.out; (try simp only [hC, Result.andThen]); first | exact ⟨True.intro, rfl⟩ | exact ⟨rfl, rfl⟩ | rfl))); exact hK _ rfl)
    case k =>
    simp only [Act.put, List.setIfInBounds_toArray, List.set_cons_succ, List.set_cons_zero, List.cons_append, List.nil_append]
    apply wpO_detF
    case hw => rfl
    case h =>
      intro hFm wx hS_ hF_ hbx K hK
      go_big_quiet_op
      first
        | exact hK _ rfl
        | (apply Exists.intro; refine ⟨fun _ => ?_, ?_⟩; (focus (first | (intro hC; have hC := KF.out _ hC.out.1; (try simp only [hC, Result.andThen]); first | exact ⟨True.intro, rfl⟩ | exact ⟨rfl, rfl⟩ | rfl))); exact hK _ rfl)
    case k =>
    simp only [Act.put, List.setIfInBounds_toArray, List.set_cons_succ, List.set_cons_zero, List.cons_append, List.nil_append]
    apply wpO_detF
    case hw => rfl
    case h =>
      intro hFm wx hS_ hF_ hbx K hK
      go_big_quiet_op
      first
        | exact hK _ rfl
        | (apply Exists.intro; refine ⟨fun _ => ?_, ?_⟩; (focus (first | (intro hC; have hC := hC.out; (try simp only [hC, Result.andThen]); first | exact ⟨True.intro, rfl⟩ | exact ⟨rfl, rfl⟩ | rfl))); exact hK _ rfl)
    case k =>
    simp only [Act.put, List.setIfInBounds_toArray, List.set_cons_succ, List.set_cons_zero, List.cons_append, List.nil_append]
    apply wpO_detF
    case hw => rfl
    case h =>
      intro hFm wx hS_ hF_ hbx K hK
      go_big_quiet_op
      first
        | exact hK _ rfl
        | (apply Exists.intro; refine ⟨fun _ => ?_, ?_⟩; (focus (first | (intro hC; have hC := hC.out; (try simp only [hC, Result.andThen]); first | exact ⟨True.intro, rfl⟩ | exact ⟨rfl, rfl⟩ | rfl))); exact hK _ rfl)
    case k =>
    simp only [Act.put, List.setIfInBounds_toArray, List.set_cons_succ, List.set_cons_zero, List.cons_append, List.nil_append]
    apply wpO_detF
    case hw => rfl
    case h =>
      intro hFm wx hS_ hF_ hbx K hK
      go_big_quiet_op
      first
        | exact hK _ rfl
        | (apply Exists.intro; refine ⟨fun _ => ?_, ?_⟩; (focus (first | (intro hC; have hC := hC.out; (try simp only [hC, Result.andThen]); first | exact ⟨True.intro, rfl⟩ | exact ⟨rfl, rfl⟩ | rfl))); exact hK _ rfl)
    case k =>
    simp only [Act.put, List.setIfInBounds_toArray, List.set_cons_succ, List.set_cons_zero, List.cons_append, List.nil_append]
    apply wpO_detF
    case hw => rfl
    case h =>
      intro hFm wx hS_ hF_ hbx K hK
      go_big_quiet_op
      first
        | exact hK _ rfl
        | (apply Exists.intro; refine ⟨fun _ => ?_, ?_⟩; (focus (first | (intro hC; have hC := hC.out; (try simp only [hC, Result.andThen]); first | exact ⟨True.intro, rfl⟩ | exact ⟨rfl, rfl⟩ | rfl))); exact hK _ rfl)
    case k =>
    simp only [Act.put, List.setIfInBounds_toArray, List.set_cons_succ, List.set_cons_zero, List.cons_append, List.nil_append]
    apply wpO_detF
    case hw => rfl
    case h =>
      intro hFm wx hS_ hF_ hbx K hK
      go_big_quiet_op
      first
        | exact hK _ rfl
        | (apply Exists.intro; refine ⟨fun _ => ?_, ?_⟩; (focus (first | (intro hC; have hC := KF.out _ hC.out.1; (try simp only [hC, Result.andThen]); first | exact ⟨True.intro, rfl⟩ | exact ⟨rfl, rfl⟩ | rfl))); exact hK _ rfl)
    case k =>
    simp only [Act.put, List.setIfInBounds_toArray, List.set_cons_succ, List.set_cons_zero, List.cons_append, List.nil_append]
    apply wpO_detF
    case hw => rfl
    case h =>
      intro hFm wx hS_ hF_ hbx K hK
      go_big_quiet_op
      first
        | exact hK _ rfl
        | (apply Exists.intro; refine ⟨fun _ => ?_, ?_⟩; (focus (first | (intro hC; have hC := hC.out; (try simp only [hC, Result.andThen]); first | exact ⟨True.intro, rfl⟩ | exact ⟨rfl, rfl⟩ | rfl))); exact hK _ rfl)
    case k =>
    simp only [Act.put, List.setIfInBounds_toArray, List.set_cons_succ, List.set_cons_zero, List.cons_append, List.nil_append]
    apply wpO_detF
    case hw => rfl
    case h =>
      intro hFm wx hS_ hF_ hbx K hK
      go_big_quiet_op
      first
        | exact hK _ rfl
        | (apply Exists.intro; refine ⟨fun _ => ?_, ?_⟩; (focus (first | (intro hC; have hC := hC.out; (try simp only [hC, Result.andThen]); first | exact ⟨True.intro, rfl⟩ | exact ⟨rfl, rfl⟩ | rfl))); exact hK _ rfl)
    case k =>
    simp only [Act.put, List.setIfInBounds_toArray, List.set_cons_succ, List.set_cons_zero, List.cons_append, List.nil_append]
    apply wpO_detF
    case hw => rfl
    case h =>
      intro hFm wx hS_ hF_ hbx K hK
      go_big_quiet_op
      first
        | exact hK _ rfl
        | (apply Exists.intro; refine ⟨fun _ => ?_, ?_⟩; (focus (first | (intro hC; have hC := hC.out; (try simp only [hC, Result.andThen]); first | exact ⟨True.intro, rfl⟩ | exact ⟨rfl, rfl⟩ | rfl))); exact hK _ rfl)
    case k =>
    simp only [Act.put, List.setIfInBounds_toArray, List.set_cons_succ, List.set_cons_zero, List.cons_append, List.nil_append]
    apply wpO_detF
    case hw => rfl
    case h =>
      intro hFm wx hS_ hF_ hbx K hK
      go_big_quiet_op
      first
        | exact hK _ rfl
        | (apply Exists.intro; refine ⟨fun _ => ?_, ?_⟩; (focus (first | (intro hC; have hC := KF.out _ hC.out.1; (try simp only [hC, Result.andThen]); first | exact ⟨True.intro, rfl⟩ | exact ⟨rfl, rfl⟩ | rfl))); exact hK _ rfl)
    case k =>
    simp only [Act.put, List.setIfInBounds_toArray, List.set_cons_succ, List.set_cons_zero, List.cons_append, List.nil_append]
    apply wpO_detF
    case hw => rfl
    case h =>
      intro hFm wx hS_ hF_ hbx K hK
      go_big_quiet_op
      first
        | exact hK _ rfl
        | (apply Exists.intro; refine ⟨fun _ => ?_, ?_⟩; (focus (first | (intro hC; have hC := hC.out; (try simp only [hC, Result.andThen]); first | exact ⟨True.intro, rfl⟩ | exact ⟨rfl, rfl⟩ | rfl))); exact hK _ rfl)
    case k =>
    simp only [Act.put, List.setIfInBounds_toArray, List.set_cons_succ, List.set_cons_zero, List.cons_append, List.nil_append]
    apply wpO_detF
    case hw => rfl
    case h =>
      intro hFm wx hS_ hF_ hbx K hK
      go_big_quiet_op
      first
        | exact hK _ rfl
        | (apply Exists.intro; refine ⟨fun _ => ?_, ?_⟩; (focus (first | (intro hC; have hC := KF.out _ hC.out.1; (try simp only [hC, Result.andThen]); first | exact ⟨True.intro, rfl⟩ | exact ⟨rfl, rfl⟩ | rfl))); exact hK _ rfl)
    case k =>
    simp only [Act.put, List.setIfInBounds_toArray, List.set_cons_succ, List.set_cons_zero, List.cons_append, List.nil_append]
    apply wpO_detF
    case hw => rfl
    case h =>
      intro hFm wx hS_ hF_ hbx K hK
      go_big_quiet_op
      first
        | exact hK _ rfl
        | (apply Exists.intro; refine ⟨fun _ => ?_, ?_⟩; (focus (first | (intro hC; have hC := hC.out; (try simp only [hC, Result.andThen]); first | exact ⟨True.intro, rfl⟩ | exact ⟨rfl, rfl⟩ | rfl))); exact hK _ rfl)
    case k =>
    simp only [Act.put, List.setIfInBounds_toArray, List.set_cons_succ, List.set_cons_zero, List.cons_append, List.nil_append]
    apply wpO_detF
    case hw => rfl
    case h =>
      intro hFm wx hS_ hF_ hbx K hK
      go_big_quiet_op
      first
        | exact hK _ rfl
        | (apply Exists.intro; refine ⟨fun _ => ?_, ?_⟩; (focus (first | (intro hC; have hC := hC.out; (try simp only [hC, Result.andThen]); first | exact ⟨True.intro, rfl⟩ | exact ⟨rfl, rfl⟩ | rfl))); exact hK _ rfl)
    case k =>
    simp only [Act.put, List.setIfInBounds_toArray, List.set_cons_succ, List.set_cons_zero, List.cons_append, List.nil_append]
    apply wpO_detF
    case hw => rfl
    case h =>
      intro hFm wx hS_ hF_ hbx K hK
      go_big_quiet_op
      first
        | exact hK _ rfl
        | (apply Exists.intro; refine ⟨fun _ => ?_, ?_⟩; (focus (first | (intro hC; have hC := hC.out; (try simp only [hC, Result.andThen]); first | exact ⟨True.intro, rfl⟩ | exact ⟨rfl, rfl⟩ | rfl))); exact hK _ rfl)
    case k =>
    simp only [Act.put, List.setIfInBounds_toArray, List.set_cons_succ, List.set_cons_zero, List.cons_append, List.nil_append]
    apply wpO_detF
    case hw => rfl
    case h =>
      intro hFm wx hS_ hF_ hbx K hK
      go_big_quiet_op
      first
        | exact hK _ rfl
        | (apply Exists.intro; refine ⟨fun _ => ?_, ?_⟩; (focus (first | (intro hC; have hC := hC.out; (try simp only [hC, Result.andThen]); first | exact ⟨True.intro, rfl⟩ | exact ⟨rfl, rfl⟩ | rfl))); exact hK _ rfl)
    case k =>
    simp only [Act.put, List.setIfInBounds_toArray, List.set_cons_succ, List.set_cons_zero, List.cons_append, List.nil_append]
    apply wpO_detF
    case hw => rfl
    case h =>
      intro hFm wx hS_ hF_ hbx K hK
      go_big_quiet_op
      first
        | exact hK _ rfl
        | (apply Exists.intro; refine ⟨fun _ => ?_, ?_⟩; (focus (first | (intro hC; have hC := KF.out _ hC.out.1; (try simp only [hC, Result.andThen]); first | exact ⟨True.intro, rfl⟩ | exact ⟨rfl, rfl⟩ | rfl))); exact hK _ rfl)
    case k =>
    simp only [Act.put, List.setIfInBounds_toArray, List.set_cons_succ, List.set_cons_zero, List.cons_append, List.nil_append]
    apply wpO_detF
    case hw => rfl
    case h =>
      intro hFm wx hS_ hF_ hbx K hK
      go_big_quiet_op
      first
        | exact hK _ rfl
        | (apply Exists.intro; refine ⟨fun _ => ?_, ?_⟩; (focus (first | (intro hC; have hC := hC.out; (try simp only [hC, Result.andThen]); first | exact ⟨True.intro, rfl⟩ | exact ⟨rfl, rfl⟩ | rfl))); exact hK _ rfl)
    case k =>
    simp only [Act.put, List.setIfInBounds_toArray, List.set_cons_succ, List.set_cons_zero, List.cons_append, List.nil_append]
    apply wpO_detF
    case hw => rfl
    case h =>
      intro hFm wx hS_ hF_ hbx K hK
      go_big_quiet_op
      first
        | exact hK _ rfl
        | (apply Exists.intro; refine ⟨fun _ => ?_, ?_⟩; (focus (first | (intro hC; have hC := hC.out; (try simp only [hC, Result.andThen]); first | exact ⟨True.intro, rfl⟩ | exact ⟨rfl, rfl⟩ | rfl))); exact hK _ rfl)
    case k =>
    simp only [Act.put, List.setIfInBounds_toArray, List.set_cons_succ, List.set_cons_zero, List.cons_append, List.nil_append]
    apply wpO_detF
    case hw => rfl
    case h =>
      intro hFm wx hS_ hF_ hbx K hK
      go_big_quiet_op
      first
        | exact hK _ rfl
        | (apply Exists.intro; refine ⟨fun _ => ?_, ?_⟩; (focus (first | (intro hC; go_at_call 25; refine (HTO.out _ hC.out.1).mono ?_; rintro e w' ⟨rfl, rfl⟩; exact ⟨rfl, hC⟩))); exact hK _ rfl)
    case k =>
    simp only [Act.put, List.setIfInBounds_toArray, List.set_cons_succ, List.set_cons_zero, List.cons_append, List.nil_append]
    apply wpO_detF
    case hw => rfl
    case h =>
      intro hFm wx hS_ hF_ hbx K hK
      go_big_quiet_op
      first
        | exact hK _ rfl
        | (apply Exists.intro; refine ⟨fun _ => ?_, ?_⟩; (focus (first | (intro hC; have hC := hC.out; (try simp only [hC, Result.andThen]); first | exact ⟨True.intro, rfl⟩ | exact ⟨rfl, rfl⟩ | rfl))); exact hK _ rfl)
    case k =>
    simp only [Act.put, List.setIfInBounds_toArray, List.set_cons_succ, List.set_cons_zero, List.cons_append, List.nil_append]
    apply wpO_detF
    case hw => rfl
    case h =>
      intro hFm wx hS_ hF_ hbx K hK
      go_big_quiet_op
      first
        | exact hK _ rfl
        | (apply Exists.intro; refine ⟨fun _ => ?_, ?_⟩; (focus (first | (intro hC; have hC := KF.out _ hC.out.1; (try simp only [hC, Result.andThen]); first | exact ⟨True.intro, rfl⟩ | exact ⟨rfl, rfl⟩ | rfl))); exact hK _ rfl)
    case k =>
    simp only [Act.put, List.setIfInBounds_toArray, List.set_cons_succ, List.set_cons_zero, List.cons_append, List.nil_append]
    apply wpO_mkfF (f := fun g => .pointer (some ⟨g, 0, none⟩)) (t := 34) (cs := #[.int .i64 0, .int .i64 0])
    case hi => (intro g g' h; simpa using h)
    case hw => rfl
    case h => (intro w; simp [go_sem])
    case k =>
    intro x8
    simp only [Act.put, List.setIfInBounds_toArray, List.set_cons_succ, List.set_cons_zero, List.cons_append, List.nil_append]
    apply wpO_mkfF (f := fun g => .pointer (some ⟨g, 0, none⟩)) (t := 34) (cs := #[.int .i64 0, .int .i64 0])
    case hi => (intro g g' h; simpa using h)
    case hw => rfl
    case h => (intro w; simp [go_sem])
    case k =>
    intro x9
    simp only [Act.put, List.setIfInBounds_toArray, List.set_cons_succ, List.set_cons_zero, List.cons_append, List.nil_append]
    apply wpO_fillF (j := 26) (t := 34) (cs := #[.int .i64 ax, .int .i64 ay]) x8
    case hT => rfl
    case hj => decide
    case hw => rfl
    case hd => rfl
    case hp => decide
    case h =>
      intro w' hS_ hF_
      obtain ⟨⟨cs', hcs, hb⟩, hg⟩ := factsOf_at (j := 26) (by decide) hF_
      obtain ⟨x, y, rfl⟩ := two_of_size hcs
      refine ⟨_, _, hg, hb, rfl, ?_, (fill2 (.int .i64 ax) (.int .i64 ay) hb).1, (fill2 (.int .i64 ax) (.int .i64 ay) hb).2⟩
      have c0 := hb.cell 0
      have c1 := hb.cell 1
      have f0 := hb.frozen 0
      have f1 := hb.frozen 1
      simp only [List.getElem?_toArray, List.getElem?_cons_zero, List.getElem?_cons_succ] at c0 c1
      simp [go_sem, c0, c1, f0, f1, cSetS, cSetO]
    case k =>
    simp only [Act.put, List.setIfInBounds_toArray, List.set_cons_succ, List.set_cons_zero, List.cons_append, List.nil_append]
    apply wpO_fillF (j := 27) (t := 34) (cs := #[.int .i64 bx, .int .i64 by_]) x9
    case hT => rfl
    case hj => decide
    case hw => rfl
    case hd => rfl
    case hp => decide
    case h =>
      intro w' hS_ hF_
      obtain ⟨⟨cs', hcs, hb⟩, hg⟩ := factsOf_at (j := 27) (by decide) hF_
      obtain ⟨x, y, rfl⟩ := two_of_size hcs
      refine ⟨_, _, hg, hb, rfl, ?_, (fill2 (.int .i64 bx) (.int .i64 by_) hb).1, (fill2 (.int .i64 bx) (.int .i64 by_) hb).2⟩
      have c0 := hb.cell 0
      have c1 := hb.cell 1
      have f0 := hb.frozen 0
      have f1 := hb.frozen 1
      simp only [List.getElem?_toArray, List.getElem?_cons_zero, List.getElem?_cons_succ] at c0 c1
      simp [go_sem, c0, c1, f0, f1, cSetS, cSetO]
    case k =>
    simp only [Act.put, List.setIfInBounds_toArray, List.set_cons_succ, List.set_cons_zero, List.cons_append, List.nil_append]
    refine wpO_nilF ?_
    intro w5 hS hF hB
    (try simp [allF] at hF)
    (try simp [List.pairwise_cons] at hB)
    obtain ⟨-, -, ⟨k5, -⟩, k6, -⟩ := hF
    have HS5 : Hid (Since w w5) := HS.out.trans hS
    have HBP5 := Lib.hid (hS.blk HBP.out)
    have HK5 := Lib.hid k5
    have HK6 := Lib.hid k6
    clear k5 k6 hS hB KF HTO HS HBP HSW
    have KF := Lib.hid (fun w' (k : Since w5 w') => (show w'.cell? ⟨x8, 0, none⟩ = some (.int .i64 ax) ∧ w'.cell? ⟨x8, 1, none⟩ = some (.int .i64 ay) ∧ w'.cell? ⟨x9, 0, none⟩ = some (.int .i64 bx) ∧ w'.cell? ⟨x9, 1, none⟩ = some (.int .i64 by_) ∧ w'.cell? ⟨B, 0, none⟩ = some (.int .i64 px) ∧ w'.cell? ⟨B, 1, none⟩ = some (.int .i64 py) from
      ⟨(k.blk HK5.out).cell 0, (k.blk HK5.out).cell 1, (k.blk HK6.out).cell 0, (k.blk HK6.out).cell 1, (k.blk HBP5.out).cell 0, (k.blk HBP5.out).cell 1⟩))
    go_upto_region 4 with fail
    go_cut [67] from 44 to 88 (fun v67 w' => v67 = .bool (crsB P fr (px, py) g) ∧ Since w5 w')
    case first =>
      obtain ⟨tv, HTV⟩ : ∃ tv, Hid (tv = turnV ax ay bx by_ px py) := ⟨_, rfl⟩
      have HTN : Hid (∀ w', Calls Try.prog 37 #[.agg #[.int .i64 ax, .int .i64 ay], .agg #[.int .i64 bx, .int .i64 by_], .agg #[.int .i64 px, .int .i64 py]] w' fun e w'' => e = .returned (.int .i64 tv) ∧ Since w' w'') := fun w' => by
        rw [HTV.out]; exact Turn_any _ _ _ _ _ _ _
      rw [← HTV.out] at HCR
      cases hA : decide (ay ≤ py) <;> cases hD : decide (by_ ≤ py)
      case false.false =>
        apply region_facts 24 (fun w' => Since w5 w')
        case hm => kernel_rfl
        case hB => kernel_rfl
        case hS => exact (Since.rfl_ w5).drew
        case h =>
        simp only [List.take_succ_cons, List.take_zero, List.drop_succ_cons, List.drop_zero]
        apply wpO_det
        case hw => rfl
        case h =>
          intro hFm wx hS_ hF_ K hK
          go_big_quiet_op
          first
            | exact hK _ rfl
            | (apply Exists.intro; refine ⟨fun _ => ?_, ?_⟩; (focus (first | (intro hC; have hC := hC.out; (try simp only [hC, Result.andThen]); first | exact ⟨True.intro, rfl⟩ | exact ⟨rfl, rfl⟩ | rfl))); exact hK _ rfl)
        case k =>
        simp only [Act.put, List.setIfInBounds_toArray, List.set_cons_succ, List.set_cons_zero, List.cons_append, List.nil_append]
        apply wpO_det
        case hw => rfl
        case h =>
          intro hFm wx hS_ hF_ K hK
          go_big_quiet_op
          first
            | exact hK _ rfl
            | (apply Exists.intro; refine ⟨fun _ => ?_, ?_⟩; (focus (first | (intro hC; have hC := KF.out _ hC.out.1; (try simp only [hC, Result.andThen]); first | exact ⟨True.intro, rfl⟩ | exact ⟨rfl, rfl⟩ | rfl))); exact hK _ rfl)
        case k =>
        simp only [Act.put, List.setIfInBounds_toArray, List.set_cons_succ, List.set_cons_zero, List.cons_append, List.nil_append]
        apply wpO_det
        case hw => rfl
        case h =>
          intro hFm wx hS_ hF_ K hK
          go_big_quiet_op
          first
            | exact hK _ rfl
            | (apply Exists.intro; refine ⟨fun _ => ?_, ?_⟩; (focus (first | (intro hC; have hC := hC.out; (try simp only [hC, Result.andThen]); first | exact ⟨True.intro, rfl⟩ | exact ⟨rfl, rfl⟩ | rfl))); exact hK _ rfl)
        case k =>
        simp only [Act.put, List.setIfInBounds_toArray, List.set_cons_succ, List.set_cons_zero, List.cons_append, List.nil_append]
        apply wpO_det
        case hw => rfl
        case h =>
          intro hFm wx hS_ hF_ K hK
          go_big_quiet_op
          first
            | exact hK _ rfl
            | (apply Exists.intro; refine ⟨fun _ => ?_, ?_⟩; (focus (first | (intro hC; have hC := KF.out _ hC.out.1; (try simp only [hC, Result.andThen]); first | exact ⟨True.intro, rfl⟩ | exact ⟨rfl, rfl⟩ | rfl))); exact hK _ rfl)
        case k =>
        simp only [Act.put, List.setIfInBounds_toArray, List.set_cons_succ, List.set_cons_zero, List.cons_append, List.nil_append]
        apply wpO_det
        case hw => rfl
        case h =>
          intro hFm wx hS_ hF_ K hK
          go_big_quiet_op
          first
            | exact hK _ rfl
            | (apply Exists.intro; refine ⟨fun _ => ?_, ?_⟩; (focus (first | (intro hC; have hC := hC.out; (try simp only [hC, Result.andThen]); first | exact ⟨True.intro, rfl⟩ | exact ⟨rfl, rfl⟩ | rfl))); exact hK _ rfl)
        case k =>
        simp only [Act.put, List.setIfInBounds_toArray, List.set_cons_succ, List.set_cons_zero, List.cons_append, List.nil_append]
        apply wpO_det
        case hw => rfl
        case h =>
          intro hFm wx hS_ hF_ K hK
          go_big_quiet_op
          first
            | exact hK _ rfl
            | (apply Exists.intro; refine ⟨fun _ => ?_, ?_⟩; (focus (first | (intro hC; have hC := hC.out; (try simp only [hC, Result.andThen]); first | exact ⟨True.intro, rfl⟩ | exact ⟨rfl, rfl⟩ | rfl))); exact hK _ rfl)
        case k =>
        simp only [Act.put, List.setIfInBounds_toArray, List.set_cons_succ, List.set_cons_zero, List.cons_append, List.nil_append]
        apply wpO_det
        case hw => rfl
        case h =>
          intro hFm wx hS_ hF_ K hK
          go_big_quiet_op
          first
            | exact hK _ rfl
            | (apply Exists.intro; refine ⟨fun _ => ?_, ?_⟩; (focus (first | (intro hC; have hC := KF.out _ hC.out.1; (try simp only [hC, Result.andThen]); first | exact ⟨True.intro, rfl⟩ | exact ⟨rfl, rfl⟩ | rfl))); exact hK _ rfl)
        case k =>
        simp only [Act.put, List.setIfInBounds_toArray, List.set_cons_succ, List.set_cons_zero, List.cons_append, List.nil_append]
        apply wpO_det
        case hw => rfl
        case h =>
          intro hFm wx hS_ hF_ K hK
          go_big_quiet_op
          first
            | exact hK _ rfl
            | (apply Exists.intro; refine ⟨fun _ => ?_, ?_⟩; (focus (first | (intro hC; have hC := hC.out; (try simp only [hC, Result.andThen]); first | exact ⟨True.intro, rfl⟩ | exact ⟨rfl, rfl⟩ | rfl))); exact hK _ rfl)
        case k =>
        simp only [Act.put, List.setIfInBounds_toArray, List.set_cons_succ, List.set_cons_zero, List.cons_append, List.nil_append]
        apply wpO_det
        case hw => rfl
        case h =>
          intro hFm wx hS_ hF_ K hK
          go_big_quiet_op
          first
            | exact hK _ rfl
            | (apply Exists.intro; refine ⟨fun _ => ?_, ?_⟩; (focus (first | (intro hC; have hC := KF.out _ hC.out.1; (try simp only [hC, Result.andThen]); first | exact ⟨True.intro, rfl⟩ | exact ⟨rfl, rfl⟩ | rfl))); exact hK _ rfl)
        case k =>
        simp only [Act.put, List.setIfInBounds_toArray, List.set_cons_succ, List.set_cons_zero, List.cons_append, List.nil_append]
        apply wpO_det
        case hw => rfl
        case h =>
          intro hFm wx hS_ hF_ K hK
          go_big_quiet_op
          first
            | exact hK _ rfl
            | (apply Exists.intro; refine ⟨fun _ => ?_, ?_⟩; (focus (first | (intro hC; have hC := hC.out; (try simp only [hC, Result.andThen]); first | exact ⟨True.intro, rfl⟩ | exact ⟨rfl, rfl⟩ | rfl))); exact hK _ rfl)
        case k =>
        simp only [Act.put, List.setIfInBounds_toArray, List.set_cons_succ, List.set_cons_zero, List.cons_append, List.nil_append]
        apply wpO_det
        case hw => rfl
        case h =>
          intro hFm wx hS_ hF_ K hK
          go_big_quiet_op
          first
            | exact hK _ rfl
            | (apply Exists.intro; refine ⟨fun _ => ?_, ?_⟩; (focus (first | (intro hC; have hC := hC.out; (try simp only [hC, Result.andThen]); first | exact ⟨True.intro, rfl⟩ | exact ⟨rfl, rfl⟩ | rfl))); exact hK _ rfl)
        case k =>
        simp only [Act.put, List.setIfInBounds_toArray, List.set_cons_succ, List.set_cons_zero, List.cons_append, List.nil_append]
        apply wpO_det
        case hw => rfl
        case h =>
          intro hFm wx hS_ hF_ K hK
          go_big_quiet_op
          first
            | exact hK _ rfl
            | (apply Exists.intro; refine ⟨fun _ => ?_, ?_⟩; (focus (first | (intro hC; have hC := hC.out; (try simp only [hC, Result.andThen]); first | exact ⟨True.intro, rfl⟩ | exact ⟨rfl, rfl⟩ | rfl))); exact hK _ rfl)
        case k =>
        simp only [Act.put, List.setIfInBounds_toArray, List.set_cons_succ, List.set_cons_zero, List.cons_append, List.nil_append]
        apply wpO_skip
        case hw => rfl
        case k =>
        simp only [Act.put, List.setIfInBounds_toArray, List.set_cons_succ, List.set_cons_zero, List.cons_append, List.nil_append]
        apply wpO_skip
        case hw => rfl
        case k =>
        simp only [Act.put, List.setIfInBounds_toArray, List.set_cons_succ, List.set_cons_zero, List.cons_append, List.nil_append]
        apply wpO_skip
        case hw => rfl
        case k =>
        simp only [Act.put, List.setIfInBounds_toArray, List.set_cons_succ, List.set_cons_zero, List.cons_append, List.nil_append]
        apply wpO_skip
        case hw => rfl
        case k =>
        simp only [Act.put, List.setIfInBounds_toArray, List.set_cons_succ, List.set_cons_zero, List.cons_append, List.nil_append]
        apply wpO_skip
        case hw => rfl
        case k =>
        simp only [Act.put, List.setIfInBounds_toArray, List.set_cons_succ, List.set_cons_zero, List.cons_append, List.nil_append]
        apply wpO_skip
        case hw => rfl
        case k =>
        simp only [Act.put, List.setIfInBounds_toArray, List.set_cons_succ, List.set_cons_zero, List.cons_append, List.nil_append]
        apply wpO_skip
        case hw => rfl
        case k =>
        simp only [Act.put, List.setIfInBounds_toArray, List.set_cons_succ, List.set_cons_zero, List.cons_append, List.nil_append]
        apply wpO_skip
        case hw => rfl
        case k =>
        simp only [Act.put, List.setIfInBounds_toArray, List.set_cons_succ, List.set_cons_zero, List.cons_append, List.nil_append]
        apply wpO_skip
        case hw => rfl
        case k =>
        simp only [Act.put, List.setIfInBounds_toArray, List.set_cons_succ, List.set_cons_zero, List.cons_append, List.nil_append]
        apply wpO_skip
        case hw => rfl
        case k =>
        simp only [Act.put, List.setIfInBounds_toArray, List.set_cons_succ, List.set_cons_zero, List.cons_append, List.nil_append]
        apply wpO_skip
        case hw => rfl
        case k =>
        simp only [Act.put, List.setIfInBounds_toArray, List.set_cons_succ, List.set_cons_zero, List.cons_append, List.nil_append]
        apply wpO_det
        case hw => rfl
        case h =>
          intro hFm wx hS_ hF_ K hK
          go_big_quiet_op
          first
            | exact hK _ rfl
            | (apply Exists.intro; refine ⟨fun _ => ?_, ?_⟩; (focus (first | (intro hC; have hC := hC.out; (try simp only [hC, Result.andThen]); first | exact ⟨True.intro, rfl⟩ | exact ⟨rfl, rfl⟩ | rfl))); exact hK _ rfl)
        case k =>
        simp only [Act.put, List.setIfInBounds_toArray, List.set_cons_succ, List.set_cons_zero, List.cons_append, List.nil_append]
        refine wpO_nil ?_
        intro w6 hS hF hB
        (try simp [allF] at hF)
        (try simp [List.pairwise_cons] at hB)
        clear hF hB
        go_wp2_with fail
        go_meet
        exact ⟨by rw [HCR.out, hA, hD]; rfl, hS⟩
      case true.true =>
        apply region_facts 24 (fun w' => Since w5 w')
        case hm => kernel_rfl
        case hB => kernel_rfl
        case hS => exact (Since.rfl_ w5).drew
        case h =>
        simp only [List.take_succ_cons, List.take_zero, List.drop_succ_cons, List.drop_zero]
        apply wpO_det
        case hw => rfl
        case h =>
          intro hFm wx hS_ hF_ K hK
          go_big_quiet_op
          first
            | exact hK _ rfl
            | (apply Exists.intro; refine ⟨fun _ => ?_, ?_⟩; (focus (first | (intro hC; have hC := hC.out; (try simp only [hC, Result.andThen]); first | exact ⟨True.intro, rfl⟩ | exact ⟨rfl, rfl⟩ | rfl))); exact hK _ rfl)
        case k =>
        simp only [Act.put, List.setIfInBounds_toArray, List.set_cons_succ, List.set_cons_zero, List.cons_append, List.nil_append]
        apply wpO_det
        case hw => rfl
        case h =>
          intro hFm wx hS_ hF_ K hK
          go_big_quiet_op
          first
            | exact hK _ rfl
            | (apply Exists.intro; refine ⟨fun _ => ?_, ?_⟩; (focus (first | (intro hC; have hC := KF.out _ hC.out.1; (try simp only [hC, Result.andThen]); first | exact ⟨True.intro, rfl⟩ | exact ⟨rfl, rfl⟩ | rfl))); exact hK _ rfl)
        case k =>
        simp only [Act.put, List.setIfInBounds_toArray, List.set_cons_succ, List.set_cons_zero, List.cons_append, List.nil_append]
        apply wpO_det
        case hw => rfl
        case h =>
          intro hFm wx hS_ hF_ K hK
          go_big_quiet_op
          first
            | exact hK _ rfl
            | (apply Exists.intro; refine ⟨fun _ => ?_, ?_⟩; (focus (first | (intro hC; have hC := hC.out; (try simp only [hC, Result.andThen]); first | exact ⟨True.intro, rfl⟩ | exact ⟨rfl, rfl⟩ | rfl))); exact hK _ rfl)
        case k =>
        simp only [Act.put, List.setIfInBounds_toArray, List.set_cons_succ, List.set_cons_zero, List.cons_append, List.nil_append]
        apply wpO_det
        case hw => rfl
        case h =>
          intro hFm wx hS_ hF_ K hK
          go_big_quiet_op
          first
            | exact hK _ rfl
            | (apply Exists.intro; refine ⟨fun _ => ?_, ?_⟩; (focus (first | (intro hC; have hC := KF.out _ hC.out.1; (try simp only [hC, Result.andThen]); first | exact ⟨True.intro, rfl⟩ | exact ⟨rfl, rfl⟩ | rfl))); exact hK _ rfl)
        case k =>
        simp only [Act.put, List.setIfInBounds_toArray, List.set_cons_succ, List.set_cons_zero, List.cons_append, List.nil_append]
        apply wpO_det
        case hw => rfl
        case h =>
          intro hFm wx hS_ hF_ K hK
          go_big_quiet_op
          first
            | exact hK _ rfl
            | (apply Exists.intro; refine ⟨fun _ => ?_, ?_⟩; (focus (first | (intro hC; have hC := hC.out; (try simp only [hC, Result.andThen]); first | exact ⟨True.intro, rfl⟩ | exact ⟨rfl, rfl⟩ | rfl))); exact hK _ rfl)
        case k =>
        simp only [Act.put, List.setIfInBounds_toArray, List.set_cons_succ, List.set_cons_zero, List.cons_append, List.nil_append]
        apply wpO_det
        case hw => rfl
        case h =>
          intro hFm wx hS_ hF_ K hK
          go_big_quiet_op
          first
            | exact hK _ rfl
            | (apply Exists.intro; refine ⟨fun _ => ?_, ?_⟩; (focus (first | (intro hC; have hC := hC.out; (try simp only [hC, Result.andThen]); first | exact ⟨True.intro, rfl⟩ | exact ⟨rfl, rfl⟩ | rfl))); exact hK _ rfl)
        case k =>
        simp only [Act.put, List.setIfInBounds_toArray, List.set_cons_succ, List.set_cons_zero, List.cons_append, List.nil_append]
        apply wpO_det
        case hw => rfl
        case h =>
          intro hFm wx hS_ hF_ K hK
          go_big_quiet_op
          first
            | exact hK _ rfl
            | (apply Exists.intro; refine ⟨fun _ => ?_, ?_⟩; (focus (first | (intro hC; have hC := KF.out _ hC.out.1; (try simp only [hC, Result.andThen]); first | exact ⟨True.intro, rfl⟩ | exact ⟨rfl, rfl⟩ | rfl))); exact hK _ rfl)
        case k =>
        simp only [Act.put, List.setIfInBounds_toArray, List.set_cons_succ, List.set_cons_zero, List.cons_append, List.nil_append]
        apply wpO_det
        case hw => rfl
        case h =>
          intro hFm wx hS_ hF_ K hK
          go_big_quiet_op
          first
            | exact hK _ rfl
            | (apply Exists.intro; refine ⟨fun _ => ?_, ?_⟩; (focus (first | (intro hC; have hC := hC.out; (try simp only [hC, Result.andThen]); first | exact ⟨True.intro, rfl⟩ | exact ⟨rfl, rfl⟩ | rfl))); exact hK _ rfl)
        case k =>
        simp only [Act.put, List.setIfInBounds_toArray, List.set_cons_succ, List.set_cons_zero, List.cons_append, List.nil_append]
        apply wpO_det
        case hw => rfl
        case h =>
          intro hFm wx hS_ hF_ K hK
          go_big_quiet_op
          first
            | exact hK _ rfl
            | (apply Exists.intro; refine ⟨fun _ => ?_, ?_⟩; (focus (first | (intro hC; have hC := KF.out _ hC.out.1; (try simp only [hC, Result.andThen]); first | exact ⟨True.intro, rfl⟩ | exact ⟨rfl, rfl⟩ | rfl))); exact hK _ rfl)
        case k =>
        simp only [Act.put, List.setIfInBounds_toArray, List.set_cons_succ, List.set_cons_zero, List.cons_append, List.nil_append]
        apply wpO_det
        case hw => rfl
        case h =>
          intro hFm wx hS_ hF_ K hK
          go_big_quiet_op
          first
            | exact hK _ rfl
            | (apply Exists.intro; refine ⟨fun _ => ?_, ?_⟩; (focus (first | (intro hC; have hC := hC.out; (try simp only [hC, Result.andThen]); first | exact ⟨True.intro, rfl⟩ | exact ⟨rfl, rfl⟩ | rfl))); exact hK _ rfl)
        case k =>
        simp only [Act.put, List.setIfInBounds_toArray, List.set_cons_succ, List.set_cons_zero, List.cons_append, List.nil_append]
        apply wpO_det
        case hw => rfl
        case h =>
          intro hFm wx hS_ hF_ K hK
          go_big_quiet_op
          first
            | exact hK _ rfl
            | (apply Exists.intro; refine ⟨fun _ => ?_, ?_⟩; (focus (first | (intro hC; have hC := hC.out; (try simp only [hC, Result.andThen]); first | exact ⟨True.intro, rfl⟩ | exact ⟨rfl, rfl⟩ | rfl))); exact hK _ rfl)
        case k =>
        simp only [Act.put, List.setIfInBounds_toArray, List.set_cons_succ, List.set_cons_zero, List.cons_append, List.nil_append]
        apply wpO_det
        case hw => rfl
        case h =>
          intro hFm wx hS_ hF_ K hK
          go_big_quiet_op
          first
            | exact hK _ rfl
            | (apply Exists.intro; refine ⟨fun _ => ?_, ?_⟩; (focus (first | (intro hC; have hC := hC.out; (try simp only [hC, Result.andThen]); first | exact ⟨True.intro, rfl⟩ | exact ⟨rfl, rfl⟩ | rfl))); exact hK _ rfl)
        case k =>
        simp only [Act.put, List.setIfInBounds_toArray, List.set_cons_succ, List.set_cons_zero, List.cons_append, List.nil_append]
        apply wpO_skip
        case hw => rfl
        case k =>
        simp only [Act.put, List.setIfInBounds_toArray, List.set_cons_succ, List.set_cons_zero, List.cons_append, List.nil_append]
        apply wpO_skip
        case hw => rfl
        case k =>
        simp only [Act.put, List.setIfInBounds_toArray, List.set_cons_succ, List.set_cons_zero, List.cons_append, List.nil_append]
        apply wpO_skip
        case hw => rfl
        case k =>
        simp only [Act.put, List.setIfInBounds_toArray, List.set_cons_succ, List.set_cons_zero, List.cons_append, List.nil_append]
        apply wpO_skip
        case hw => rfl
        case k =>
        simp only [Act.put, List.setIfInBounds_toArray, List.set_cons_succ, List.set_cons_zero, List.cons_append, List.nil_append]
        apply wpO_skip
        case hw => rfl
        case k =>
        simp only [Act.put, List.setIfInBounds_toArray, List.set_cons_succ, List.set_cons_zero, List.cons_append, List.nil_append]
        apply wpO_skip
        case hw => rfl
        case k =>
        simp only [Act.put, List.setIfInBounds_toArray, List.set_cons_succ, List.set_cons_zero, List.cons_append, List.nil_append]
        apply wpO_skip
        case hw => rfl
        case k =>
        simp only [Act.put, List.setIfInBounds_toArray, List.set_cons_succ, List.set_cons_zero, List.cons_append, List.nil_append]
        apply wpO_skip
        case hw => rfl
        case k =>
        simp only [Act.put, List.setIfInBounds_toArray, List.set_cons_succ, List.set_cons_zero, List.cons_append, List.nil_append]
        apply wpO_skip
        case hw => rfl
        case k =>
        simp only [Act.put, List.setIfInBounds_toArray, List.set_cons_succ, List.set_cons_zero, List.cons_append, List.nil_append]
        apply wpO_skip
        case hw => rfl
        case k =>
        simp only [Act.put, List.setIfInBounds_toArray, List.set_cons_succ, List.set_cons_zero, List.cons_append, List.nil_append]
        apply wpO_skip
        case hw => rfl
        case k =>
        simp only [Act.put, List.setIfInBounds_toArray, List.set_cons_succ, List.set_cons_zero, List.cons_append, List.nil_append]
        apply wpO_det
        case hw => rfl
        case h =>
          intro hFm wx hS_ hF_ K hK
          go_big_quiet_op
          first
            | exact hK _ rfl
            | (apply Exists.intro; refine ⟨fun _ => ?_, ?_⟩; (focus (first | (intro hC; have hC := hC.out; (try simp only [hC, Result.andThen]); first | exact ⟨True.intro, rfl⟩ | exact ⟨rfl, rfl⟩ | rfl))); exact hK _ rfl)
        case k =>
        simp only [Act.put, List.setIfInBounds_toArray, List.set_cons_succ, List.set_cons_zero, List.cons_append, List.nil_append]
        refine wpO_nil ?_
        intro w6 hS hF hB
        (try simp [allF] at hF)
        (try simp [List.pairwise_cons] at hB)
        clear hF hB
        go_wp2_with fail
        go_meet
        exact ⟨by rw [HCR.out, hA, hD]; rfl, hS⟩
      case true.false =>
        have hL : decide (ay < by_) = true := by
          rw [decide_eq_true_eq] at hA ⊢
          rw [decide_eq_false_iff_not] at hD
          omega
        cases hT : decide (0 < tv)
        case false =>
          apply region_facts 24 (fun w' => Since w5 w')
          case hm => kernel_rfl
          case hB => kernel_rfl
          case hS => exact (Since.rfl_ w5).drew
          case h =>
          simp only [List.take_succ_cons, List.take_zero, List.drop_succ_cons, List.drop_zero]
          apply wpO_det
          case hw => rfl
          case h =>
            intro hFm wx hS_ hF_ K hK
            go_big_quiet_op
            first
              | exact hK _ rfl
              | (apply Exists.intro; refine ⟨fun _ => ?_, ?_⟩; (focus (first | (intro hC; have hC := hC.out; (try simp only [hC, Result.andThen]); first | exact ⟨True.intro, rfl⟩ | exact ⟨rfl, rfl⟩ | rfl))); exact hK _ rfl)
          case k =>
          simp only [Act.put, List.setIfInBounds_toArray, List.set_cons_succ, List.set_cons_zero, List.cons_append, List.nil_append]
          apply wpO_det
          case hw => rfl
          case h =>
            intro hFm wx hS_ hF_ K hK
            go_big_quiet_op
            first
              | exact hK _ rfl
              | (apply Exists.intro; refine ⟨fun _ => ?_, ?_⟩; (focus (first | (intro hC; have hC := KF.out _ hC.out.1; (try simp only [hC, Result.andThen]); first | exact ⟨True.intro, rfl⟩ | exact ⟨rfl, rfl⟩ | rfl))); exact hK _ rfl)
          case k =>
          simp only [Act.put, List.setIfInBounds_toArray, List.set_cons_succ, List.set_cons_zero, List.cons_append, List.nil_append]
          apply wpO_det
          case hw => rfl
          case h =>
            intro hFm wx hS_ hF_ K hK
            go_big_quiet_op
            first
              | exact hK _ rfl
              | (apply Exists.intro; refine ⟨fun _ => ?_, ?_⟩; (focus (first | (intro hC; have hC := hC.out; (try simp only [hC, Result.andThen]); first | exact ⟨True.intro, rfl⟩ | exact ⟨rfl, rfl⟩ | rfl))); exact hK _ rfl)
          case k =>
          simp only [Act.put, List.setIfInBounds_toArray, List.set_cons_succ, List.set_cons_zero, List.cons_append, List.nil_append]
          apply wpO_det
          case hw => rfl
          case h =>
            intro hFm wx hS_ hF_ K hK
            go_big_quiet_op
            first
              | exact hK _ rfl
              | (apply Exists.intro; refine ⟨fun _ => ?_, ?_⟩; (focus (first | (intro hC; have hC := KF.out _ hC.out.1; (try simp only [hC, Result.andThen]); first | exact ⟨True.intro, rfl⟩ | exact ⟨rfl, rfl⟩ | rfl))); exact hK _ rfl)
          case k =>
          simp only [Act.put, List.setIfInBounds_toArray, List.set_cons_succ, List.set_cons_zero, List.cons_append, List.nil_append]
          apply wpO_det
          case hw => rfl
          case h =>
            intro hFm wx hS_ hF_ K hK
            go_big_quiet_op
            first
              | exact hK _ rfl
              | (apply Exists.intro; refine ⟨fun _ => ?_, ?_⟩; (focus (first | (intro hC; have hC := hC.out; (try simp only [hC, Result.andThen]); first | exact ⟨True.intro, rfl⟩ | exact ⟨rfl, rfl⟩ | rfl))); exact hK _ rfl)
          case k =>
          simp only [Act.put, List.setIfInBounds_toArray, List.set_cons_succ, List.set_cons_zero, List.cons_append, List.nil_append]
          apply wpO_det
          case hw => rfl
          case h =>
            intro hFm wx hS_ hF_ K hK
            go_big_quiet_op
            first
              | exact hK _ rfl
              | (apply Exists.intro; refine ⟨fun _ => ?_, ?_⟩; (focus (first | (intro hC; have hC := hC.out; (try simp only [hC, Result.andThen]); first | exact ⟨True.intro, rfl⟩ | exact ⟨rfl, rfl⟩ | rfl))); exact hK _ rfl)
          case k =>
          simp only [Act.put, List.setIfInBounds_toArray, List.set_cons_succ, List.set_cons_zero, List.cons_append, List.nil_append]
          apply wpO_det
          case hw => rfl
          case h =>
            intro hFm wx hS_ hF_ K hK
            go_big_quiet_op
            first
              | exact hK _ rfl
              | (apply Exists.intro; refine ⟨fun _ => ?_, ?_⟩; (focus (first | (intro hC; have hC := KF.out _ hC.out.1; (try simp only [hC, Result.andThen]); first | exact ⟨True.intro, rfl⟩ | exact ⟨rfl, rfl⟩ | rfl))); exact hK _ rfl)
          case k =>
          simp only [Act.put, List.setIfInBounds_toArray, List.set_cons_succ, List.set_cons_zero, List.cons_append, List.nil_append]
          apply wpO_det
          case hw => rfl
          case h =>
            intro hFm wx hS_ hF_ K hK
            go_big_quiet_op
            first
              | exact hK _ rfl
              | (apply Exists.intro; refine ⟨fun _ => ?_, ?_⟩; (focus (first | (intro hC; have hC := hC.out; (try simp only [hC, Result.andThen]); first | exact ⟨True.intro, rfl⟩ | exact ⟨rfl, rfl⟩ | rfl))); exact hK _ rfl)
          case k =>
          simp only [Act.put, List.setIfInBounds_toArray, List.set_cons_succ, List.set_cons_zero, List.cons_append, List.nil_append]
          apply wpO_det
          case hw => rfl
          case h =>
            intro hFm wx hS_ hF_ K hK
            go_big_quiet_op
            first
              | exact hK _ rfl
              | (apply Exists.intro; refine ⟨fun _ => ?_, ?_⟩; (focus (first | (intro hC; have hC := KF.out _ hC.out.1; (try simp only [hC, Result.andThen]); first | exact ⟨True.intro, rfl⟩ | exact ⟨rfl, rfl⟩ | rfl))); exact hK _ rfl)
          case k =>
          simp only [Act.put, List.setIfInBounds_toArray, List.set_cons_succ, List.set_cons_zero, List.cons_append, List.nil_append]
          apply wpO_det
          case hw => rfl
          case h =>
            intro hFm wx hS_ hF_ K hK
            go_big_quiet_op
            first
              | exact hK _ rfl
              | (apply Exists.intro; refine ⟨fun _ => ?_, ?_⟩; (focus (first | (intro hC; have hC := hC.out; (try simp only [hC, Result.andThen]); first | exact ⟨True.intro, rfl⟩ | exact ⟨rfl, rfl⟩ | rfl))); exact hK _ rfl)
          case k =>
          simp only [Act.put, List.setIfInBounds_toArray, List.set_cons_succ, List.set_cons_zero, List.cons_append, List.nil_append]
          apply wpO_det
          case hw => rfl
          case h =>
            intro hFm wx hS_ hF_ K hK
            go_big_quiet_op
            first
              | exact hK _ rfl
              | (apply Exists.intro; refine ⟨fun _ => ?_, ?_⟩; (focus (first | (intro hC; have hC := hC.out; (try simp only [hC, Result.andThen]); first | exact ⟨True.intro, rfl⟩ | exact ⟨rfl, rfl⟩ | rfl))); exact hK _ rfl)
          case k =>
          simp only [Act.put, List.setIfInBounds_toArray, List.set_cons_succ, List.set_cons_zero, List.cons_append, List.nil_append]
          apply wpO_det
          case hw => rfl
          case h =>
            intro hFm wx hS_ hF_ K hK
            go_big_quiet_op
            first
              | exact hK _ rfl
              | (apply Exists.intro; refine ⟨fun _ => ?_, ?_⟩; (focus (first | (intro hC; have hC := hC.out; (try simp only [hC, Result.andThen]); first | exact ⟨True.intro, rfl⟩ | exact ⟨rfl, rfl⟩ | rfl))); exact hK _ rfl)
          case k =>
          simp only [Act.put, List.setIfInBounds_toArray, List.set_cons_succ, List.set_cons_zero, List.cons_append, List.nil_append]
          apply wpO_det
          case hw => rfl
          case h =>
            intro hFm wx hS_ hF_ K hK
            go_big_quiet_op
            first
              | exact hK _ rfl
              | (apply Exists.intro; refine ⟨fun _ => ?_, ?_⟩; (focus (first | (intro hC; have hC := KF.out _ hC.out.1; (try simp only [hC, Result.andThen]); first | exact ⟨True.intro, rfl⟩ | exact ⟨rfl, rfl⟩ | rfl))); exact hK _ rfl)
          case k =>
          simp only [Act.put, List.setIfInBounds_toArray, List.set_cons_succ, List.set_cons_zero, List.cons_append, List.nil_append]
          apply wpO_det
          case hw => rfl
          case h =>
            intro hFm wx hS_ hF_ K hK
            go_big_quiet_op
            first
              | exact hK _ rfl
              | (apply Exists.intro; refine ⟨fun _ => ?_, ?_⟩; (focus (first | (intro hC; have hC := KF.out _ hC.out.1; (try simp only [hC, Result.andThen]); first | exact ⟨True.intro, rfl⟩ | exact ⟨rfl, rfl⟩ | rfl))); exact hK _ rfl)
          case k =>
          simp only [Act.put, List.setIfInBounds_toArray, List.set_cons_succ, List.set_cons_zero, List.cons_append, List.nil_append]
          apply wpO_det
          case hw => rfl
          case h =>
            intro hFm wx hS_ hF_ K hK
            go_big_quiet_op
            first
              | exact hK _ rfl
              | (apply Exists.intro; refine ⟨fun _ => ?_, ?_⟩; (focus (first | (intro hC; have hC := KF.out _ hC.out.1; (try simp only [hC, Result.andThen]); first | exact ⟨True.intro, rfl⟩ | exact ⟨rfl, rfl⟩ | rfl))); exact hK _ rfl)
          case k =>
          simp only [Act.put, List.setIfInBounds_toArray, List.set_cons_succ, List.set_cons_zero, List.cons_append, List.nil_append]
          apply wpO_det
          case hw => rfl
          case h =>
            intro hFm wx hS_ hF_ K hK
            go_big_quiet_op
            first
              | exact hK _ rfl
              | (apply Exists.intro; refine ⟨fun _ => ?_, ?_⟩; (focus (first | (intro hC; go_at_call 37; refine (HTN.out _).mono ?_; rintro e w' ⟨rfl, hb⟩; refine ⟨rfl, ?_⟩; exact cls_call hFm hC hb))); exact hK _ rfl)
          case k =>
          simp only [Act.put, List.setIfInBounds_toArray, List.set_cons_succ, List.set_cons_zero, List.cons_append, List.nil_append]
          apply wpO_det
          case hw => rfl
          case h =>
            intro hFm wx hS_ hF_ K hK
            go_big_quiet_op
            first
              | exact hK _ rfl
              | (apply Exists.intro; refine ⟨fun _ => ?_, ?_⟩; (focus (first | (intro hC; have hC := hC.out; (try simp only [hC, Result.andThen]); first | exact ⟨True.intro, rfl⟩ | exact ⟨rfl, rfl⟩ | rfl))); exact hK _ rfl)
          case k =>
          simp only [Act.put, List.setIfInBounds_toArray, List.set_cons_succ, List.set_cons_zero, List.cons_append, List.nil_append]
          apply wpO_det
          case hw => rfl
          case h =>
            intro hFm wx hS_ hF_ K hK
            go_big_quiet_op
            first
              | exact hK _ rfl
              | (apply Exists.intro; refine ⟨fun _ => ?_, ?_⟩; (focus (first | (intro hC; have hC := hC.out; (try simp only [hC, Result.andThen]); first | exact ⟨True.intro, rfl⟩ | exact ⟨rfl, rfl⟩ | rfl))); exact hK _ rfl)
          case k =>
          simp only [Act.put, List.setIfInBounds_toArray, List.set_cons_succ, List.set_cons_zero, List.cons_append, List.nil_append]
          apply wpO_det
          case hw => rfl
          case h =>
            intro hFm wx hS_ hF_ K hK
            go_big_quiet_op
            first
              | exact hK _ rfl
              | (apply Exists.intro; refine ⟨fun _ => ?_, ?_⟩; (focus (first | (intro hC; have hC := KF.out _ hC.out.1; (try simp only [hC, Result.andThen]); first | exact ⟨True.intro, rfl⟩ | exact ⟨rfl, rfl⟩ | rfl))); exact hK _ rfl)
          case k =>
          simp only [Act.put, List.setIfInBounds_toArray, List.set_cons_succ, List.set_cons_zero, List.cons_append, List.nil_append]
          apply wpO_det
          case hw => rfl
          case h =>
            intro hFm wx hS_ hF_ K hK
            go_big_quiet_op
            first
              | exact hK _ rfl
              | (apply Exists.intro; refine ⟨fun _ => ?_, ?_⟩; (focus (first | (intro hC; have hC := hC.out; (try simp only [hC, Result.andThen]); first | exact ⟨True.intro, rfl⟩ | exact ⟨rfl, rfl⟩ | rfl))); exact hK _ rfl)
          case k =>
          simp only [Act.put, List.setIfInBounds_toArray, List.set_cons_succ, List.set_cons_zero, List.cons_append, List.nil_append]
          apply wpO_det
          case hw => rfl
          case h =>
            intro hFm wx hS_ hF_ K hK
            go_big_quiet_op
            first
              | exact hK _ rfl
              | (apply Exists.intro; refine ⟨fun _ => ?_, ?_⟩; (focus (first | (intro hC; have hC := KF.out _ hC.out.1; (try simp only [hC, Result.andThen]); first | exact ⟨True.intro, rfl⟩ | exact ⟨rfl, rfl⟩ | rfl))); exact hK _ rfl)
          case k =>
          simp only [Act.put, List.setIfInBounds_toArray, List.set_cons_succ, List.set_cons_zero, List.cons_append, List.nil_append]
          apply wpO_det
          case hw => rfl
          case h =>
            intro hFm wx hS_ hF_ K hK
            go_big_quiet_op
            first
              | exact hK _ rfl
              | (apply Exists.intro; refine ⟨fun _ => ?_, ?_⟩; (focus (first | (intro hC; have hC := hC.out; (try simp only [hC, Result.andThen]); first | exact ⟨True.intro, rfl⟩ | exact ⟨rfl, rfl⟩ | rfl))); exact hK _ rfl)
          case k =>
          simp only [Act.put, List.setIfInBounds_toArray, List.set_cons_succ, List.set_cons_zero, List.cons_append, List.nil_append]
          apply wpO_det
          case hw => rfl
          case h =>
            intro hFm wx hS_ hF_ K hK
            go_big_quiet_op
            first
              | exact hK _ rfl
              | (apply Exists.intro; refine ⟨fun _ => ?_, ?_⟩; (focus (first | (intro hC; have hC := hC.out; (try simp only [hC, Result.andThen]); first | exact ⟨True.intro, rfl⟩ | exact ⟨rfl, rfl⟩ | rfl))); exact hK _ rfl)
          case k =>
          simp only [Act.put, List.setIfInBounds_toArray, List.set_cons_succ, List.set_cons_zero, List.cons_append, List.nil_append]
          apply wpO_det
          case hw => rfl
          case h =>
            intro hFm wx hS_ hF_ K hK
            go_big_quiet_op
            first
              | exact hK _ rfl
              | (apply Exists.intro; refine ⟨fun _ => ?_, ?_⟩; (focus (first | (intro hC; have hC := hC.out; (try simp only [hC, Result.andThen]); first | exact ⟨True.intro, rfl⟩ | exact ⟨rfl, rfl⟩ | rfl))); exact hK _ rfl)
          case k =>
          simp only [Act.put, List.setIfInBounds_toArray, List.set_cons_succ, List.set_cons_zero, List.cons_append, List.nil_append]
          refine wpO_nil ?_
          intro w6 hS hF hB
          (try simp [allF] at hF)
          (try simp [List.pairwise_cons] at hB)
          clear hF hB
          go_wp2_with fail
          go_meet
          exact ⟨by rw [HCR.out, hA, hD, hL, hT]; rfl, hS⟩
        case true =>
          apply region_facts 24 (fun w' => Since w5 w')
          case hm => kernel_rfl
          case hB => kernel_rfl
          case hS => exact (Since.rfl_ w5).drew
          case h =>
          simp only [List.take_succ_cons, List.take_zero, List.drop_succ_cons, List.drop_zero]
          apply wpO_det
          case hw => rfl
          case h =>
            intro hFm wx hS_ hF_ K hK
            go_big_quiet_op
            first
              | exact hK _ rfl
              | (apply Exists.intro; refine ⟨fun _ => ?_, ?_⟩; (focus (first | (intro hC; have hC := hC.out; (try simp only [hC, Result.andThen]); first | exact ⟨True.intro, rfl⟩ | exact ⟨rfl, rfl⟩ | rfl))); exact hK _ rfl)
          case k =>
          simp only [Act.put, List.setIfInBounds_toArray, List.set_cons_succ, List.set_cons_zero, List.cons_append, List.nil_append]
          apply wpO_det
          case hw => rfl
          case h =>
            intro hFm wx hS_ hF_ K hK
            go_big_quiet_op
            first
              | exact hK _ rfl
              | (apply Exists.intro; refine ⟨fun _ => ?_, ?_⟩; (focus (first | (intro hC; have hC := KF.out _ hC.out.1; (try simp only [hC, Result.andThen]); first | exact ⟨True.intro, rfl⟩ | exact ⟨rfl, rfl⟩ | rfl))); exact hK _ rfl)
          case k =>
          simp only [Act.put, List.setIfInBounds_toArray, List.set_cons_succ, List.set_cons_zero, List.cons_append, List.nil_append]
          apply wpO_det
          case hw => rfl
          case h =>
            intro hFm wx hS_ hF_ K hK
            go_big_quiet_op
            first
              | exact hK _ rfl
              | (apply Exists.intro; refine ⟨fun _ => ?_, ?_⟩; (focus (first | (intro hC; have hC := hC.out; (try simp only [hC, Result.andThen]); first | exact ⟨True.intro, rfl⟩ | exact ⟨rfl, rfl⟩ | rfl))); exact hK _ rfl)
          case k =>
          simp only [Act.put, List.setIfInBounds_toArray, List.set_cons_succ, List.set_cons_zero, List.cons_append, List.nil_append]
          apply wpO_det
          case hw => rfl
          case h =>
            intro hFm wx hS_ hF_ K hK
            go_big_quiet_op
            first
              | exact hK _ rfl
              | (apply Exists.intro; refine ⟨fun _ => ?_, ?_⟩; (focus (first | (intro hC; have hC := KF.out _ hC.out.1; (try simp only [hC, Result.andThen]); first | exact ⟨True.intro, rfl⟩ | exact ⟨rfl, rfl⟩ | rfl))); exact hK _ rfl)
          case k =>
          simp only [Act.put, List.setIfInBounds_toArray, List.set_cons_succ, List.set_cons_zero, List.cons_append, List.nil_append]
          apply wpO_det
          case hw => rfl
          case h =>
            intro hFm wx hS_ hF_ K hK
            go_big_quiet_op
            first
              | exact hK _ rfl
              | (apply Exists.intro; refine ⟨fun _ => ?_, ?_⟩; (focus (first | (intro hC; have hC := hC.out; (try simp only [hC, Result.andThen]); first | exact ⟨True.intro, rfl⟩ | exact ⟨rfl, rfl⟩ | rfl))); exact hK _ rfl)
          case k =>
          simp only [Act.put, List.setIfInBounds_toArray, List.set_cons_succ, List.set_cons_zero, List.cons_append, List.nil_append]
          apply wpO_det
          case hw => rfl
          case h =>
            intro hFm wx hS_ hF_ K hK
            go_big_quiet_op
            first
              | exact hK _ rfl
              | (apply Exists.intro; refine ⟨fun _ => ?_, ?_⟩; (focus (first | (intro hC; have hC := hC.out; (try simp only [hC, Result.andThen]); first | exact ⟨True.intro, rfl⟩ | exact ⟨rfl, rfl⟩ | rfl))); exact hK _ rfl)
          case k =>
          simp only [Act.put, List.setIfInBounds_toArray, List.set_cons_succ, List.set_cons_zero, List.cons_append, List.nil_append]
          apply wpO_det
          case hw => rfl
          case h =>
            intro hFm wx hS_ hF_ K hK
            go_big_quiet_op
            first
              | exact hK _ rfl
              | (apply Exists.intro; refine ⟨fun _ => ?_, ?_⟩; (focus (first | (intro hC; have hC := KF.out _ hC.out.1; (try simp only [hC, Result.andThen]); first | exact ⟨True.intro, rfl⟩ | exact ⟨rfl, rfl⟩ | rfl))); exact hK _ rfl)
          case k =>
          simp only [Act.put, List.setIfInBounds_toArray, List.set_cons_succ, List.set_cons_zero, List.cons_append, List.nil_append]
          apply wpO_det
          case hw => rfl
          case h =>
            intro hFm wx hS_ hF_ K hK
            go_big_quiet_op
            first
              | exact hK _ rfl
              | (apply Exists.intro; refine ⟨fun _ => ?_, ?_⟩; (focus (first | (intro hC; have hC := hC.out; (try simp only [hC, Result.andThen]); first | exact ⟨True.intro, rfl⟩ | exact ⟨rfl, rfl⟩ | rfl))); exact hK _ rfl)
          case k =>
          simp only [Act.put, List.setIfInBounds_toArray, List.set_cons_succ, List.set_cons_zero, List.cons_append, List.nil_append]
          apply wpO_det
          case hw => rfl
          case h =>
            intro hFm wx hS_ hF_ K hK
            go_big_quiet_op
            first
              | exact hK _ rfl
              | (apply Exists.intro; refine ⟨fun _ => ?_, ?_⟩; (focus (first | (intro hC; have hC := KF.out _ hC.out.1; (try simp only [hC, Result.andThen]); first | exact ⟨True.intro, rfl⟩ | exact ⟨rfl, rfl⟩ | rfl))); exact hK _ rfl)
          case k =>
          simp only [Act.put, List.setIfInBounds_toArray, List.set_cons_succ, List.set_cons_zero, List.cons_append, List.nil_append]
          apply wpO_det
          case hw => rfl
          case h =>
            intro hFm wx hS_ hF_ K hK
            go_big_quiet_op
            first
              | exact hK _ rfl
              | (apply Exists.intro; refine ⟨fun _ => ?_, ?_⟩; (focus (first | (intro hC; have hC := hC.out; (try simp only [hC, Result.andThen]); first | exact ⟨True.intro, rfl⟩ | exact ⟨rfl, rfl⟩ | rfl))); exact hK _ rfl)
          case k =>
          simp only [Act.put, List.setIfInBounds_toArray, List.set_cons_succ, List.set_cons_zero, List.cons_append, List.nil_append]
          apply wpO_det
          case hw => rfl
          case h =>
            intro hFm wx hS_ hF_ K hK
            go_big_quiet_op
            first
              | exact hK _ rfl
              | (apply Exists.intro; refine ⟨fun _ => ?_, ?_⟩; (focus (first | (intro hC; have hC := hC.out; (try simp only [hC, Result.andThen]); first | exact ⟨True.intro, rfl⟩ | exact ⟨rfl, rfl⟩ | rfl))); exact hK _ rfl)
          case k =>
          simp only [Act.put, List.setIfInBounds_toArray, List.set_cons_succ, List.set_cons_zero, List.cons_append, List.nil_append]
          apply wpO_det
          case hw => rfl
          case h =>
            intro hFm wx hS_ hF_ K hK
            go_big_quiet_op
            first
              | exact hK _ rfl
              | (apply Exists.intro; refine ⟨fun _ => ?_, ?_⟩; (focus (first | (intro hC; have hC := hC.out; (try simp only [hC, Result.andThen]); first | exact ⟨True.intro, rfl⟩ | exact ⟨rfl, rfl⟩ | rfl))); exact hK _ rfl)
          case k =>
          simp only [Act.put, List.setIfInBounds_toArray, List.set_cons_succ, List.set_cons_zero, List.cons_append, List.nil_append]
          apply wpO_det
          case hw => rfl
          case h =>
            intro hFm wx hS_ hF_ K hK
            go_big_quiet_op
            first
              | exact hK _ rfl
              | (apply Exists.intro; refine ⟨fun _ => ?_, ?_⟩; (focus (first | (intro hC; have hC := KF.out _ hC.out.1; (try simp only [hC, Result.andThen]); first | exact ⟨True.intro, rfl⟩ | exact ⟨rfl, rfl⟩ | rfl))); exact hK _ rfl)
          case k =>
          simp only [Act.put, List.setIfInBounds_toArray, List.set_cons_succ, List.set_cons_zero, List.cons_append, List.nil_append]
          apply wpO_det
          case hw => rfl
          case h =>
            intro hFm wx hS_ hF_ K hK
            go_big_quiet_op
            first
              | exact hK _ rfl
              | (apply Exists.intro; refine ⟨fun _ => ?_, ?_⟩; (focus (first | (intro hC; have hC := KF.out _ hC.out.1; (try simp only [hC, Result.andThen]); first | exact ⟨True.intro, rfl⟩ | exact ⟨rfl, rfl⟩ | rfl))); exact hK _ rfl)
          case k =>
          simp only [Act.put, List.setIfInBounds_toArray, List.set_cons_succ, List.set_cons_zero, List.cons_append, List.nil_append]
          apply wpO_det
          case hw => rfl
          case h =>
            intro hFm wx hS_ hF_ K hK
            go_big_quiet_op
            first
              | exact hK _ rfl
              | (apply Exists.intro; refine ⟨fun _ => ?_, ?_⟩; (focus (first | (intro hC; have hC := KF.out _ hC.out.1; (try simp only [hC, Result.andThen]); first | exact ⟨True.intro, rfl⟩ | exact ⟨rfl, rfl⟩ | rfl))); exact hK _ rfl)
          case k =>
          simp only [Act.put, List.setIfInBounds_toArray, List.set_cons_succ, List.set_cons_zero, List.cons_append, List.nil_append]
          apply wpO_det
          case hw => rfl
          case h =>
            intro hFm wx hS_ hF_ K hK
            go_big_quiet_op
            first
              | exact hK _ rfl
              | (apply Exists.intro; refine ⟨fun _ => ?_, ?_⟩; (focus (first | (intro hC; go_at_call 37; refine (HTN.out _).mono ?_; rintro e w' ⟨rfl, hb⟩; refine ⟨rfl, ?_⟩; exact cls_call hFm hC hb))); exact hK _ rfl)
          case k =>
          simp only [Act.put, List.setIfInBounds_toArray, List.set_cons_succ, List.set_cons_zero, List.cons_append, List.nil_append]
          apply wpO_det
          case hw => rfl
          case h =>
            intro hFm wx hS_ hF_ K hK
            go_big_quiet_op
            first
              | exact hK _ rfl
              | (apply Exists.intro; refine ⟨fun _ => ?_, ?_⟩; (focus (first | (intro hC; have hC := hC.out; (try simp only [hC, Result.andThen]); first | exact ⟨True.intro, rfl⟩ | exact ⟨rfl, rfl⟩ | rfl))); exact hK _ rfl)
          case k =>
          simp only [Act.put, List.setIfInBounds_toArray, List.set_cons_succ, List.set_cons_zero, List.cons_append, List.nil_append]
          apply wpO_det
          case hw => rfl
          case h =>
            intro hFm wx hS_ hF_ K hK
            go_big_quiet_op
            first
              | exact hK _ rfl
              | (apply Exists.intro; refine ⟨fun _ => ?_, ?_⟩; (focus (first | (intro hC; have hC := hC.out; (try simp only [hC, Result.andThen]); first | exact ⟨True.intro, rfl⟩ | exact ⟨rfl, rfl⟩ | rfl))); exact hK _ rfl)
          case k =>
          simp only [Act.put, List.setIfInBounds_toArray, List.set_cons_succ, List.set_cons_zero, List.cons_append, List.nil_append]
          apply wpO_det
          case hw => rfl
          case h =>
            intro hFm wx hS_ hF_ K hK
            go_big_quiet_op
            first
              | exact hK _ rfl
              | (apply Exists.intro; refine ⟨fun _ => ?_, ?_⟩; (focus (first | (intro hC; have hC := KF.out _ hC.out.1; (try simp only [hC, Result.andThen]); first | exact ⟨True.intro, rfl⟩ | exact ⟨rfl, rfl⟩ | rfl))); exact hK _ rfl)
          case k =>
          simp only [Act.put, List.setIfInBounds_toArray, List.set_cons_succ, List.set_cons_zero, List.cons_append, List.nil_append]
          apply wpO_det
          case hw => rfl
          case h =>
            intro hFm wx hS_ hF_ K hK
            go_big_quiet_op
            first
              | exact hK _ rfl
              | (apply Exists.intro; refine ⟨fun _ => ?_, ?_⟩; (focus (first | (intro hC; have hC := hC.out; (try simp only [hC, Result.andThen]); first | exact ⟨True.intro, rfl⟩ | exact ⟨rfl, rfl⟩ | rfl))); exact hK _ rfl)
          case k =>
          simp only [Act.put, List.setIfInBounds_toArray, List.set_cons_succ, List.set_cons_zero, List.cons_append, List.nil_append]
          apply wpO_det
          case hw => rfl
          case h =>
            intro hFm wx hS_ hF_ K hK
            go_big_quiet_op
            first
              | exact hK _ rfl
              | (apply Exists.intro; refine ⟨fun _ => ?_, ?_⟩; (focus (first | (intro hC; have hC := KF.out _ hC.out.1; (try simp only [hC, Result.andThen]); first | exact ⟨True.intro, rfl⟩ | exact ⟨rfl, rfl⟩ | rfl))); exact hK _ rfl)
          case k =>
          simp only [Act.put, List.setIfInBounds_toArray, List.set_cons_succ, List.set_cons_zero, List.cons_append, List.nil_append]
          apply wpO_det
          case hw => rfl
          case h =>
            intro hFm wx hS_ hF_ K hK
            go_big_quiet_op
            first
              | exact hK _ rfl
              | (apply Exists.intro; refine ⟨fun _ => ?_, ?_⟩; (focus (first | (intro hC; have hC := hC.out; (try simp only [hC, Result.andThen]); first | exact ⟨True.intro, rfl⟩ | exact ⟨rfl, rfl⟩ | rfl))); exact hK _ rfl)
          case k =>
          simp only [Act.put, List.setIfInBounds_toArray, List.set_cons_succ, List.set_cons_zero, List.cons_append, List.nil_append]
          apply wpO_det
          case hw => rfl
          case h =>
            intro hFm wx hS_ hF_ K hK
            go_big_quiet_op
            first
              | exact hK _ rfl
              | (apply Exists.intro; refine ⟨fun _ => ?_, ?_⟩; (focus (first | (intro hC; have hC := hC.out; (try simp only [hC, Result.andThen]); first | exact ⟨True.intro, rfl⟩ | exact ⟨rfl, rfl⟩ | rfl))); exact hK _ rfl)
          case k =>
          simp only [Act.put, List.setIfInBounds_toArray, List.set_cons_succ, List.set_cons_zero, List.cons_append, List.nil_append]
          apply wpO_det
          case hw => rfl
          case h =>
            intro hFm wx hS_ hF_ K hK
            go_big_quiet_op
            first
              | exact hK _ rfl
              | (apply Exists.intro; refine ⟨fun _ => ?_, ?_⟩; (focus (first | (intro hC; have hC := hC.out; (try simp only [hC, Result.andThen]); first | exact ⟨True.intro, rfl⟩ | exact ⟨rfl, rfl⟩ | rfl))); exact hK _ rfl)
          case k =>
          simp only [Act.put, List.setIfInBounds_toArray, List.set_cons_succ, List.set_cons_zero, List.cons_append, List.nil_append]
          refine wpO_nil ?_
          intro w6 hS hF hB
          (try simp [allF] at hF)
          (try simp [List.pairwise_cons] at hB)
          clear hF hB
          go_wp2_with fail
          go_meet
          exact ⟨by rw [HCR.out, hA, hD, hL, hT]; rfl, hS⟩
      case false.true =>
        have hL : decide (ay < by_) = false := by
          rw [decide_eq_true_eq] at hD
          rw [decide_eq_false_iff_not] at hA ⊢
          omega
        cases hT : decide (0 < tv)
        case false =>
          apply region_facts 24 (fun w' => Since w5 w')
          case hm => kernel_rfl
          case hB => kernel_rfl
          case hS => exact (Since.rfl_ w5).drew
          case h =>
          simp only [List.take_succ_cons, List.take_zero, List.drop_succ_cons, List.drop_zero]
          apply wpO_det
          case hw => rfl
          case h =>
            intro hFm wx hS_ hF_ K hK
            go_big_quiet_op
            first
              | exact hK _ rfl
              | (apply Exists.intro; refine ⟨fun _ => ?_, ?_⟩; (focus (first | (intro hC; have hC := hC.out; (try simp only [hC, Result.andThen]); first | exact ⟨True.intro, rfl⟩ | exact ⟨rfl, rfl⟩ | rfl))); exact hK _ rfl)
          case k =>
          simp only [Act.put, List.setIfInBounds_toArray, List.set_cons_succ, List.set_cons_zero, List.cons_append, List.nil_append]
          apply wpO_det
          case hw => rfl
          case h =>
            intro hFm wx hS_ hF_ K hK
            go_big_quiet_op
            first
              | exact hK _ rfl
              | (apply Exists.intro; refine ⟨fun _ => ?_, ?_⟩; (focus (first | (intro hC; have hC := KF.out _ hC.out.1; (try simp only [hC, Result.andThen]); first | exact ⟨True.intro, rfl⟩ | exact ⟨rfl, rfl⟩ | rfl))); exact hK _ rfl)
          case k =>
          simp only [Act.put, List.setIfInBounds_toArray, List.set_cons_succ, List.set_cons_zero, List.cons_append, List.nil_append]
          apply wpO_det
          case hw => rfl
          case h =>
            intro hFm wx hS_ hF_ K hK
            go_big_quiet_op
            first
              | exact hK _ rfl
              | (apply Exists.intro; refine ⟨fun _ => ?_, ?_⟩; (focus (first | (intro hC; have hC := hC.out; (try simp only [hC, Result.andThen]); first | exact ⟨True.intro, rfl⟩ | exact ⟨rfl, rfl⟩ | rfl))); exact hK _ rfl)
          case k =>
          simp only [Act.put, List.setIfInBounds_toArray, List.set_cons_succ, List.set_cons_zero, List.cons_append, List.nil_append]
          apply wpO_det
          case hw => rfl
          case h =>
            intro hFm wx hS_ hF_ K hK
            go_big_quiet_op
            first
              | exact hK _ rfl
              | (apply Exists.intro; refine ⟨fun _ => ?_, ?_⟩; (focus (first | (intro hC; have hC := KF.out _ hC.out.1; (try simp only [hC, Result.andThen]); first | exact ⟨True.intro, rfl⟩ | exact ⟨rfl, rfl⟩ | rfl))); exact hK _ rfl)
          case k =>
          simp only [Act.put, List.setIfInBounds_toArray, List.set_cons_succ, List.set_cons_zero, List.cons_append, List.nil_append]
          apply wpO_det
          case hw => rfl
          case h =>
            intro hFm wx hS_ hF_ K hK
            go_big_quiet_op
            first
              | exact hK _ rfl
              | (apply Exists.intro; refine ⟨fun _ => ?_, ?_⟩; (focus (first | (intro hC; have hC := hC.out; (try simp only [hC, Result.andThen]); first | exact ⟨True.intro, rfl⟩ | exact ⟨rfl, rfl⟩ | rfl))); exact hK _ rfl)
          case k =>
          simp only [Act.put, List.setIfInBounds_toArray, List.set_cons_succ, List.set_cons_zero, List.cons_append, List.nil_append]
          apply wpO_det
          case hw => rfl
          case h =>
            intro hFm wx hS_ hF_ K hK
            go_big_quiet_op
            first
              | exact hK _ rfl
              | (apply Exists.intro; refine ⟨fun _ => ?_, ?_⟩; (focus (first | (intro hC; have hC := hC.out; (try simp only [hC, Result.andThen]); first | exact ⟨True.intro, rfl⟩ | exact ⟨rfl, rfl⟩ | rfl))); exact hK _ rfl)
          case k =>
          simp only [Act.put, List.setIfInBounds_toArray, List.set_cons_succ, List.set_cons_zero, List.cons_append, List.nil_append]
          apply wpO_det
          case hw => rfl
          case h =>
            intro hFm wx hS_ hF_ K hK
            go_big_quiet_op
            first
              | exact hK _ rfl
              | (apply Exists.intro; refine ⟨fun _ => ?_, ?_⟩; (focus (first | (intro hC; have hC := KF.out _ hC.out.1; (try simp only [hC, Result.andThen]); first | exact ⟨True.intro, rfl⟩ | exact ⟨rfl, rfl⟩ | rfl))); exact hK _ rfl)
          case k =>
          simp only [Act.put, List.setIfInBounds_toArray, List.set_cons_succ, List.set_cons_zero, List.cons_append, List.nil_append]
          apply wpO_det
          case hw => rfl
          case h =>
            intro hFm wx hS_ hF_ K hK
            go_big_quiet_op
            first
              | exact hK _ rfl
              | (apply Exists.intro; refine ⟨fun _ => ?_, ?_⟩; (focus (first | (intro hC; have hC := hC.out; (try simp only [hC, Result.andThen]); first | exact ⟨True.intro, rfl⟩ | exact ⟨rfl, rfl⟩ | rfl))); exact hK _ rfl)
          case k =>
          simp only [Act.put, List.setIfInBounds_toArray, List.set_cons_succ, List.set_cons_zero, List.cons_append, List.nil_append]
          apply wpO_det
          case hw => rfl
          case h =>
            intro hFm wx hS_ hF_ K hK
            go_big_quiet_op
            first
              | exact hK _ rfl
              | (apply Exists.intro; refine ⟨fun _ => ?_, ?_⟩; (focus (first | (intro hC; have hC := KF.out _ hC.out.1; (try simp only [hC, Result.andThen]); first | exact ⟨True.intro, rfl⟩ | exact ⟨rfl, rfl⟩ | rfl))); exact hK _ rfl)
          case k =>
          simp only [Act.put, List.setIfInBounds_toArray, List.set_cons_succ, List.set_cons_zero, List.cons_append, List.nil_append]
          apply wpO_det
          case hw => rfl
          case h =>
            intro hFm wx hS_ hF_ K hK
            go_big_quiet_op
            first
              | exact hK _ rfl
              | (apply Exists.intro; refine ⟨fun _ => ?_, ?_⟩; (focus (first | (intro hC; have hC := hC.out; (try simp only [hC, Result.andThen]); first | exact ⟨True.intro, rfl⟩ | exact ⟨rfl, rfl⟩ | rfl))); exact hK _ rfl)
          case k =>
          simp only [Act.put, List.setIfInBounds_toArray, List.set_cons_succ, List.set_cons_zero, List.cons_append, List.nil_append]
          apply wpO_det
          case hw => rfl
          case h =>
            intro hFm wx hS_ hF_ K hK
            go_big_quiet_op
            first
              | exact hK _ rfl
              | (apply Exists.intro; refine ⟨fun _ => ?_, ?_⟩; (focus (first | (intro hC; have hC := hC.out; (try simp only [hC, Result.andThen]); first | exact ⟨True.intro, rfl⟩ | exact ⟨rfl, rfl⟩ | rfl))); exact hK _ rfl)
          case k =>
          simp only [Act.put, List.setIfInBounds_toArray, List.set_cons_succ, List.set_cons_zero, List.cons_append, List.nil_append]
          apply wpO_det
          case hw => rfl
          case h =>
            intro hFm wx hS_ hF_ K hK
            go_big_quiet_op
            first
              | exact hK _ rfl
              | (apply Exists.intro; refine ⟨fun _ => ?_, ?_⟩; (focus (first | (intro hC; have hC := hC.out; (try simp only [hC, Result.andThen]); first | exact ⟨True.intro, rfl⟩ | exact ⟨rfl, rfl⟩ | rfl))); exact hK _ rfl)
          case k =>
          simp only [Act.put, List.setIfInBounds_toArray, List.set_cons_succ, List.set_cons_zero, List.cons_append, List.nil_append]
          apply wpO_det
          case hw => rfl
          case h =>
            intro hFm wx hS_ hF_ K hK
            go_big_quiet_op
            first
              | exact hK _ rfl
              | (apply Exists.intro; refine ⟨fun _ => ?_, ?_⟩; (focus (first | (intro hC; have hC := KF.out _ hC.out.1; (try simp only [hC, Result.andThen]); first | exact ⟨True.intro, rfl⟩ | exact ⟨rfl, rfl⟩ | rfl))); exact hK _ rfl)
          case k =>
          simp only [Act.put, List.setIfInBounds_toArray, List.set_cons_succ, List.set_cons_zero, List.cons_append, List.nil_append]
          apply wpO_det
          case hw => rfl
          case h =>
            intro hFm wx hS_ hF_ K hK
            go_big_quiet_op
            first
              | exact hK _ rfl
              | (apply Exists.intro; refine ⟨fun _ => ?_, ?_⟩; (focus (first | (intro hC; have hC := KF.out _ hC.out.1; (try simp only [hC, Result.andThen]); first | exact ⟨True.intro, rfl⟩ | exact ⟨rfl, rfl⟩ | rfl))); exact hK _ rfl)
          case k =>
          simp only [Act.put, List.setIfInBounds_toArray, List.set_cons_succ, List.set_cons_zero, List.cons_append, List.nil_append]
          apply wpO_det
          case hw => rfl
          case h =>
            intro hFm wx hS_ hF_ K hK
            go_big_quiet_op
            first
              | exact hK _ rfl
              | (apply Exists.intro; refine ⟨fun _ => ?_, ?_⟩; (focus (first | (intro hC; have hC := KF.out _ hC.out.1; (try simp only [hC, Result.andThen]); first | exact ⟨True.intro, rfl⟩ | exact ⟨rfl, rfl⟩ | rfl))); exact hK _ rfl)
          case k =>
          simp only [Act.put, List.setIfInBounds_toArray, List.set_cons_succ, List.set_cons_zero, List.cons_append, List.nil_append]
          apply wpO_det
          case hw => rfl
          case h =>
            intro hFm wx hS_ hF_ K hK
            go_big_quiet_op
            first
              | exact hK _ rfl
              | (apply Exists.intro; refine ⟨fun _ => ?_, ?_⟩; (focus (first | (intro hC; go_at_call 37; refine (HTN.out _).mono ?_; rintro e w' ⟨rfl, hb⟩; refine ⟨rfl, ?_⟩; exact cls_call hFm hC hb))); exact hK _ rfl)
          case k =>
          simp only [Act.put, List.setIfInBounds_toArray, List.set_cons_succ, List.set_cons_zero, List.cons_append, List.nil_append]
          apply wpO_det
          case hw => rfl
          case h =>
            intro hFm wx hS_ hF_ K hK
            go_big_quiet_op
            first
              | exact hK _ rfl
              | (apply Exists.intro; refine ⟨fun _ => ?_, ?_⟩; (focus (first | (intro hC; have hC := hC.out; (try simp only [hC, Result.andThen]); first | exact ⟨True.intro, rfl⟩ | exact ⟨rfl, rfl⟩ | rfl))); exact hK _ rfl)
          case k =>
          simp only [Act.put, List.setIfInBounds_toArray, List.set_cons_succ, List.set_cons_zero, List.cons_append, List.nil_append]
          apply wpO_det
          case hw => rfl
          case h =>
            intro hFm wx hS_ hF_ K hK
            go_big_quiet_op
            first
              | exact hK _ rfl
              | (apply Exists.intro; refine ⟨fun _ => ?_, ?_⟩; (focus (first | (intro hC; have hC := hC.out; (try simp only [hC, Result.andThen]); first | exact ⟨True.intro, rfl⟩ | exact ⟨rfl, rfl⟩ | rfl))); exact hK _ rfl)
          case k =>
          simp only [Act.put, List.setIfInBounds_toArray, List.set_cons_succ, List.set_cons_zero, List.cons_append, List.nil_append]
          apply wpO_det
          case hw => rfl
          case h =>
            intro hFm wx hS_ hF_ K hK
            go_big_quiet_op
            first
              | exact hK _ rfl
              | (apply Exists.intro; refine ⟨fun _ => ?_, ?_⟩; (focus (first | (intro hC; have hC := KF.out _ hC.out.1; (try simp only [hC, Result.andThen]); first | exact ⟨True.intro, rfl⟩ | exact ⟨rfl, rfl⟩ | rfl))); exact hK _ rfl)
          case k =>
          simp only [Act.put, List.setIfInBounds_toArray, List.set_cons_succ, List.set_cons_zero, List.cons_append, List.nil_append]
          apply wpO_det
          case hw => rfl
          case h =>
            intro hFm wx hS_ hF_ K hK
            go_big_quiet_op
            first
              | exact hK _ rfl
              | (apply Exists.intro; refine ⟨fun _ => ?_, ?_⟩; (focus (first | (intro hC; have hC := hC.out; (try simp only [hC, Result.andThen]); first | exact ⟨True.intro, rfl⟩ | exact ⟨rfl, rfl⟩ | rfl))); exact hK _ rfl)
          case k =>
          simp only [Act.put, List.setIfInBounds_toArray, List.set_cons_succ, List.set_cons_zero, List.cons_append, List.nil_append]
          apply wpO_det
          case hw => rfl
          case h =>
            intro hFm wx hS_ hF_ K hK
            go_big_quiet_op
            first
              | exact hK _ rfl
              | (apply Exists.intro; refine ⟨fun _ => ?_, ?_⟩; (focus (first | (intro hC; have hC := KF.out _ hC.out.1; (try simp only [hC, Result.andThen]); first | exact ⟨True.intro, rfl⟩ | exact ⟨rfl, rfl⟩ | rfl))); exact hK _ rfl)
          case k =>
          simp only [Act.put, List.setIfInBounds_toArray, List.set_cons_succ, List.set_cons_zero, List.cons_append, List.nil_append]
          apply wpO_det
          case hw => rfl
          case h =>
            intro hFm wx hS_ hF_ K hK
            go_big_quiet_op
            first
              | exact hK _ rfl
              | (apply Exists.intro; refine ⟨fun _ => ?_, ?_⟩; (focus (first | (intro hC; have hC := hC.out; (try simp only [hC, Result.andThen]); first | exact ⟨True.intro, rfl⟩ | exact ⟨rfl, rfl⟩ | rfl))); exact hK _ rfl)
          case k =>
          simp only [Act.put, List.setIfInBounds_toArray, List.set_cons_succ, List.set_cons_zero, List.cons_append, List.nil_append]
          apply wpO_det
          case hw => rfl
          case h =>
            intro hFm wx hS_ hF_ K hK
            go_big_quiet_op
            first
              | exact hK _ rfl
              | (apply Exists.intro; refine ⟨fun _ => ?_, ?_⟩; (focus (first | (intro hC; have hC := hC.out; (try simp only [hC, Result.andThen]); first | exact ⟨True.intro, rfl⟩ | exact ⟨rfl, rfl⟩ | rfl))); exact hK _ rfl)
          case k =>
          simp only [Act.put, List.setIfInBounds_toArray, List.set_cons_succ, List.set_cons_zero, List.cons_append, List.nil_append]
          apply wpO_det
          case hw => rfl
          case h =>
            intro hFm wx hS_ hF_ K hK
            go_big_quiet_op
            first
              | exact hK _ rfl
              | (apply Exists.intro; refine ⟨fun _ => ?_, ?_⟩; (focus (first | (intro hC; have hC := hC.out; (try simp only [hC, Result.andThen]); first | exact ⟨True.intro, rfl⟩ | exact ⟨rfl, rfl⟩ | rfl))); exact hK _ rfl)
          case k =>
          simp only [Act.put, List.setIfInBounds_toArray, List.set_cons_succ, List.set_cons_zero, List.cons_append, List.nil_append]
          refine wpO_nil ?_
          intro w6 hS hF hB
          (try simp [allF] at hF)
          (try simp [List.pairwise_cons] at hB)
          clear hF hB
          go_wp2_with fail
          go_meet
          exact ⟨by rw [HCR.out, hA, hD, hL, hT]; rfl, hS⟩
        case true =>
          apply region_facts 24 (fun w' => Since w5 w')
          case hm => kernel_rfl
          case hB => kernel_rfl
          case hS => exact (Since.rfl_ w5).drew
          case h =>
          simp only [List.take_succ_cons, List.take_zero, List.drop_succ_cons, List.drop_zero]
          apply wpO_det
          case hw => rfl
          case h =>
            intro hFm wx hS_ hF_ K hK
            go_big_quiet_op
            first
              | exact hK _ rfl
              | (apply Exists.intro; refine ⟨fun _ => ?_, ?_⟩; (focus (first | (intro hC; have hC := hC.out; (try simp only [hC, Result.andThen]); first | exact ⟨True.intro, rfl⟩ | exact ⟨rfl, rfl⟩ | rfl))); exact hK _ rfl)
          case k =>
          simp only [Act.put, List.setIfInBounds_toArray, List.set_cons_succ, List.set_cons_zero, List.cons_append, List.nil_append]
          apply wpO_det
          case hw => rfl
          case h =>
            intro hFm wx hS_ hF_ K hK
            go_big_quiet_op
            first
              | exact hK _ rfl
              | (apply Exists.intro; refine ⟨fun _ => ?_, ?_⟩; (focus (first | (intro hC; have hC := KF.out _ hC.out.1; (try simp only [hC, Result.andThen]); first | exact ⟨True.intro, rfl⟩ | exact ⟨rfl, rfl⟩ | rfl))); exact hK _ rfl)
          case k =>
          simp only [Act.put, List.setIfInBounds_toArray, List.set_cons_succ, List.set_cons_zero, List.cons_append, List.nil_append]
          apply wpO_det
          case hw => rfl
          case h =>
            intro hFm wx hS_ hF_ K hK
            go_big_quiet_op
            first
              | exact hK _ rfl
              | (apply Exists.intro; refine ⟨fun _ => ?_, ?_⟩; (focus (first | (intro hC; have hC := hC.out; (try simp only [hC, Result.andThen]); first | exact ⟨True.intro, rfl⟩ | exact ⟨rfl, rfl⟩ | rfl))); exact hK _ rfl)
          case k =>
          simp only [Act.put, List.setIfInBounds_toArray, List.set_cons_succ, List.set_cons_zero, List.cons_append, List.nil_append]
          apply wpO_det
          case hw => rfl
          case h =>
            intro hFm wx hS_ hF_ K hK
            go_big_quiet_op
            first
              | exact hK _ rfl
              | (apply Exists.intro; refine ⟨fun _ => ?_, ?_⟩; (focus (first | (intro hC; have hC := KF.out _ hC.out.1; (try simp only [hC, Result.andThen]); first | exact ⟨True.intro, rfl⟩ | exact ⟨rfl, rfl⟩ | rfl))); exact hK _ rfl)
          case k =>
          simp only [Act.put, List.setIfInBounds_toArray, List.set_cons_succ, List.set_cons_zero, List.cons_append, List.nil_append]
          apply wpO_det
          case hw => rfl
          case h =>
            intro hFm wx hS_ hF_ K hK
            go_big_quiet_op
            first
              | exact hK _ rfl
              | (apply Exists.intro; refine ⟨fun _ => ?_, ?_⟩; (focus (first | (intro hC; have hC := hC.out; (try simp only [hC, Result.andThen]); first | exact ⟨True.intro, rfl⟩ | exact ⟨rfl, rfl⟩ | rfl))); exact hK _ rfl)
          case k =>
          simp only [Act.put, List.setIfInBounds_toArray, List.set_cons_succ, List.set_cons_zero, List.cons_append, List.nil_append]
          apply wpO_det
          case hw => rfl
          case h =>
            intro hFm wx hS_ hF_ K hK
            go_big_quiet_op
            first
              | exact hK _ rfl
              | (apply Exists.intro; refine ⟨fun _ => ?_, ?_⟩; (focus (first | (intro hC; have hC := hC.out; (try simp only [hC, Result.andThen]); first | exact ⟨True.intro, rfl⟩ | exact ⟨rfl, rfl⟩ | rfl))); exact hK _ rfl)
          case k =>
          simp only [Act.put, List.setIfInBounds_toArray, List.set_cons_succ, List.set_cons_zero, List.cons_append, List.nil_append]
          apply wpO_det
          case hw => rfl
          case h =>
            intro hFm wx hS_ hF_ K hK
            go_big_quiet_op
            first
              | exact hK _ rfl
              | (apply Exists.intro; refine ⟨fun _ => ?_, ?_⟩; (focus (first | (intro hC; have hC := KF.out _ hC.out.1; (try simp only [hC, Result.andThen]); first | exact ⟨True.intro, rfl⟩ | exact ⟨rfl, rfl⟩ | rfl))); exact hK _ rfl)
          case k =>
          simp only [Act.put, List.setIfInBounds_toArray, List.set_cons_succ, List.set_cons_zero, List.cons_append, List.nil_append]
          apply wpO_det
          case hw => rfl
          case h =>
            intro hFm wx hS_ hF_ K hK
            go_big_quiet_op
            first
              | exact hK _ rfl
              | (apply Exists.intro; refine ⟨fun _ => ?_, ?_⟩; (focus (first | (intro hC; have hC := hC.out; (try simp only [hC, Result.andThen]); first | exact ⟨True.intro, rfl⟩ | exact ⟨rfl, rfl⟩ | rfl))); exact hK _ rfl)
          case k =>
          simp only [Act.put, List.setIfInBounds_toArray, List.set_cons_succ, List.set_cons_zero, List.cons_append, List.nil_append]
          apply wpO_det
          case hw => rfl
          case h =>
            intro hFm wx hS_ hF_ K hK
            go_big_quiet_op
            first
              | exact hK _ rfl
              | (apply Exists.intro; refine ⟨fun _ => ?_, ?_⟩; (focus (first | (intro hC; have hC := KF.out _ hC.out.1; (try simp only [hC, Result.andThen]); first | exact ⟨True.intro, rfl⟩ | exact ⟨rfl, rfl⟩ | rfl))); exact hK _ rfl)
          case k =>
          simp only [Act.put, List.setIfInBounds_toArray, List.set_cons_succ, List.set_cons_zero, List.cons_append, List.nil_append]
          apply wpO_det
          case hw => rfl
          case h =>
            intro hFm wx hS_ hF_ K hK
            go_big_quiet_op
            first
              | exact hK _ rfl
              | (apply Exists.intro; refine ⟨fun _ => ?_, ?_⟩; (focus (first | (intro hC; have hC := hC.out; (try simp only [hC, Result.andThen]); first | exact ⟨True.intro, rfl⟩ | exact ⟨rfl, rfl⟩ | rfl))); exact hK _ rfl)
          case k =>
          simp only [Act.put, List.setIfInBounds_toArray, List.set_cons_succ, List.set_cons_zero, List.cons_append, List.nil_append]
          apply wpO_det
          case hw => rfl
          case h =>
            intro hFm wx hS_ hF_ K hK
            go_big_quiet_op
            first
              | exact hK _ rfl
              | (apply Exists.intro; refine ⟨fun _ => ?_, ?_⟩; (focus (first | (intro hC; have hC := hC.out; (try simp only [hC, Result.andThen]); first | exact ⟨True.intro, rfl⟩ | exact ⟨rfl, rfl⟩ | rfl))); exact hK _ rfl)
          case k =>
          simp only [Act.put, List.setIfInBounds_toArray, List.set_cons_succ, List.set_cons_zero, List.cons_append, List.nil_append]
          apply wpO_det
          case hw => rfl
          case h =>
            intro hFm wx hS_ hF_ K hK
            go_big_quiet_op
            first
              | exact hK _ rfl
              | (apply Exists.intro; refine ⟨fun _ => ?_, ?_⟩; (focus (first | (intro hC; have hC := hC.out; (try simp only [hC, Result.andThen]); first | exact ⟨True.intro, rfl⟩ | exact ⟨rfl, rfl⟩ | rfl))); exact hK _ rfl)
          case k =>
          simp only [Act.put, List.setIfInBounds_toArray, List.set_cons_succ, List.set_cons_zero, List.cons_append, List.nil_append]
          apply wpO_det
          case hw => rfl
          case h =>
            intro hFm wx hS_ hF_ K hK
            go_big_quiet_op
            first
              | exact hK _ rfl
              | (apply Exists.intro; refine ⟨fun _ => ?_, ?_⟩; (focus (first | (intro hC; have hC := KF.out _ hC.out.1; (try simp only [hC, Result.andThen]); first | exact ⟨True.intro, rfl⟩ | exact ⟨rfl, rfl⟩ | rfl))); exact hK _ rfl)
          case k =>
          simp only [Act.put, List.setIfInBounds_toArray, List.set_cons_succ, List.set_cons_zero, List.cons_append, List.nil_append]
          apply wpO_det
          case hw => rfl
          case h =>
            intro hFm wx hS_ hF_ K hK
            go_big_quiet_op
            first
              | exact hK _ rfl
              | (apply Exists.intro; refine ⟨fun _ => ?_, ?_⟩; (focus (first | (intro hC; have hC := KF.out _ hC.out.1; (try simp only [hC, Result.andThen]); first | exact ⟨True.intro, rfl⟩ | exact ⟨rfl, rfl⟩ | rfl))); exact hK _ rfl)
          case k =>
          simp only [Act.put, List.setIfInBounds_toArray, List.set_cons_succ, List.set_cons_zero, List.cons_append, List.nil_append]
          apply wpO_det
          case hw => rfl
          case h =>
            intro hFm wx hS_ hF_ K hK
            go_big_quiet_op
            first
              | exact hK _ rfl
              | (apply Exists.intro; refine ⟨fun _ => ?_, ?_⟩; (focus (first | (intro hC; have hC := KF.out _ hC.out.1; (try simp only [hC, Result.andThen]); first | exact ⟨True.intro, rfl⟩ | exact ⟨rfl, rfl⟩ | rfl))); exact hK _ rfl)
          case k =>
          simp only [Act.put, List.setIfInBounds_toArray, List.set_cons_succ, List.set_cons_zero, List.cons_append, List.nil_append]
          apply wpO_det
          case hw => rfl
          case h =>
            intro hFm wx hS_ hF_ K hK
            go_big_quiet_op
            first
              | exact hK _ rfl
              | (apply Exists.intro; refine ⟨fun _ => ?_, ?_⟩; (focus (first | (intro hC; go_at_call 37; refine (HTN.out _).mono ?_; rintro e w' ⟨rfl, hb⟩; refine ⟨rfl, ?_⟩; exact cls_call hFm hC hb))); exact hK _ rfl)
          case k =>
          simp only [Act.put, List.setIfInBounds_toArray, List.set_cons_succ, List.set_cons_zero, List.cons_append, List.nil_append]
          apply wpO_det
          case hw => rfl
          case h =>
            intro hFm wx hS_ hF_ K hK
            go_big_quiet_op
            first
              | exact hK _ rfl
              | (apply Exists.intro; refine ⟨fun _ => ?_, ?_⟩; (focus (first | (intro hC; have hC := hC.out; (try simp only [hC, Result.andThen]); first | exact ⟨True.intro, rfl⟩ | exact ⟨rfl, rfl⟩ | rfl))); exact hK _ rfl)
          case k =>
          simp only [Act.put, List.setIfInBounds_toArray, List.set_cons_succ, List.set_cons_zero, List.cons_append, List.nil_append]
          apply wpO_det
          case hw => rfl
          case h =>
            intro hFm wx hS_ hF_ K hK
            go_big_quiet_op
            first
              | exact hK _ rfl
              | (apply Exists.intro; refine ⟨fun _ => ?_, ?_⟩; (focus (first | (intro hC; have hC := hC.out; (try simp only [hC, Result.andThen]); first | exact ⟨True.intro, rfl⟩ | exact ⟨rfl, rfl⟩ | rfl))); exact hK _ rfl)
          case k =>
          simp only [Act.put, List.setIfInBounds_toArray, List.set_cons_succ, List.set_cons_zero, List.cons_append, List.nil_append]
          apply wpO_det
          case hw => rfl
          case h =>
            intro hFm wx hS_ hF_ K hK
            go_big_quiet_op
            first
              | exact hK _ rfl
              | (apply Exists.intro; refine ⟨fun _ => ?_, ?_⟩; (focus (first | (intro hC; have hC := KF.out _ hC.out.1; (try simp only [hC, Result.andThen]); first | exact ⟨True.intro, rfl⟩ | exact ⟨rfl, rfl⟩ | rfl))); exact hK _ rfl)
          case k =>
          simp only [Act.put, List.setIfInBounds_toArray, List.set_cons_succ, List.set_cons_zero, List.cons_append, List.nil_append]
          apply wpO_det
          case hw => rfl
          case h =>
            intro hFm wx hS_ hF_ K hK
            go_big_quiet_op
            first
              | exact hK _ rfl
              | (apply Exists.intro; refine ⟨fun _ => ?_, ?_⟩; (focus (first | (intro hC; have hC := hC.out; (try simp only [hC, Result.andThen]); first | exact ⟨True.intro, rfl⟩ | exact ⟨rfl, rfl⟩ | rfl))); exact hK _ rfl)
          case k =>
          simp only [Act.put, List.setIfInBounds_toArray, List.set_cons_succ, List.set_cons_zero, List.cons_append, List.nil_append]
          apply wpO_det
          case hw => rfl
          case h =>
            intro hFm wx hS_ hF_ K hK
            go_big_quiet_op
            first
              | exact hK _ rfl
              | (apply Exists.intro; refine ⟨fun _ => ?_, ?_⟩; (focus (first | (intro hC; have hC := KF.out _ hC.out.1; (try simp only [hC, Result.andThen]); first | exact ⟨True.intro, rfl⟩ | exact ⟨rfl, rfl⟩ | rfl))); exact hK _ rfl)
          case k =>
          simp only [Act.put, List.setIfInBounds_toArray, List.set_cons_succ, List.set_cons_zero, List.cons_append, List.nil_append]
          apply wpO_det
          case hw => rfl
          case h =>
            intro hFm wx hS_ hF_ K hK
            go_big_quiet_op
            first
              | exact hK _ rfl
              | (apply Exists.intro; refine ⟨fun _ => ?_, ?_⟩; (focus (first | (intro hC; have hC := hC.out; (try simp only [hC, Result.andThen]); first | exact ⟨True.intro, rfl⟩ | exact ⟨rfl, rfl⟩ | rfl))); exact hK _ rfl)
          case k =>
          simp only [Act.put, List.setIfInBounds_toArray, List.set_cons_succ, List.set_cons_zero, List.cons_append, List.nil_append]
          apply wpO_det
          case hw => rfl
          case h =>
            intro hFm wx hS_ hF_ K hK
            go_big_quiet_op
            first
              | exact hK _ rfl
              | (apply Exists.intro; refine ⟨fun _ => ?_, ?_⟩; (focus (first | (intro hC; have hC := hC.out; (try simp only [hC, Result.andThen]); first | exact ⟨True.intro, rfl⟩ | exact ⟨rfl, rfl⟩ | rfl))); exact hK _ rfl)
          case k =>
          simp only [Act.put, List.setIfInBounds_toArray, List.set_cons_succ, List.set_cons_zero, List.cons_append, List.nil_append]
          apply wpO_det
          case hw => rfl
          case h =>
            intro hFm wx hS_ hF_ K hK
            go_big_quiet_op
            first
              | exact hK _ rfl
              | (apply Exists.intro; refine ⟨fun _ => ?_, ?_⟩; (focus (first | (intro hC; have hC := hC.out; (try simp only [hC, Result.andThen]); first | exact ⟨True.intro, rfl⟩ | exact ⟨rfl, rfl⟩ | rfl))); exact hK _ rfl)
          case k =>
          simp only [Act.put, List.setIfInBounds_toArray, List.set_cons_succ, List.set_cons_zero, List.cons_append, List.nil_append]
          refine wpO_nil ?_
          intro w6 hS hF hB
          (try simp [allF] at hF)
          (try simp [List.pairwise_cons] at hB)
          clear hF hB
          go_wp2_with fail
          go_meet
          exact ⟨by rw [HCR.out, hA, hD, hL, hT]; rfl, hS⟩
    case rest =>
      clear KF
      obtain ⟨hcv, hcs⟩ := hcut
      subst hcv
      have HSC := Lib.hid (And.intro (HS5.out.trans hcs) (hcs.blk HBP5.out))
      clear hcs HS5 HBP5 HK5 HK6
      obtain ⟨w7, rfl⟩ : ∃ w7, w7 = wc := ⟨_, rfl⟩
      obtain ⟨cr, HCV⟩ : ∃ cr, Hid (cr = crsB P fr (px, py) g) := ⟨_, rfl⟩
      rw [← HCV.out]
      have HSN : Hid (insI P fr nxn (px, py) h0 (i + 1) = if cr then !insI P fr nxn (px, py) h0 i else insI P fr nxn (px, py) h0 i) := by
        show _ = _
        rw [insI_succ, HCV.out, HGG.out]
      obtain ⟨s, HSI⟩ : ∃ s, Hid (s = insI P fr nxn (px, py) h0 i) := ⟨_, rfl⟩
      rw [← HSI.out] at HSN ⊢
      obtain ⟨m, HMM⟩ : ∃ m, Hid (m = nxn g) := ⟨_, rfl⟩
      have HMI : Hid (m = itN nxn h0 (i + 1)) := by show _ = _; rw [HMM.out, HGG.out]; rfl
      have c1 : w7.cell? ⟨G, 1, none⟩ = some (.slice (some ⟨gH, 0, none⟩) N cH) := by rw [(HSE.out.since HSC.out.1).c1, mkH_len]
      have cn : w7.cell? ⟨gH, g * 4 + 2, none⟩ = some (.int .i64 m) := by
        have := keepC HSC.out.1 _ _ (HN.out g hgN)
        rw [this, HMM.out]
      have c4 := keepC HSC.out.1 _ _ C4.out
      have cc := keepC HSC.out.1 _ _ CC.out
      clear HCR
      rcases Nat.lt_or_ge (i + 1) n with hlt | hge
      · have hne : ¬ m = h0 := by rw [HMI.out]; exact HR.out.2.2 (i + 1) (by omega) hlt
        have hq : ((m : Int) == (h0 : Int)) = false := by rw [beq_eq_false_iff_ne]; omega
        cases cr
        · go_wp2_with fail
          go_roundg (gk - 1)
          case measure => omega
          case rel => exact ⟨i + 1, by omega, hlt, by rw [HSN.out]; rfl, by rw [HMI.out], HSC.out.1, HSC.out.2⟩
        · go_wp2_with fail
          go_roundg (gk - 1)
          case measure => omega
          case rel => exact ⟨i + 1, by omega, hlt, by rw [HSN.out]; rfl, by rw [HMI.out], HSC.out.1, HSC.out.2⟩
      · obtain rfl : i + 1 = n := by omega
        have hmh : m = h0 := by rw [HMI.out]; exact HR.out.2.1
        clear HMM HMI
        subst hmh
        cases cr
        · go_wp2_with fail
          go_ret
          exact ⟨by rw [HRES.out, HSN.out]; rfl, HSC.out.1⟩
        · go_wp2_with fail
          go_ret
          exact ⟨by rw [HRES.out, HSN.out]; rfl, HSC.out.1⟩
end Go.Proofs.Ytdnccjdlmepafaa
end
