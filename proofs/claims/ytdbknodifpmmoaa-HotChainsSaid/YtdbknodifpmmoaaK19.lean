/-
  HotExact's closure, and ContainsFunc with it; HotExact's body; Plain laws of the end of the loop: the edges are sorted, and have at most ends in common; hot.Round of the segments of the stream, none or some; what is known of its edges; The arguments of laws, read as data: lists of numbers, points, boxes, numbers. Conditions: those that each lemma names.
-/
import Derived.Test.YtdbknodifpmmoaaK18
import Derived.Test.YtdbknodifpmmoaaRows
import Derived.Test.YtdbknodifpmmoaaK02
import Derived.ProofKit
import Derived.OpenShut
import Derived.ChangeOld
import Derived.SizedLaws
import Derived.Lib.SmallJoins
import Derived.Deep.SlicePairs
section
namespace Go.Proofs.Ytdbknodifpmmoaa
set_option linter.unusedSimpArgs false
set_option linter.unusedVariables false
open Go.RowKit Go.BigFrame
attribute [local go_sem ↓] eqPt neqPt

set_option maxRecDepth 100000 in
set_option maxHeartbeats 2000000 in
theorem Ex1_any {l : List Sg} {i : Nat} (hi : i < l.length) (hl : l.length ≤ 1000) (p : Pt2) (vs : Value) (gs gi : Nat) (w : World) (ks : Blk w gs 23 #[vs]) (ki : Blk w gi 3 #[.int .i64 i]) (hv : SegsS w vs l) (hon : onV (sgAt l i).1 (sgAt l i).2 p = true) :
    Calls Try.prog 14 #[.agg #[.int .i64 p.1, .int .i64 p.2], .pointer (some ⟨gs, 0, none⟩), .pointer (some ⟨gi, 0, none⟩)] w fun e w' => e = .returned (.bool false) ∧ Since w w' := by
  obtain ⟨a, c, rfl, -, hv⟩ := hv
  obtain ⟨g, o, rfl, h1, h2, h3, h4⟩ := hv i hi
  obtain ⟨s, hs⟩ : ∃ s, s = sgAt l i := ⟨_, rfl⟩
  rw [← hs] at h1 h2 h3 h4 hon
  have HON := Lib.hid (fun w => On_val hon w)
  obtain ⟨n, hn⟩ : ∃ n, n = l.length := ⟨_, rfl⟩
  rw [← hn] at ks hi hl
  have i1 : (0 : Int) ≤ (i : Int) := by omega
  have i2 : (i : Int) < (n : Int) := by omega
  clear hv hs hon hn
  go_enter Try.func14, Try.ntmps14
  go_upto_region 1 with fail
  obtain ⟨G, HG⟩ : ∃ G, G = w.heap.size := ⟨_, rfl⟩
  rw [← HG]
  refine atW (fun w' => Since w w' ∧ Blk w' G 26 #[.int .i64 p.1, .int .i64 p.2]) ⟨(Since.rfl_ w).alloc _, Blk.new' HG⟩ ?_
  clear HG
  rintro w1 ⟨hs, hb⟩
  have ks1 := hs.blk ks
  have ki1 := hs.blk ki
  have h1 := keepC hs _ _ h1
  have h2 := keepC hs _ _ h2
  have h3 := keepC hs _ _ h3
  have h4 := keepC hs _ _ h4
  have HS1 := Lib.hid hs
  have KF := Lib.hid (fun w' (h : Since w1 w') => (show w'.cell? ⟨gs, 0, none⟩ = some (.slice (some ⟨g, o, none⟩) n c) ∧ w'.cell? ⟨gi, 0, none⟩ = some (.int .i64 i) ∧ w'.cell? ⟨g, o + i * 4, none⟩ = some (.int .i64 s.1.1) ∧ w'.cell? ⟨g, o + i * 4 + 1, none⟩ = some (.int .i64 s.1.2) ∧ w'.cell? ⟨g, o + i * 4 + 2, none⟩ = some (.int .i64 s.2.1) ∧ w'.cell? ⟨g, o + i * 4 + 3, none⟩ = some (.int .i64 s.2.2) ∧ w'.cell? ⟨G, 0, none⟩ = some (.int .i64 p.1) ∧ w'.cell? ⟨G, 1, none⟩ = some (.int .i64 p.2) from
    ⟨(h.blk ks1).cell 0, (h.blk ki1).cell 0, keepC h _ _ h1, keepC h _ _ h2, keepC h _ _ h3, keepC h _ _ h4, (h.blk hb).cell 0, (h.blk hb).cell 1⟩))
  clear hs hb ks ki ks1 ki1 h1 h2 h3 h4
  apply region_facts 14 (fun w' => Since w1 w')
  case hm => kernel_rfl
  case hB => kernel_rfl
  case hS => exact (Since.rfl_ w1).drew
  case h =>
  simp only [List.take_succ_cons, List.take_zero, List.drop_succ_cons, List.drop_zero]
  apply wpO_det
  case hw => rfl
  case h =>
    intro hFm wx hS_ hF_ K hK
    go_big_quiet_op
    first
      | exact hK _ rfl
      | (apply Exists.intro; refine ⟨fun _ => ?_, ?_⟩; (focus (first | (intro hC; have hC := KF.out _ hC.out.1; (try simp only [hC, Result.andThen]); first | exact ⟨True.intro, rfl⟩ | exact ⟨rfl, rfl⟩ | rfl))); exact hK _ rfl)
  case k =>
  simp only [Act.put, List.setIfInBounds_toArray, List.set_cons_succ, List.set_cons_zero, List.cons_append, List.nil_append]
  apply wpO_det
  case hw => rfl
  case h =>
    intro hFm wx hS_ hF_ K hK
    go_big_quiet_op
    first
      | exact hK _ rfl
      | (apply Exists.intro; refine ⟨fun _ => ?_, ?_⟩; (focus (first | (intro hC; have hC := KF.out _ hC.out.1; (try simp only [hC, Result.andThen]); first | exact ⟨True.intro, rfl⟩ | exact ⟨rfl, rfl⟩ | rfl))); exact hK _ rfl)
  case k =>
  simp only [Act.put, List.setIfInBounds_toArray, List.set_cons_succ, List.set_cons_zero, List.cons_append, List.nil_append]
  apply wpO_det
  case hw => rfl
  case h =>
    intro hFm wx hS_ hF_ K hK
    go_big_quiet_op
    first
      | exact hK _ rfl
      | (apply Exists.intro; refine ⟨fun _ => ?_, ?_⟩; (focus (first | (intro hC; have hC := hC.out; (try simp only [hC, Result.andThen]); first | exact ⟨True.intro, rfl⟩ | exact ⟨rfl, rfl⟩ | rfl))); exact hK _ rfl)
  case k =>
  simp only [Act.put, List.setIfInBounds_toArray, List.set_cons_succ, List.set_cons_zero, List.cons_append, List.nil_append]
  apply wpO_det
  case hw => rfl
  case h =>
    intro hFm wx hS_ hF_ K hK
    go_big_quiet_op
    first
      | exact hK _ rfl
      | (apply Exists.intro; refine ⟨fun _ => ?_, ?_⟩; (focus (first | (intro hC; have hC := hC.out; (try simp only [hC, Result.andThen]); first | exact ⟨True.intro, rfl⟩ | exact ⟨rfl, rfl⟩ | rfl))); exact hK _ rfl)
  case k =>
  simp only [Act.put, List.setIfInBounds_toArray, List.set_cons_succ, List.set_cons_zero, List.cons_append, List.nil_append]
  apply wpO_det
  case hw => rfl
  case h =>
    intro hFm wx hS_ hF_ K hK
    go_big_quiet_op
    first
      | exact hK _ rfl
      | (apply Exists.intro; refine ⟨fun _ => ?_, ?_⟩; (focus (first | (intro hC; have hC := KF.out _ hC.out.1; (try simp only [hC, Result.andThen]); first | exact ⟨True.intro, rfl⟩ | exact ⟨rfl, rfl⟩ | rfl))); exact hK _ rfl)
  case k =>
  simp only [Act.put, List.setIfInBounds_toArray, List.set_cons_succ, List.set_cons_zero, List.cons_append, List.nil_append]
  apply wpO_det
  case hw => rfl
  case h =>
    intro hFm wx hS_ hF_ K hK
    go_big_quiet_op
    first
      | exact hK _ rfl
      | (apply Exists.intro; refine ⟨fun _ => ?_, ?_⟩; (focus (first | (intro hC; have hC := KF.out _ hC.out.1; (try simp only [hC, Result.andThen]); first | exact ⟨True.intro, rfl⟩ | exact ⟨rfl, rfl⟩ | rfl))); exact hK _ rfl)
  case k =>
  simp only [Act.put, List.setIfInBounds_toArray, List.set_cons_succ, List.set_cons_zero, List.cons_append, List.nil_append]
  apply wpO_det
  case hw => rfl
  case h =>
    intro hFm wx hS_ hF_ K hK
    go_big_quiet_op
    first
      | exact hK _ rfl
      | (apply Exists.intro; refine ⟨fun _ => ?_, ?_⟩; (focus (first | (intro hC; have hC := KF.out _ hC.out.1; (try simp only [hC, Result.andThen]); first | exact ⟨True.intro, rfl⟩ | exact ⟨rfl, rfl⟩ | rfl))); exact hK _ rfl)
  case k =>
  simp only [Act.put, List.setIfInBounds_toArray, List.set_cons_succ, List.set_cons_zero, List.cons_append, List.nil_append]
  apply wpO_det
  case hw => rfl
  case h =>
    intro hFm wx hS_ hF_ K hK
    go_big_quiet_op
    first
      | exact hK _ rfl
      | (apply Exists.intro; refine ⟨fun _ => ?_, ?_⟩; (focus (first | (intro hC; have hC := hC.out; (try simp only [hC, Result.andThen]); first | exact ⟨True.intro, rfl⟩ | exact ⟨rfl, rfl⟩ | rfl))); exact hK _ rfl)
  case k =>
  simp only [Act.put, List.setIfInBounds_toArray, List.set_cons_succ, List.set_cons_zero, List.cons_append, List.nil_append]
  apply wpO_det
  case hw => rfl
  case h =>
    intro hFm wx hS_ hF_ K hK
    go_big_quiet_op
    first
      | exact hK _ rfl
      | (apply Exists.intro; refine ⟨fun _ => ?_, ?_⟩; (focus (first | (intro hC; have hC := hC.out; (try simp only [hC, Result.andThen]); first | exact ⟨True.intro, rfl⟩ | exact ⟨rfl, rfl⟩ | rfl))); exact hK _ rfl)
  case k =>
  simp only [Act.put, List.setIfInBounds_toArray, List.set_cons_succ, List.set_cons_zero, List.cons_append, List.nil_append]
  apply wpO_det
  case hw => rfl
  case h =>
    intro hFm wx hS_ hF_ K hK
    go_big_quiet_op
    first
      | exact hK _ rfl
      | (apply Exists.intro; refine ⟨fun _ => ?_, ?_⟩; (focus (first | (intro hC; have hC := KF.out _ hC.out.1; (try simp only [hC, Result.andThen]); first | exact ⟨True.intro, rfl⟩ | exact ⟨rfl, rfl⟩ | rfl))); exact hK _ rfl)
  case k =>
  simp only [Act.put, List.setIfInBounds_toArray, List.set_cons_succ, List.set_cons_zero, List.cons_append, List.nil_append]
  apply wpO_det
  case hw => rfl
  case h =>
    intro hFm wx hS_ hF_ K hK
    go_big_quiet_op
    first
      | exact hK _ rfl
      | (apply Exists.intro; refine ⟨fun _ => ?_, ?_⟩; (focus (first | (intro hC; have hC := KF.out _ hC.out.1; (try simp only [hC, Result.andThen]); first | exact ⟨True.intro, rfl⟩ | exact ⟨rfl, rfl⟩ | rfl))); exact hK _ rfl)
  case k =>
  simp only [Act.put, List.setIfInBounds_toArray, List.set_cons_succ, List.set_cons_zero, List.cons_append, List.nil_append]
  apply wpO_det
  case hw => rfl
  case h =>
    intro hFm wx hS_ hF_ K hK
    go_big_quiet_op
    first
      | exact hK _ rfl
      | (apply Exists.intro; refine ⟨fun _ => ?_, ?_⟩; (focus (first | (intro hC; go_at_call 15; refine (HON.out _).mono ?_; rintro e w' ⟨rfl, hb⟩; refine ⟨rfl, ?_⟩; exact cls_call hFm hC hb))); exact hK _ rfl)
  case k =>
  simp only [Act.put, List.setIfInBounds_toArray, List.set_cons_succ, List.set_cons_zero, List.cons_append, List.nil_append]
  apply wpO_det
  case hw => rfl
  case h =>
    intro hFm wx hS_ hF_ K hK
    go_big_quiet_op
    first
      | exact hK _ rfl
      | (apply Exists.intro; refine ⟨fun _ => ?_, ?_⟩; (focus (first | (intro hC; have hC := hC.out; (try simp only [hC, Result.andThen]); first | exact ⟨True.intro, rfl⟩ | exact ⟨rfl, rfl⟩ | rfl))); exact hK _ rfl)
  case k =>
  simp only [Act.put, List.setIfInBounds_toArray, List.set_cons_succ, List.set_cons_zero, List.cons_append, List.nil_append]
  apply wpO_det
  case hw => rfl
  case h =>
    intro hFm wx hS_ hF_ K hK
    go_big_quiet_op
    first
      | exact hK _ rfl
      | (apply Exists.intro; refine ⟨fun _ => ?_, ?_⟩; (focus (first | (intro hC; have hC := hC.out; (try simp only [hC, Result.andThen]); first | exact ⟨True.intro, rfl⟩ | exact ⟨rfl, rfl⟩ | rfl))); exact hK _ rfl)
  case k =>
  simp only [Act.put, List.setIfInBounds_toArray, List.set_cons_succ, List.set_cons_zero, List.cons_append, List.nil_append]
  refine wpO_nil ?_
  intro w2 hS hF hB
  (try simp [allF] at hF)
  (try simp [List.pairwise_cons] at hB)
  have HS2 := Lib.hid (HS1.out.trans hS)
  clear hS hF hB
  go_wp2_with fail
  go_ret
  exact ⟨rfl, HS2.out⟩
/-- IndexFunc, ContainsFunc with a closure that says no. -/
theorem IndexEx_any (v : Value) (l : List Pt2) (gs gi : Nat) (w : World) (hl : l.length ≤ 1000000000000000) (hv : PtsS w v l)
    (hc : ∀ i, i < l.length → ∀ w', Since w w' → Calls Try.prog 14 #[.agg #[.int .i64 (pAt l i).1, .int .i64 (pAt l i).2], .pointer (some ⟨gs, 0, none⟩), .pointer (some ⟨gi, 0, none⟩)] w' fun e w'' => e = .returned (.bool false) ∧ Since w' w'') :
    Calls Try.prog 37 #[v, .func (Fn.func 14) #[] #[.pointer (some ⟨gs, 0, none⟩), .pointer (some ⟨gi, 0, none⟩)]] w fun e w' => e = .returned (.int .i64 (-1)) ∧ Since w w' := by
  obtain ⟨a, c, rfl, hv⟩ := hv
  have HV := Lib.hid hv
  have HC := Lib.hid hc
  clear hv hc
  go_enter Try.func37, Try.ntmps37
  go_wp2_with fail
  go_loopw [8] (fun v wr => ∃ k : Nat, k ≤ l.length ∧ v = .int .i64 k ∧ Since w wr) (fun v _ => l.length - (intOf v).toNat)
  case atStart => exact ⟨0, Nat.zero_le _, rfl, Since.rfl_ w⟩
  case round =>
    obtain ⟨k, hk, rfl, hs⟩ := hrel
    rcases Nat.lt_or_ge k l.length with hlt | hge
    · obtain ⟨g, o, ha, e0, e1⟩ := HV.out k hlt
      subst ha
      replace e0 := keepC hs _ _ e0
      replace e1 := keepC hs _ _ e1
      have HS := Lib.hid hs
      clear hs
      have HK := Lib.hid (HC.out k hlt _ HS.out)
      go_wp2_with fail
      refine (HK.out).mono ?_
      rintro e w3 ⟨rfl, hs⟩
      have HS2 := Lib.hid (HS.out.trans hs)
      clear hs HK
      go_wp2
      go_roundw
      case rel => exact ⟨k + 1, by omega, by go_num, HS2.out⟩
      case measure => simp [intOf]; omega
    · have HS := Lib.hid hs
      clear hs
      go_wp2
      go_ret
      exact ⟨rfl, HS.out⟩
theorem ContainsEx_any (v : Value) (l : List Pt2) (gs gi : Nat) (w : World) (hl : l.length ≤ 1000000000000000) (hv : PtsS w v l)
    (hc : ∀ i, i < l.length → ∀ w', Since w w' → Calls Try.prog 14 #[.agg #[.int .i64 (pAt l i).1, .int .i64 (pAt l i).2], .pointer (some ⟨gs, 0, none⟩), .pointer (some ⟨gi, 0, none⟩)] w' fun e w'' => e = .returned (.bool false) ∧ Since w' w'') :
    Calls Try.prog 13 #[v, .func (Fn.func 14) #[] #[.pointer (some ⟨gs, 0, none⟩), .pointer (some ⟨gi, 0, none⟩)]] w fun e w' => e = .returned (.bool false) ∧ Since w w' := by
  have H := Lib.hid hv
  have HC := Lib.hid hc
  obtain ⟨a, c, rfl, -⟩ := hv
  clear hc
  go_enter Try.func13, Try.ntmps13
  go_wp2_with fail
  refine (IndexEx_any _ l gs gi _ hl H.out HC.out).mono ?_
  rintro e w1 ⟨rfl, hs⟩
  have HS := Lib.hid hs
  clear hs
  go_wp2
  go_ret
  exact ⟨rfl, HS.out⟩
end Go.Proofs.Ytdbknodifpmmoaa
end
section
namespace Go.Proofs.Ytdbknodifpmmoaa
set_option linter.unusedSimpArgs false
set_option linter.unusedVariables false
open Go.RowKit Go.BigFrame

def yOf (i : Nat) (x : Sg) : Sg := if i % 2 = 1 then (x.1, (x.1.1, x.2.2)) else (x.1, (x.2.1, x.1.2))
def ysK (m : List Sg) (k : Nat) : List Sg := (List.range k).flatMap fun i => if (yOf i (sgAt m i)).1 = (yOf i (sgAt m i)).2 then [] else [yOf i (sgAt m i)]
theorem ysK_succ (m : List Sg) (k : Nat) : ysK m (k + 1) = ysK m k ++ (if (yOf k (sgAt m k)).1 = (yOf k (sgAt m k)).2 then [] else [yOf k (sgAt m k)]) := by unfold ysK; rw [List.range_succ, List.flatMap_append]; simp
theorem ysK_len (m : List Sg) (k : Nat) : (ysK m k).length ≤ k := by
  induction k with
  | zero => simp [ysK]
  | succ k ih => rw [ysK_succ, List.length_append]; split <;> simp <;> omega
theorem ysK_mem {m : List Sg} {k : Nat} {s : Sg} (h : s ∈ ysK m k) : ∃ i, i < k ∧ s = yOf i (sgAt m i) ∧ s.1 ≠ s.2 := by
  unfold ysK at h
  obtain ⟨i, hi, h⟩ := List.mem_flatMap.1 h
  rw [List.mem_range] at hi
  split at h
  · cases h
  · rename_i hne
    rw [List.mem_singleton] at h
    exact ⟨i, hi, h, by rw [h]; exact hne⟩
theorem mline2 (l : List Int) : lineP l = [(ptOf l).1, mNext [(ptOf l).1] (ptOf (ptOf l).2).1] := by simp [lineP, mlineGo]
/-- The ends of a segment of the stream lie near the origin. -/
theorem segO_bd (l : List Int) : ((-41 ≤ (segO l).1.1 ∧ (segO l).1.1 ≤ 41) ∧ -41 ≤ (segO l).1.2 ∧ (segO l).1.2 ≤ 41) ∧ (-41 ≤ (segO l).2.1 ∧ (segO l).2.1 ≤ 41) ∧ -41 ≤ (segO l).2.2 ∧ (segO l).2.2 ≤ 41 := by
  have h1 := ptOf_bd l
  have h2 := ptOf_bd (ptOf l).2
  have e1 : (segO l).1 = (ptOf l).1 := by unfold segO; rw [mline2]; rfl
  have e2 : (segO l).2 = mNext [(ptOf l).1] (ptOf (ptOf l).2).1 := by unfold segO; rw [mline2]; rfl
  rw [e1, e2]
  unfold mNext
  split <;> (try dsimp only) <;> omega
theorem segsK_at {l : List Int} {k i : Nat} (h : i < k) : sgAt (segsK l k) i = segO (restS i l) := by simp [sgAt, segsK, List.getD, h]
/-- The segments of HotExact are valid and parallel to the axes. -/
theorem ys_ok (l : List Int) : (∀ s ∈ ysK (msegs l) (msegs l).length, SgOk s) ∧ ∀ s ∈ ysK (msegs l) (msegs l).length, s.1.1 = s.2.1 ∨ s.1.2 = s.2.2 := by
  have key : ∀ s ∈ ysK (msegs l) (msegs l).length, SgOk s ∧ (s.1.1 = s.2.1 ∨ s.1.2 = s.2.2) := fun s hs => by
    obtain ⟨i, hi, e, hne⟩ := ysK_mem hs
    have hi' : i < min (l.length / 4) 12 := by unfold msegs at hi; rwa [segsK_len] at hi
    have hb := segO_bd (restS i l)
    have ha : sgAt (msegs l) i = segO (restS i l) := segsK_at hi'
    rw [ha] at e
    unfold yOf at e
    unfold SgOk
    rw [okP_iff, okP_iff]
    split at e <;> subst e <;> refine ⟨⟨?_, ?_, hne⟩, ?_⟩ <;> dsimp only <;> omega
  exact ⟨fun s hs => (key s hs).1, fun s hs => (key s hs).2⟩
/-- At most 12 segments have few hot points. -/
theorem few_hot {l : List Sg} (h : l.length ≤ 12) : (hotL (edgL (cs0 l))).length ≤ 1000 := by
  have hE : (edgL (cs0 l)).length ≤ 12 := by
    unfold edgL
    have h1 := cmpG_le (srtG (edgA (cs0 l) (cs0 l).length))
    have h2 : (srtG (edgA (cs0 l) (cs0 l).length)).length = (edgA (cs0 l) (cs0 l).length).length := by unfold srtG; simp
    have h3 := edgA_len (cs := cs0 l) (M := 1) (fun i hi => by rw [cs0_at (by simpa [cs0] using hi)]; simp) (cs0 l).length (Nat.le_refl _)
    have h4 : (cs0 l).length = l.length := by simp [cs0]
    omega
  have h1 := outS_len (edgL (cs0 l)) 12 (edgL (cs0 l)).length hE
  have h2 : (hotL (edgL (cs0 l))).length ≤ (outS (edgL (cs0 l)) (edgL (cs0 l)).length).length := hull_len_le fun p hp => hp
  have h3 := Nat.mul_le_mul_right (12 + 2) hE
  omega
end Go.Proofs.Ytdbknodifpmmoaa
end
section
namespace Go.Proofs.Ytdbknodifpmmoaa
set_option linter.unusedSimpArgs false
set_option linter.unusedVariables false

/-- Segments in their order, each one once. -/
def SrtG (E : List Sg) : Prop := E.Pairwise fun x y => lxG x y = true
theorem snocG_srt : ∀ (l acc : List Sg), (∀ x ∈ acc, ∀ y ∈ l, lxG y x = false) → (l.Pairwise fun x y => lxG y x = false) → SrtG acc → SrtG (l.foldl snocG acc)
  | [], _, _, _, h => h
  | p :: l, acc, h1, h2, h3 => by
    rw [List.foldl_cons]
    rw [List.pairwise_cons] at h2
    have key : SrtG (snocG acc p) := by
      unfold snocG
      split
      · unfold SrtG; simp
      · split
        · exact h3
        · rename_i h0 hne
          rcases List.eq_nil_or_concat acc with e | ⟨I, L, e⟩
          · rw [e] at h0; exact absurd rfl h0
          · rw [List.concat_eq_append] at e
            subst e
            rw [lastG_snoc] at hne
            unfold SrtG at *
            rw [List.pairwise_append]
            refine ⟨h3, by simp, fun x hx y hy => ?_⟩
            rw [List.mem_singleton.1 hy]
            have a := h1 x hx p (by simp)
            have b := h1 L (by simp) p (by simp)
            rcases lxG_tri x p with t | t | t
            · exact t
            · exfalso
              rcases List.mem_append.1 hx with k | k
              · have := (List.pairwise_append.1 h3).2.2 x k L (by simp)
                rw [t, b] at this; cases this
              · rw [List.mem_singleton] at k; exact hne (by rw [← t, k])
            · rw [t] at a; cases a
    refine snocG_srt l _ (fun x hx y hy => ?_) h2.2 key
    rcases snocG_mem.1 hx with k | k
    · exact h1 x k y (List.mem_cons_of_mem _ hy)
    · rw [k]; exact h2.1 y hy
theorem srtG_pw (l : List Sg) : (srtG l).Pairwise fun x y => lxG y x = false := by
  unfold srtG
  refine (List.pairwise_mergeSort ?_ ?_ l).imp fun {x y} h => by simpa using h
  · intro a b c h1 h2
    simp only [Bool.not_eq_true'] at *
    rw [Bool.eq_false_iff]; intro e
    rcases lxG_tri a b with k | k | k
    · have := lxG_trans e k; rw [h2] at this; cases this
    · rw [← k] at h2; rw [h2] at e; cases e
    · rw [h1] at k; cases k
  · intro a b
    rcases lxG_tri a b with k | k | k
    · have : lxG b a = false := by
        rw [Bool.eq_false_iff]; intro e
        have := lxG_trans k e; rw [lxG_irr] at this; cases this
      rw [this]; rfl
    · rw [k, lxG_irr]; rfl
    · have : lxG a b = false := by
        rw [Bool.eq_false_iff]; intro e
        have := lxG_trans k e; rw [lxG_irr] at this; cases this
      rw [this]; simp
theorem edg_srt (cs : List (List Pt2)) : SrtG (edgL cs) := by
  unfold edgL cmpG
  exact snocG_srt _ _ (by simp) (srtG_pw _) (by unfold SrtG; simp)
theorem srtG_ext : ∀ {X Y : List Sg}, SrtG X → SrtG Y → (∀ x, x ∈ X ↔ x ∈ Y) → X = Y
  | [], [], _, _, _ => rfl
  | [], y :: Y, _, _, h => by have := (h y).2 (by simp); cases this
  | x :: X, [], _, _, h => by have := (h x).1 (by simp); cases this
  | x :: X, y :: Y, hX, hY, h => by
    unfold SrtG at hX hY
    rw [List.pairwise_cons] at hX hY
    have asy : ∀ {a b : Sg}, lxG a b = true → lxG b a = true → False := fun {a b} p q => by
      have := lxG_trans p q; rw [lxG_irr] at this; cases this
    have e : x = y := by
      rcases List.mem_cons.1 ((h x).1 (by simp)) with a | a
      · exact a
      · rcases List.mem_cons.1 ((h y).2 (by simp)) with b | b
        · exact b.symm
        · exact (asy (hX.1 y b) (hY.1 x a)).elim
    subst e
    congr 1
    refine srtG_ext hX.2 hY.2 fun z => ⟨fun hz => ?_, fun hz => ?_⟩
    · rcases List.mem_cons.1 ((h z).1 (by simp [hz])) with b | b
      · rw [b] at hz; exact (asy (hX.1 _ hz) (hX.1 _ hz)).elim
      · exact b
    · rcases List.mem_cons.1 ((h z).2 (by simp [hz])) with b | b
      · rw [b] at hz; exact (asy (hY.1 _ hz) (hY.1 _ hz)).elim
      · exact b
/-- Edges depend on the set of pieces alone. -/
theorem edg_ext {cs ds : List (List Pt2)} (h : ∀ s, s ∈ edgL cs ↔ s ∈ edgL ds) : edgL cs = edgL ds := srtG_ext (edg_srt _) (edg_srt _) h

theorem metB_rev {a b p : Pt2} (ha : okP a.1 a.2 = true) (hb : okP b.1 b.2 = true) (hp : okP p.1 p.2 = true) : metB a b p = metB b a p := by
  rw [Bool.eq_iff_iff, met_iff ha hb hp, met_iff hb ha hp]
  constructor
  · rintro ⟨t, h1, h2⟩; exact ⟨1 - t, I01_rev h1, by rw [← lerp_rev]; exact h2⟩
  · rintro ⟨t, h1, h2⟩; exact ⟨1 - t, I01_rev h1, by rw [← lerp_rev]; exact h2⟩
/-- The lengths stand: so do the chains. -/
theorem fixed_of {cs : List (List Pt2)} (h : Inv cs) (hl : lensC (stepC cs) = lensC cs) : stepC cs = cs := by
  unfold lensC stepC at hl
  rw [List.map_map] at hl
  have hl := List.map_inj_left.1 hl
  unfold stepC
  refine (List.map_congr_left (g := id) fun C hC => ?_).trans (List.map_id _)
  exact next_same (hot_ok h.eok) (h.chain hC) (hl C hC)
theorem fix_two {H : List Pt2} (hH : HotOk H) : ∀ {C : List Pt2}, ChainOk H C → nextC H C = C → ∀ p q, Adj C p q → thrL p q H = [p, q]
  | [], h, _, _, _, _ => absurd rfl h.ne
  | [x], h, _, p, q, ⟨u, v, e⟩ => by
    have : ([x] : List Pt2).length = 1 := rfl
    rw [e] at this; simp at this; omega
  | x :: y :: r, h, hf, p, q, k => by
    obtain ⟨m, hm⟩ := h.ends hH
    have hl := congrArg List.length hf
    rw [nextC_cons hm] at hl hf
    have h2 := next_len hH h.tail
    simp only [List.length_append, List.length_cons] at hl h2
    have hm0 : m = [] := List.length_eq_zero_iff.1 (by omega)
    subst hm0
    rcases adj_cons k with ⟨rfl, rfl⟩ | k
    · exact hm
    · refine fix_two hH h.tail ?_ p q k
      simpa using hf
/-- A piece of the end: no other hot pixel is met. -/
theorem fix_org {cs : List (List Pt2)} (h : Inv cs) (hf : stepC cs = cs) {s : Sg} (hs : s ∈ edgL cs) :
    ∃ p q, (s = (p, q) ∨ s = (q, p)) ∧ thrL p q (hotL (edgL cs)) = [p, q] ∧ ((p, q) ∈ edgL cs ∨ (q, p) ∈ edgL cs) ∧ okP p.1 p.2 = true ∧ okP q.1 q.2 = true ∧ p ≠ q := by
  have hH := hot_ok h.eok
  obtain ⟨C, hC, p, q, k, rfl⟩ := edg_mem.1 hs
  have hfC : nextC (hotL (edgL cs)) C = C := by
    have : cs.map (nextC (hotL (edgL cs))) = cs.map id := by rw [List.map_id]; exact hf
    exact List.map_inj_left.1 this C hC
  refine ⟨p, q, ordE_cases p q, fix_two hH (h.chain hC) hfC p q k, ?_, h.ok C hC p (adj_mem k).1, h.ok C hC q (adj_mem k).2, h.adj C hC p q k⟩
  rcases ordE_cases p q with e | e <;> rw [e] at hs
  · exact .inl hs
  · exact .inr hs
theorem fix_edge {cs : List (List Pt2)} (h : Inv cs) (hf : stepC cs = cs) {s : Sg} (hs : s ∈ edgL cs) {x : Pt2} (hx : x ∈ hotL (edgL cs)) {t : Rat} (ht : I01 t) (hi : inP (toQ x) (lerp (toQ s.1) (toQ s.2) t)) : x = s.1 ∨ x = s.2 := by
  have hH := hot_ok h.eok
  obtain ⟨p, q, e, k, -, op, oq, -⟩ := fix_org h hf hs
  have key : ∀ {t : Rat}, I01 t → inP (toQ x) (lerp (toQ p) (toQ q) t) → x = p ∨ x = q := fun {t} ht hi => by
    have hm := thr_mem.2 ⟨hx, (met_iff op oq (hH.ok x hx)).2 ⟨t, ht, hi⟩⟩
    rw [k] at hm
    simpa using hm
  rcases e with rfl | rfl
  · exact key ht hi
  · rw [lerp_rev] at hi
    exact (key (I01_rev ht) hi).symm
theorem fix_apart {cs : List (List Pt2)} (h : Inv cs) (hf : stepC cs = cs) {s t : Sg} (hs : s ∈ edgL cs) (ht : t ∈ edgL cs) (n1 : t.1 ≠ s.1) (n2 : t.1 ≠ s.2) (n3 : t.2 ≠ s.1) (n4 : t.2 ≠ s.2) : ¬ segI (toQ s.1) (toQ s.2) (toQ t.1) (toQ t.2) := by
  intro hseg
  have hH := hot_ok h.eok
  obtain ⟨p, q, e1, k1, m1, oa, ob, nab⟩ := fix_org h hf hs
  obtain ⟨r, u, e2, k2, m2, oc, od, ncd⟩ := fix_org h hf ht
  have hX := hot_common h.eok m1 m2
  have a1 : Adj (thrL p q (hotL (edgL cs))) p q := by rw [k1]; exact ⟨[], [], rfl⟩
  have a2 : Adj (thrL r u (hotL (edgL cs))) r u := by rw [k2]; exact ⟨[], [], rfl⟩
  rcases e1 with rfl | rfl <;> rcases e2 with rfl | rfl
  · exact pieces_apart hH oa ob oc od nab a1 a2 n1 n2 n3 n4 hX hseg
  · exact pieces_apart hH oa ob oc od nab a1 a2 n3 n4 n1 n2 hX (segI_rev2 hseg)
  · exact pieces_apart hH oa ob oc od nab a1 a2 n2 n1 n4 n3 hX (segI_rev hseg)
  · exact pieces_apart hH oa ob oc od nab a1 a2 n4 n3 n2 n1 hX (segI_rev2 (segI_rev hseg))
/-- What is on a segment is a point of it. -/
theorem onV_lerp {a b p : Pt2} (ha : okP a.1 a.2 = true) (hb : okP b.1 b.2 = true) (hp : okP p.1 p.2 = true) (hne : a ≠ b) (h : onV a b p = true) : ∃ t, I01 t ∧ toQ p = lerp (toQ a) (toQ b) t := by
  obtain ⟨hc, hd⟩ := onV_ok ha hb hp h
  obtain ⟨n, hn⟩ : ∃ n : Int, n = (p.1 - a.1) * (b.1 - a.1) + (p.2 - a.2) * (b.2 - a.2) := ⟨_, rfl⟩
  obtain ⟨D, hD⟩ : ∃ D : Int, D = (b.1 - a.1) * (b.1 - a.1) + (b.2 - a.2) * (b.2 - a.2) := ⟨_, rfl⟩
  unfold crs crossV at hc
  have e1 : D * (p.1 - a.1) = n * (b.1 - a.1) := by rw [hn, hD]; grind
  have e2 : D * (p.2 - a.2) = n * (b.2 - a.2) := by rw [hn, hD]; grind
  have s1 := sq_nn (b.1 - a.1)
  have s2 := sq_nn (b.2 - a.2)
  have hD0 : 0 < D := by
    rcases Int.lt_or_eq_of_le (show 0 ≤ D by omega) with k | k
    · exact k
    · exfalso
      have z1 : (b.1 - a.1) * (b.1 - a.1) = 0 := by omega
      have z2 : (b.2 - a.2) * (b.2 - a.2) = 0 := by omega
      have y1 : b.1 - a.1 = 0 := by rcases Int.mul_eq_zero.1 z1 with y | y <;> exact y
      have y2 : b.2 - a.2 = 0 := by rcases Int.mul_eq_zero.1 z2 with y | y <;> exact y
      exact hne (Prod.ext (by omega) (by omega))
  have e3 : D * ((a.1 - p.1) * (b.1 - p.1) + (a.2 - p.2) * (b.2 - p.2)) = -(n * (D - n)) := by grind
  have e4 : 0 ≤ n * (D - n) := by
    have : D * ((a.1 - p.1) * (b.1 - p.1) + (a.2 - p.2) * (b.2 - p.2)) ≤ 0 := Int.mul_nonpos_of_nonneg_of_nonpos (by omega) hd
    omega
  have n0 : 0 ≤ n := by
    refine Classical.byContradiction fun k => ?_
    have := Int.mul_neg_of_neg_of_pos (a := n) (b := D - n) (by omega) (by omega)
    omega
  have n1 : n ≤ D := by
    refine Classical.byContradiction fun k => ?_
    have := Int.mul_neg_of_pos_of_neg (a := n) (b := D - n) (by omega) (by omega)
    omega
  have q0 : (0 : Rat) ≤ (n : Rat) := Rat.intCast_nonneg.2 n0
  have q1 : (n : Rat) ≤ (D : Rat) := Rat.intCast_le_intCast.2 n1
  have qD : (0 : Rat) < (D : Rat) := castPos.2 hD0
  have g1 : (D : Rat) * ((p.1 : Rat) - a.1) = (n : Rat) * ((b.1 : Rat) - a.1) := by have := congrArg (fun z : Int => (z : Rat)) e1; push_cast at this; exact this
  have g2 : (D : Rat) * ((p.2 : Rat) - a.2) = (n : Rat) * ((b.2 : Rat) - a.2) := by have := congrArg (fun z : Int => (z : Rat)) e2; push_cast at this; exact this
  obtain ⟨i, hi⟩ := inv_ (show (D : Rat) ≠ 0 by grind)
  have hip : 0 ≤ i := by
    refine Classical.byContradiction fun k => ?_
    have := Rat.mul_nonneg (a := -i) (b := (D : Rat)) (by grind) (by grind)
    grind
  refine ⟨n * i, ⟨Rat.mul_nonneg q0 hip, ?_⟩, ?_⟩
  · have := Rat.mul_nonneg (a := (D : Rat) - n) (b := i) (by grind) hip
    grind
  · unfold lerp toQ
    apply Prod.ext <;> dsimp only
    · have : ((p.1 : Rat) - a.1) = (i * D) * ((p.1 : Rat) - a.1) := by rw [hi]; grind
      grind
    · have : ((p.2 : Rat) - a.2) = (i * D) * ((p.2 : Rat) - a.2) := by rw [hi]; grind
      grind
/-- Two segments that cross have a point in common. -/
theorem cross_segI {p q r s : Pt2} (hprop : cmpI (crs p q r) 0 * cmpI (crs p q s) 0 < 0 ∧ cmpI (crs r s p) 0 * cmpI (crs r s q) 0 < 0) : segI (toQ p) (toQ q) (toQ r) (toQ s) := by
  have h1 := cmp_mul hprop.1
  have h2 := cmp_mul hprop.2
  have hD : crs r s p - crs r s q ≠ 0 := by omega
  have hid : crs p q r - crs p q s = -(crs r s p - crs r s q) := by unfold crs crossV; grind
  have hDq : ((crs r s p : Int) : Rat) - ((crs r s q : Int) : Rat) ≠ 0 := fun k => hD (by have := castNe hD; push_cast at this; exact absurd k this)
  obtain ⟨i, hi⟩ := inv_ hDq
  have e0 : ((crs p q r : Int) : Rat) - ((crs p q s : Int) : Rat) = -(((crs r s p : Int) : Rat) - ((crs r s q : Int) : Rat)) := by
    have := congrArg (fun z : Int => (z : Rat)) hid
    push_cast at this; exact this
  obtain ⟨N, hN⟩ : ∃ N : Rat, N = ((crs r s p : Int) : Rat) := ⟨_, rfl⟩
  obtain ⟨K, hK⟩ : ∃ K : Rat, K = ((crs r s q : Int) : Rat) := ⟨_, rfl⟩
  obtain ⟨M, hM⟩ : ∃ M : Rat, M = ((crs p q r : Int) : Rat) := ⟨_, rfl⟩
  obtain ⟨L, hL⟩ : ∃ L : Rat, L = ((crs p q s : Int) : Rat) := ⟨_, rfl⟩
  rw [← hN, ← hK] at hDq hi
  rw [← hN, ← hK, ← hM, ← hL] at e0
  have sN : (N < 0 ∧ 0 < K) ∨ (0 < N ∧ K < 0) := by
    rw [hN, hK]
    rcases h2 with h | h
    · exact .inl ⟨castNeg.2 h.1, castPos.2 h.2⟩
    · exact .inr ⟨castPos.2 h.1, castNeg.2 h.2⟩
  have sM : (M < 0 ∧ 0 < L) ∨ (0 < M ∧ L < 0) := by
    rw [hM, hL]
    rcases h1 with h | h
    · exact .inl ⟨castNeg.2 h.1, castPos.2 h.2⟩
    · exact .inr ⟨castPos.2 h.1, castNeg.2 h.2⟩
  have in01 : ∀ {x y j : Rat}, j * (x - y) = 1 → ((x < 0 ∧ 0 < y) ∨ (0 < x ∧ y < 0)) → I01 (x * j) := fun {x y j} hj h => by
    unfold I01
    rcases h with h | h
    · have jn : j < 0 := by
        refine Classical.byContradiction fun k => ?_
        have := Rat.mul_nonneg (a := j) (b := y - x) (by grind) (by grind)
        grind
      have p1 := Rat.mul_pos (a := -x) (b := -j) (by grind) (by grind)
      have p2 := Rat.mul_pos (a := y) (b := -j) h.2 (by grind)
      exact ⟨by grind, by grind⟩
    · have jp : 0 < j := by
        refine Classical.byContradiction fun k => ?_
        have := Rat.mul_nonneg (a := -j) (b := x - y) (by grind) (by grind)
        grind
      have p1 := Rat.mul_pos (a := x) (b := j) h.1 jp
      have p2 := Rat.mul_pos (a := -y) (b := j) (by grind) jp
      exact ⟨by grind, by grind⟩
  refine ⟨N * i, M * -i, in01 hi sN, in01 (by grind) sM, ?_⟩
  have c1 := hN
  have c2 := hK
  have c3 := hM
  rw [crsQ] at c1 c2 c3
  unfold lerp toQ
  apply Prod.ext <;> dsimp only
  · have : (((p.1 : Rat) + N * i * ((q.1 : Rat) - p.1)) - ((r.1 : Rat) + M * -i * ((s.1 : Rat) - r.1))) * (N - K) = 0 := by
      have : (((p.1 : Rat) + N * i * ((q.1 : Rat) - p.1)) - ((r.1 : Rat) + M * -i * ((s.1 : Rat) - r.1))) * (N - K) = ((p.1 : Rat) - r.1) * (N - K) + (i * (N - K)) * (N * ((q.1 : Rat) - p.1) + M * ((s.1 : Rat) - r.1)) := by grind
      rw [this, hi, c1, c2, c3]; grind
    rcases Rat.mul_eq_zero.1 this with h | h
    · grind
    · exact absurd h hDq
  · have : (((p.2 : Rat) + N * i * ((q.2 : Rat) - p.2)) - ((r.2 : Rat) + M * -i * ((s.2 : Rat) - r.2))) * (N - K) = 0 := by
      have : (((p.2 : Rat) + N * i * ((q.2 : Rat) - p.2)) - ((r.2 : Rat) + M * -i * ((s.2 : Rat) - r.2))) * (N - K) = ((p.2 : Rat) - r.2) * (N - K) + (i * (N - K)) * (N * ((q.2 : Rat) - p.2) + M * ((s.2 : Rat) - r.2)) := by grind
      rw [this, hi, c1, c2, c3]; grind
    rcases Rat.mul_eq_zero.1 this with h | h
    · grind
    · exact absurd h hDq
/-- Segments that meet have a point in common. -/
theorem meet_segI {p q r s : Pt2} (hp : okP p.1 p.2 = true) (hq : okP q.1 q.2 = true) (hr : okP r.1 r.2 = true) (hs : okP s.1 s.2 = true) (npq : p ≠ q) (nrs : r ≠ s) (hm : smeetV p q r s ≠ 0) : segI (toQ p) (toQ q) (toQ r) (toQ s) := by
  by_cases hl : sharedL p q r s = []
  · unfold smeetV at hm
    split at hm
    · rename_i k
      rw [turn_crs hp hq hr, turn_crs hp hq hs, turn_crs hr hs hp, turn_crs hr hs hq] at k
      exact cross_segI k
    · rw [hl] at hm; exact absurd rfl hm
  · obtain ⟨x, hx⟩ := List.exists_mem_of_ne_nil _ hl
    have z0 : I01 0 := by unfold I01; grind
    have z1 : I01 1 := by unfold I01; grind
    rcases sharedL_mem hx with ⟨rfl, k⟩ | ⟨rfl, k⟩ | ⟨rfl, k⟩ | ⟨rfl, k⟩
    · obtain ⟨t, ht, e⟩ := onV_lerp hr hs hp nrs k; exact ⟨0, t, z0, ht, by rw [lerp0]; exact e⟩
    · obtain ⟨t, ht, e⟩ := onV_lerp hr hs hq nrs k; exact ⟨1, t, z1, ht, by rw [lerp1]; exact e⟩
    · obtain ⟨t, ht, e⟩ := onV_lerp hp hq hr npq k; exact ⟨t, 0, ht, z0, by rw [lerp0]; exact e.symm⟩
    · obtain ⟨t, ht, e⟩ := onV_lerp hp hq hs npq k; exact ⟨t, 1, ht, z1, by rw [lerp1]; exact e.symm⟩
theorem ord_lx (p q : Pt2) (h : p ≠ q) : lx (ordE p q).1 (ordE p q).2 := by
  have := cmpP_lt p q
  unfold ordE
  split
  · rename_i k
    rcases lx_tri p q with a | a | a
    · have : cmpP p q < 0 := by
        have e := cmpP_lt p q
        rw [lxB_lx.2 a] at e
        unfold Go.Proofs.ltOf at e
        simpa using e
      omega
    · exact absurd a h
    · exact a
  · rename_i k
    rcases lx_tri p q with a | a | a
    · exact a
    · exact absurd a h
    · exfalso
      apply k
      have e := cmpP_lt q p
      rw [lxB_lx.2 a] at e
      unfold Go.Proofs.ltOf at e
      have e : cmpP q p < 0 := by simpa using e
      unfold cmpP cmpI at e ⊢
      repeat' split at e
      all_goals (repeat' split) <;> omega
theorem edg_lx {cs : List (List Pt2)} (h : Inv cs) {s : Sg} (hs : s ∈ edgL cs) : lx s.1 s.2 := by
  obtain ⟨C, hC, p, q, k, rfl⟩ := edg_mem.1 hs
  exact ord_lx p q (h.adj C hC p q k)
/-- Of two different edges of the end: at most one common point, which is an end of both. -/
theorem fix_meet {cs : List (List Pt2)} (h : Inv cs) (hf : stepC cs = cs) {s t : Sg} (hs : s ∈ edgL cs) (ht : t ∈ edgL cs) (hne : s ≠ t) :
    smeetV s.1 s.2 t.1 t.2 ≤ 1 ∧ (smeetV s.1 s.2 t.1 t.2 = 1 → t.1 = s.1 ∨ t.1 = s.2 ∨ t.2 = s.1 ∨ t.2 = s.2) := by
  have os := h.eok s hs
  have ot := h.eok t ht
  have ls := edg_lx h hs
  have lt := edg_lx h ht
  constructor
  · unfold smeetV
    split
    · omega
    · suffices (sharedL s.1 s.2 t.1 t.2).length ≤ 1 by omega
      refine Classical.byContradiction fun k => ?_
      have z0 : I01 0 := by unfold I01; grind
      have z1 : I01 1 := by unfold I01; grind
      have key : ∀ x ∈ sharedL s.1 s.2 t.1 t.2, (x = s.1 ∨ x = s.2) ∧ (x = t.1 ∨ x = t.2) := fun x hx => by
        rcases sharedL_mem hx with ⟨rfl, o⟩ | ⟨rfl, o⟩ | ⟨rfl, o⟩ | ⟨rfl, o⟩
        · obtain ⟨u, hu, e⟩ := onV_lerp ot.1 ot.2.1 os.1 ot.2.2 o
          exact ⟨.inl rfl, fix_edge h hf ht (hot_end hs).1 hu (by rw [← e]; exact in_self _)⟩
        · obtain ⟨u, hu, e⟩ := onV_lerp ot.1 ot.2.1 os.2.1 ot.2.2 o
          exact ⟨.inr rfl, fix_edge h hf ht (hot_end hs).2 hu (by rw [← e]; exact in_self _)⟩
        · obtain ⟨u, hu, e⟩ := onV_lerp os.1 os.2.1 ot.1 os.2.2 o
          exact ⟨fix_edge h hf hs (hot_end ht).1 hu (by rw [← e]; exact in_self _), .inl rfl⟩
        · obtain ⟨u, hu, e⟩ := onV_lerp os.1 os.2.1 ot.2.1 os.2.2 o
          exact ⟨fix_edge h hf hs (hot_end ht).2 hu (by rw [← e]; exact in_self _), .inr rfl⟩
      have hnd := sharedL_nodup s.1 s.2 t.1 t.2
      obtain ⟨L, hL⟩ : ∃ L, L = sharedL s.1 s.2 t.1 t.2 := ⟨_, rfl⟩
      rw [← hL] at k key hnd
      rcases L with _ | ⟨x, _ | ⟨y, L⟩⟩
      · simp at k
      · simp at k
      · have kx := key x (by simp)
        have ky := key y (by simp)
        have nxy : x ≠ y := by
          intro e; rw [e] at hnd; simp at hnd
        have no : ∀ {a b : Pt2}, lx a b → lx b a → False := fun h k => lx_asy h k
        apply hne
        rcases kx with ⟨rfl | rfl, a | a⟩ <;> rcases ky with ⟨rfl | rfl, b | b⟩
        all_goals first
          | exact absurd rfl nxy
          | exact absurd (a.trans b.symm) nxy
          | exact Prod.ext a b
          | exact Prod.ext b a
          | (rw [a, b] at ls; exact (no ls lt).elim)
  · intro hm
    refine Classical.byContradiction fun k => ?_
    exact fix_apart h hf hs ht (fun e => k (.inl e)) (fun e => k (.inr (.inl e))) (fun e => k (.inr (.inr (.inl e)))) (fun e => k (.inr (.inr (.inr e)))) (meet_segI os.1 os.2.1 ot.1 ot.2.1 os.2.2 ot.2.2 (by omega))
end Go.Proofs.Ytdbknodifpmmoaa
end
section
namespace Go.Proofs.Ytdbknodifpmmoaa
set_option linter.unusedSimpArgs false
set_option linter.unusedVariables false
open Go.RowKit Go.BigFrame
attribute [local go_sem ↓] eqPt neqPt

/-- A slice of segments; that of none is nil. -/
def SegsN (w : World) (v : Value) (m : List Sg) : Prop := (m = [] → v = .slice none 0 0) ∧ (m ≠ [] → SegsS w v m)
theorem SegsN.slice {w : World} {v : Value} {m : List Sg} (h : SegsN w v m) : ∃ a c, v = .slice a m.length c := by
  by_cases hm : m = []
  · exact ⟨none, 0, by rw [h.1 hm, hm]; rfl⟩
  · obtain ⟨a, c, hv, -⟩ := h.2 hm
    exact ⟨a, c, hv⟩
theorem SegsN.since {w w' : World} {v : Value} {m : List Sg} (h : SegsN w v m) (hs : Since w w') : SegsN w' v m := ⟨h.1, fun k => (h.2 k).since hs⟩
theorem own_segsN {w : World} {B : Nat} {v : Value} {L : List Sg} (h : w.ownsRow B 27 4 v L.length (L.flatMap sgV)) (hn : L = [] → v = .slice none 0 0) : SegsN w v L :=
  ⟨hn, fun k => own_segs h (List.length_pos_iff.2 k)⟩
/-- The rounded segments. -/
def IsRnd (m E : List Sg) : Prop := (m = [] ∧ E = []) ∨ (m ≠ [] ∧ ∃ N, RunC (cs0 m) N ∧ E = edgL (iterC (N + 1) (cs0 m)))
theorem Round_nil (w : World) : Calls Try.prog 17 #[.slice none 0 0] w fun e w' => e = .returned (.tuple #[.slice none 0 0, .int .i64 0]) ∧ Since w w' := by
  go_enter Try.func17, Try.ntmps17
  go_wp2_with fail
  refine (chains_nil _).mono ?_
  rintro e w1 ⟨g, rfl, hs⟩
  have HS1 := Lib.hid hs
  clear hs
  go_wp2_with fail
  refine (edges_nil _ _ _).mono ?_
  rintro e w2 ⟨rfl, hs⟩
  have HS2 := Lib.hid (HS1.out.trans hs)
  clear hs HS1
  go_wp2_with fail
  refine bodyPost_ret (v := .tuple #[.slice none 0 0, .int .i64 0]) (by simp [results, Try.results17, go_sem, cSetS, cSetO, cellDrew, go_sem]) rfl ⟨rfl, HS2.out⟩
theorem Round_m (v : Value) (m : List Sg) (w : World) (hv : SegsN w v m) (hl : m.length ≤ 12) (hok : ∀ s ∈ m, SgOk s) :
    Calls Try.prog 17 #[v] w fun e w' => ∃ x E, e = .returned (.tuple #[x, .int .i64 0]) ∧ IsRnd m E ∧ w'.ownsRow w.heap.size 27 4 x E.length (E.flatMap sgV) ∧ (E = [] → x = .slice none 0 0) ∧ Since w w' := by
  by_cases hm : m = []
  · rw [hv.1 hm]
    refine (Round_nil w).mono ?_
    rintro e w' ⟨rfl, hs⟩
    exact ⟨_, [], rfl, .inl ⟨hm, rfl⟩, World.ownsRow_nil _ _ _ _, fun _ => rfl, hs⟩
  · have hcap := few_hot hl
    obtain ⟨N, hN⟩ := run_ex hm (by omega) hok hcap
    obtain ⟨hI, hW⟩ := cs0_inv hok
    have hit := iter_inv hI hW (N + 1)
    have hst : StepOk (iterC (N + 1) (cs0 m)) := by
      refine step_ok hit.1 hit.2.1 ?_ ?_ (Nat.le_trans hit.2.2 hcap)
      · intro e
        have := congrArg List.length e
        rw [iterC_len] at this
        simp [cs0] at this
        exact hm this
      · rw [iterC_len]; simp [cs0]; omega
    refine (Round_any v m w (hv.2 hm) (List.length_pos_iff.2 hm) (by omega) hok N hN hst).mono ?_
    rintro e w' ⟨x, rfl, ho, hs⟩
    exact ⟨x, _, rfl, .inr ⟨hm, N, hN, rfl⟩, ho, fun h => absurd h hst.ene, hs⟩
/-- What is known of rounded segments. -/
structure RndOk (E : List Sg) : Prop where
  ok : ∀ s ∈ E, SgOk s
  srt : SrtG E
  lt : ∀ s ∈ E, lx s.1 s.2
  meet : ∀ s ∈ E, ∀ t ∈ E, s ≠ t → smeetV s.1 s.2 t.1 t.2 ≤ 1 ∧ (smeetV s.1 s.2 t.1 t.2 = 1 → t.1 = s.1 ∨ t.1 = s.2 ∨ t.2 = s.1 ∨ t.2 = s.2)
theorem IsRnd.good {m E : List Sg} (h : IsRnd m E) (hok : ∀ s ∈ m, SgOk s) : RndOk E := by
  rcases h with ⟨-, rfl⟩ | ⟨-, N, hN, rfl⟩
  · exact ⟨by simp, by unfold SrtG; simp, by simp, by simp⟩
  · obtain ⟨hI, hW⟩ := cs0_inv hok
    have hi := (iter_inv hI hW N).1
    have hf := fixed_of hi hN.last
    have e : iterC (N + 1) (cs0 m) = iterC N (cs0 m) := hf
    rw [e]
    exact ⟨hi.eok, edg_srt _, fun s hs => edg_lx hi hs, fun s hs t ht hne => fix_meet hi hf hs ht hne⟩
theorem msegs_ok (l : List Int) : ∀ s ∈ msegs l, SgOk s := by
  intro s hs
  obtain ⟨i, hi, rfl⟩ := sg_at hs
  have hi' : i < min (l.length / 4) 12 := by unfold msegs at hi; rwa [segsK_len] at hi
  have hb := segO_bd (restS i l)
  have e : sgAt (msegs l) i = segO (restS i l) := segsK_at hi'
  rw [e]
  unfold SgOk
  rw [okP_iff, okP_iff]
  refine ⟨by omega, by omega, ?_⟩
  have e1 : (segO (restS i l)).1 = (ptOf (restS i l)).1 := by unfold segO; rw [mline2]; rfl
  have e2 : (segO (restS i l)).2 = mNext [(ptOf (restS i l)).1] (ptOf (ptOf (restS i l)).2).1 := by unfold segO; rw [mline2]; rfl
  rw [e1, e2]
  unfold mNext
  split
  · rename_i h
    intro k
    have := congrArg Prod.fst k
    have h1 := congrArg Prod.fst h
    simp [lastP, pAt] at this h1
    omega
  · rename_i h
    intro k
    apply h
    rw [← k]; simp [lastP, pAt]
theorem msegs_len (l : List Int) : (msegs l).length ≤ 12 := by unfold msegs; rw [segsK_len]; omega
theorem ints_len {w : World} {v : Value} {l : List Int} {B : Nat} (h : IntsB w v l B) : l.length ≤ 9223372036854775807 := by
  obtain ⟨a, c, hv, hc, hm, h⟩ := h
  unfold maxLen at hm
  omega
end Go.Proofs.Ytdbknodifpmmoaa
end
section
namespace Go.Proofs.Ytdbknodifpmmoaa
set_option linter.unusedSimpArgs false
set_option linter.unusedVariables false
set_option linter.constructorNameAsVariable false
open Go.RowKit Go.BigFrame
open Go.ChangeShapes Go.WideShapes Go.ChangeAt Go.RowKit Go.Joins

theorem ownK : ownKnob Try.prog.godebug = none := by kernel_rfl
theorem laidOutK : laidOutB Try.prog = true := by kernel_rfl
theorem cellsPK : Try.prog.cellsOf 26 = 2 := by kernel_rfl

section
variable {H : Type} {enc : TypeId × Value → H} {W : World} {v : Value} {d : DataW H} {p : List MemPlace}
theorem addr_at {W : World} {a : Addr} {i : Nat} {u : Value} (h0 : (W.cell? a).isSome = true) (h : W.cell? (a.add i) = some u) : W.cell? ⟨a.block, a.off + i, none⟩ = some u := by
  have hs : a.spot = none := by
    unfold World.cell? at h0
    split at h0
    · split at h0
      · simp at h0
      · next h1 => simpa using h1
    · simp at h0
  obtain ⟨b, o, s⟩ := a
  dsimp only at hs
  subst hs
  unfold Addr.add at h
  split at h
  · next h1 => subst h1; exact h
  · exact h
set_option maxRecDepth 100000 in
theorem ints_of {base : Nat} (hv : Value.okWide Try.prog W .any base 22 v) (h : DataW.Trod enc Try.prog W 0 (fun _ => true) true 22 v d p) : ∃ l : List Int, IntsB W v l W.heap.size := by
  obtain ⟨a0, len0, cap0, rfl⟩ := okWide_slice Try.underlying22 hv
  clear hv
  obtain ⟨n, h⟩ := h
  rcases Go.Deep.open_slice1 Try.underlying22 (by kernel_rfl) h with ⟨hv, -⟩ | ⟨a, len, cap, m, n', V, D, Pl, hv, -, hl, hm, hmm, -, hx⟩
  · injection hv with hv
    rw [hv]
    exact ⟨[], none, 0, rfl, by simp, by unfold maxLen; omega, fun i hi => absurd hi (Nat.not_lt_zero _)⟩
  · injection hv with hv
    rw [hv]
    clear h
    simp only [if_true] at hmm
    subst hmm
    refine ⟨(List.range len).map fun i => intOf (V i), some a, m, by simp, by simpa using hl, hm, fun i hi => ?_⟩
    have hi' : i < len := by simpa using hi
    have h0 := (hx 0 (by omega)).1
    have h1 := hx i (by omega)
    obtain ⟨z, hz, -, -⟩ := DataW.trod_int Try.underlying3 h1.2
    injection hz with hz
    have ha : a.add 0 = a := rfl
    rw [ha] at h0
    have hs := addr_at (by rw [h0]; rfl) h1.1
    have hs0 := addr_at (i := 0) (by rw [h0]; rfl) (by rw [ha]; exact h0)
    have hsp : a = ⟨a.block, a.off, none⟩ := by
      obtain ⟨b, o, s⟩ := a
      unfold World.cell? at h0
      split at h0
      · split at h0
        · cases h0
        · next h1 => simp at h1; rw [h1]
      · cases h0
    refine ⟨a.block, a.off, by rw [← hsp], World.block_lt_of_cell? W a h0, ?_⟩
    rw [hs, hz]
    simp [List.getD, hi', hz, intOf]
theorem wf64 {z : Int} (h : (Lit.int .i64 z).wf = true) : -9223372036854775808 ≤ z ∧ z ≤ 9223372036854775807 := by
  simpa [Lit.wf, IntKind.min, IntKind.max, IntKind.signed, IntKind.bits] using h
set_option maxRecDepth 100000 in
theorem int_of {base : Nat} (hv : Value.okWide Try.prog W .any base 3 v) (h : DataW.Trod enc Try.prog W 0 (fun _ => true) true 3 v d p) : ∃ z : Int, (-9223372036854775808 ≤ z ∧ z ≤ 9223372036854775807) ∧ v = .int .i64 z := by
  obtain ⟨z0, rfl⟩ := okWide_int Try.underlying3 hv
  clear hv
  obtain ⟨n, h⟩ := h
  obtain ⟨z, hz, -, hw⟩ := DataW.trod_int Try.underlying3 h
  injection hz with hz
  exact ⟨z, wf64 hw, hz⟩
set_option maxRecDepth 100000 in
theorem pt_of {base : Nat} (hv : Value.okWide Try.prog W .any base 26 v) (h : DataW.Trod enc Try.prog W 0 (fun _ => true) true 26 v d p) : ∃ x y, v = .agg #[.int .i64 x, .int .i64 y] := by
  obtain ⟨c0, c1, y0, y1, m, rfl, -, -, hy0, hy1⟩ := open_agg2 Try.underlying26 (by kernel_rfl) cellsPK hv h
  obtain ⟨a, e0, -, -⟩ := DataW.trod_int Try.underlying3 hy0
  obtain ⟨b, e1, -, -⟩ := DataW.trod_int Try.underlying3 hy1
  simp at e0 e1
  exact ⟨a, b, by rw [e0, e1]⟩
theorem cellsIK : Try.prog.cellsOf 3 = 1 := by kernel_rfl
theorem pt_open {m : Nat} {c0 c1 : Value} {y : DataW H × List MemPlace} (h : DataW.trod enc Try.prog W 0 (fun _ => true) true m 26 [c0, c1] = some y) : ∃ a b, c0 = .int .i64 a ∧ c1 = .int .i64 b := by
  obtain ⟨y0, y1, n, -, -, h0, h1⟩ := trod_struct2 Try.underlying26 h
  obtain ⟨a, e0, -, -⟩ := DataW.trod_int Try.underlying3 h0
  obtain ⟨b, e1, -, -⟩ := DataW.trod_int Try.underlying3 h1
  rw [cellsIK] at e0 e1
  simp at e0 e1
  exact ⟨a, b, e0, e1⟩
theorem addr_add (b o k : Nat) : (⟨b, o, none⟩ : Addr).add k = ⟨b, o + k, none⟩ := by unfold Addr.add; split <;> simp_all
set_option maxRecDepth 100000 in
theorem pts_of {base : Nat} (hv : Value.okWide Try.prog W .any base 33 v) (h : DataW.Trod enc Try.prog W 0 (fun _ => true) true 33 v d p) (hsz : ∀ es sp, d = .slice es sp → (es.length + sp.length) * Try.prog.bytesOf 26 ≤ reachBytes) : ∃ l : List Pt2, l.length ≤ 1000000000000000 ∧ PtsS W v l := by
  obtain ⟨a0, len0, cap0, rfl⟩ := okWide_slice Try.underlying33 hv
  clear hv
  obtain ⟨n, h⟩ := h
  rcases Go.Deep.open_slice_pairs Try.underlying33 Try.underlying26 cellsPK rfl rfl cellsIK cellsIK h with ⟨hv, -⟩ | ⟨a, len, cap, m, n', V0, V1, D0, D1, P0, P1, hv, -, hl, hm, hmm, hd, hx⟩
  · injection hv with hv
    rw [hv]
    exact ⟨[], by simp, none, 0, rfl, fun i hi => absurd hi (Nat.not_lt_zero _)⟩
  · injection hv with hv
    rw [hv]
    clear h
    simp only [Prod.mk.injEq] at hd
    have hlen : len ≤ 1000000000000000 := by
      have := hsz _ _ hd.1
      rw [show Try.prog.bytesOf 26 = 16 from by kernel_rfl] at this
      unfold reachBytes at this
      simp only [List.length_map, List.length_range] at this
      omega
    simp only [if_true] at hmm
    subst hmm
    have hsp : ∀ i, i < len → a = ⟨a.block, a.off, none⟩ := fun i hi => by
      have h0 := (hx 0 (by omega)).1
      have ha : a.add (0 * 2) = a := rfl
      rw [ha] at h0
      obtain ⟨b, o, s⟩ := a
      unfold World.cell? at h0
      split at h0
      · split at h0
        · cases h0
        · next h1 => simp at h1; rw [h1]
      · cases h0
    refine ⟨(List.range len).map fun i => (intOf (V0 i), intOf (V1 i)), by simpa using hlen, some a, m, by simp, fun i hi => ?_⟩
    have hi' : i < len := by simpa using hi
    have h1 := hx i (by omega)
    obtain ⟨z, hz, -, -⟩ := DataW.trod_int Try.underlying3 h1.2.2.1
    obtain ⟨y, hy, -, -⟩ := DataW.trod_int Try.underlying3 h1.2.2.2
    injection hz with hz
    injection hy with hy
    have hs := hsp i hi'
    have e0 := h1.1
    have e1 := h1.2.1
    rw [hs] at e0 e1
    rw [addr_add] at e0 e1
    refine ⟨a.block, a.off, by rw [← hs], ?_, ?_⟩
    · rw [e0, hz]; simp [pAt, List.getD, hi', hz, intOf]
    · rw [show a.off + i * 2 + 1 = a.off + (i * 2 + 1) by omega, e1, hy]; simp [pAt, List.getD, hi', hy, intOf]
end
end Go.Proofs.Ytdbknodifpmmoaa
end
