/-
  The walk of terrkeep3.BufferStrips. Conditions: none.
-/
import Derived.Test.YtcckekdfeeghaaaBufU
import Derived.Test.YtcckekdfeeghaaaBufJ
namespace Go.Proofs.Ytcckekdfeeghaaa
set_option linter.unusedSimpArgs false
set_option linter.unusedVariables false
open Go.RowKit Go.BigFrame
attribute [local go_sem ↓] eqPt neqPt

/-- The closure: whether a point is out of the hull. -/
theorem inH_any {l H : List Pt2} (v : Value) (q : Pt2) (gs : Nat) (w : World) (hb : Blk w gs 32 #[v]) (hv : PtsB w v H w.heap.size) (hR : Ring3 l H) (hag : hullV H = H) (ok : ∀ q ∈ H, okP q.1 q.2 = true) (hq : q ∈ l) (okq : okP q.1 q.2 = true) (hl : H.length ≤ 200) :
    Calls Try.prog 50 #[.agg #[.int .i64 q.1, .int .i64 q.2], .pointer (some ⟨gs, 0, none⟩)] w fun e w' => e = .returned (.bool false) ∧ Since w w' := by
  have HV := Lib.hid hv
  obtain ⟨a, c, rfl, -⟩ := hv
  have n3 := hR.n3
  have hne : H ≠ [] := by intro h; rw [h] at n3; simp at n3
  have hin : ∀ i, i < H.length → 0 ≤ crs (pAt H i) (pAt H ((i + 1) % H.length)) q := fun i hi => (hR.edge i hi).2.1 q hq
  have HH := Lib.hid (fun w' (h : Since w w') => HasH_any _ H H q w' (HV.out.keep h.size (fun g cs _ k => h.blk k)) hne (by omega) ok okq hag n3 (by omega) hin)
  have hc : w.cell? ⟨gs, 0, none⟩ = some (.slice a H.length c) := hb.cell 0
  have lb := hb.lt
  have HS0 := Lib.hid ((Since.rfl_ w).alloc (.cells #[.int .i64 q.1, .int .i64 q.2] 23))
  clear hb hR hag ok hq okq hne hin n3
  go_enter Try.func50, Try.ntmps50
  go_wp2_with fail
  refine (HH.out _ HS0.out).mono ?_
  rintro e w1 ⟨rfl, hs⟩
  have HS := Lib.hid (HS0.out.trans hs)
  clear hs
  go_wp2
  go_ret
  exact ⟨rfl, HS.out⟩
/-- IndexFunc, ContainsFunc with a closure that says no. -/
theorem IndexStr_any (v : Value) (l : List Pt2) (gs : Nat) (w : World) (hl : l.length ≤ 1000000000000000) (hv : PtsS w v l)
    (hc : ∀ i, i < l.length → ∀ w', Since w w' → Calls Try.prog 50 #[.agg #[.int .i64 (pAt l i).1, .int .i64 (pAt l i).2], .pointer (some ⟨gs, 0, none⟩)] w' fun e w'' => e = .returned (.bool false) ∧ Since w' w'') :
    Calls Try.prog 71 #[v, .func (Fn.func 50) #[] #[.pointer (some ⟨gs, 0, none⟩)]] w fun e w' => e = .returned (.int .i64 (-1)) ∧ Since w w' := by
  obtain ⟨a, c, rfl, hv⟩ := hv
  have HV := Lib.hid hv
  have HC := Lib.hid hc
  clear hv hc
  go_enter Try.func71, Try.ntmps71
  go_wp2_with fail
  go_loopw [8] (fun v wr => ∃ k : Nat, k ≤ l.length ∧ v = .int .i64 k ∧ Since w wr) (fun v _ => l.length - (intOf v).toNat)
  case atStart => exact ⟨0, Nat.zero_le _, rfl, Since.rfl_ w⟩
  case round =>
    obtain ⟨k, hk, rfl, hs⟩ := hrel
    rcases Nat.lt_or_ge k l.length with hlt | hge
    · obtain ⟨g, o, ha, e0, e1⟩ := HV.out k hlt
      subst ha
      replace e0 := keepC hs _ _ e0
      replace e1 := keepC hs _ _ e1
      have HS := Lib.hid hs
      clear hs
      have HK := Lib.hid (HC.out k hlt _ HS.out)
      go_wp2_with fail
      refine (HK.out).mono ?_
      rintro e w3 ⟨rfl, hs⟩
      have HS2 := Lib.hid (HS.out.trans hs)
      clear hs HK
      go_wp2
      go_roundw
      case rel => exact ⟨k + 1, by omega, by go_num, HS2.out⟩
      case measure => simp [intOf]; omega
    · have HS := Lib.hid hs
      clear hs
      go_wp2
      go_ret
      exact ⟨rfl, HS.out⟩
theorem ContainsStr_any (v : Value) (l : List Pt2) (gs : Nat) (w : World) (hl : l.length ≤ 1000000000000000) (hv : PtsS w v l)
    (hc : ∀ i, i < l.length → ∀ w', Since w w' → Calls Try.prog 50 #[.agg #[.int .i64 (pAt l i).1, .int .i64 (pAt l i).2], .pointer (some ⟨gs, 0, none⟩)] w' fun e w'' => e = .returned (.bool false) ∧ Since w' w'') :
    Calls Try.prog 21 #[v, .func (Fn.func 50) #[] #[.pointer (some ⟨gs, 0, none⟩)]] w fun e w' => e = .returned (.bool false) ∧ Since w w' := by
  have H := Lib.hid hv
  have HC := Lib.hid hc
  obtain ⟨a, c, rfl, -⟩ := hv
  clear hc
  go_enter Try.func21, Try.ntmps21
  go_wp2_with fail
  refine (IndexStr_any _ l gs _ hl H.out HC.out).mono ?_
  rintro e w1 ⟨rfl, hs⟩
  have HS := Lib.hid hs
  clear hs
  go_wp2
  go_ret
  exact ⟨rfl, HS.out⟩
theorem strL_swap (p q : Pt2) (b : Int) : hullV (strL q p b) = hullV (strL p q b) := hullV_ext fun x => by unfold strL; rw [List.mem_append, List.mem_append]; exact Or.comm

set_option maxRecDepth 100000 in
set_option maxHeartbeats 4000000 in
theorem Strips_walk (v0 v1 : Value) (l k : List Int) (by_ : Int) (w : World) (h0 : IntsB w v0 l w.heap.size) (h1 : IntsB w v1 k w.heap.size) :
    Calls Try.prog 11 #[v0, v1, .int .i64 by_] w fun e w' => e = .returned (.bool true) ∧ Since w w' := by
  have H0 := Lib.hid h0
  have H1 := Lib.hid h1
  clear h0 h1
  obtain ⟨P, HP⟩ : ∃ P, Hid (P = (ptOf l).1) := ⟨_, rfl⟩
  obtain ⟨Q, HQ⟩ : ∃ Q, Hid (Q = (ptOf k).1) := ⟨_, rfl⟩
  have bP := ptOf_bd l
  have bQ := ptOf_bd k
  rw [← HP.out] at bP
  rw [← HQ.out] at bQ
  have b0 := Int.emod_nonneg by_ (show (30 : Int) ≠ 0 by decide)
  have b1 := Int.emod_lt_of_pos by_ (show (0 : Int) < 30 by decide)
  obtain ⟨r, hr⟩ : ∃ r, by_ % 30 = r := ⟨_, rfl⟩
  obtain ⟨b, hb⟩ : ∃ b, 1 + r = b := ⟨_, rfl⟩
  rw [hr] at b0 b1
  have HB := Lib.hid (fun w => Below_any by_ 30 w (by decide) (by decide))
  rw [hr] at HB
  clear hr
  have bb : 1 ≤ b ∧ b ≤ 30 := by omega
  have HE : Hid (strE P Q b = 0) := by
    show _ = _
    unfold strE
    rw [if_pos (okP_small bP (by omega) (by omega))]
    exact okP_small bQ (by omega) (by omega)
  have HE2 : Hid (strE Q P b = 0) := by
    show _ = _
    unfold strE
    rw [if_pos (okP_small bQ (by omega) (by omega))]
    exact okP_small bP (by omega) (by omega)
  obtain ⟨H, HH⟩ : ∃ H, Hid (H = hullV (strL P Q b)) := ⟨_, rfl⟩
  have HR3 : Hid (Ring3 (strL P Q b) H) := by show Ring3 _ _; rw [HH.out]; exact str_ring (by omega)
  have hE := strE_zero HE.out
  have HOL : Hid (∀ q ∈ strL P Q b, okP q.1 q.2 = true) := fun q hq => by
    unfold strL at hq
    rcases List.mem_append.1 hq with h | h
    · exact (octE_zero hE.1).2.2.2 q h
    · exact (octE_zero hE.2).2.2.2 q h
  have HOH : Hid (∀ q ∈ H, okP q.1 q.2 = true) := by show ∀ q ∈ H, _; rw [HH.out]; exact hull_ok HOL.out
  have hlen : H.length ≤ 32 := by
    have := hullV_len (strL P Q b)
    rw [strL_len] at this
    rw [HH.out]; omega
  have HAG : Hid (hullV H = H) := by
    have h := HR3.out
    rw [HH.out] at h
    show hullV H = H
    rw [HH.out]
    exact hullV_again h
  have n3 := HR3.out.n3
  obtain ⟨n, hn⟩ : ∃ n, n = H.length := ⟨_, rfl⟩
  rw [← hn] at n3 hlen
  have HN := Lib.hid hn
  clear hn hE
  go_enter Try.func11, Try.ntmps11
  go_wp2_with fail
  refine (Point_any v0 l _ H0.out).mono ?_
  rintro e w1 ⟨rfl, hs⟩
  have H1' := Lib.hid ((H1.out.since hs).more hs.size)
  have HS1 := Lib.hid hs
  rw [← HP.out]
  clear hs H1 H0
  go_wp2_with fail
  refine (Point_any v1 k _ H1'.out).mono ?_
  rintro e w2 ⟨rfl, hs⟩
  have HS2 := Lib.hid (HS1.out.trans hs)
  rw [← HQ.out]
  clear hs H1' HS1
  go_upto_region 2 with fail
  have hsz2 := HS2.out.size
  obtain ⟨G, HG⟩ : ∃ G, G = w2.heap.size := ⟨_, rfl⟩
  rw [← HG]
  refine atW (fun w' => Blk w' G 23 #[.int .i64 P.1, .int .i64 P.2] ∧ Blk w' (G + 1) 23 #[.int .i64 Q.1, .int .i64 Q.2] ∧ Since w w') ⟨(Blk.new' HG).alloc _, Blk.new' (by simp [HG]), (HS2.out.alloc _).alloc _⟩ ?_
  rintro w3 ⟨g1, g2, hs⟩
  have HM := Lib.hid (And.intro g1 (And.intro g2 hs))
  clear g1 g2 hs HS2 HG
  go_wp2_with fail
  refine (HB.out _).mono ?_
  rintro e w4 ⟨rfl, rfl⟩
  have p0 : w3.cell? ⟨G, 0, none⟩ = some (.int .i64 P.1) := HM.out.1.cell 0
  have p1 : w3.cell? ⟨G, 1, none⟩ = some (.int .i64 P.2) := HM.out.1.cell 1
  have q0 : w3.cell? ⟨G + 1, 0, none⟩ = some (.int .i64 Q.1) := HM.out.2.1.cell 0
  have q1 : w3.cell? ⟨G + 1, 1, none⟩ = some (.int .i64 Q.2) := HM.out.2.1.cell 1
  go_upto_region 3 with fail
  have HBB := Lib.hid hb
  clear hb b0 b1 HB
  go_wp2_with fail
  refine (Strip_any P Q b _).mono ?_
  rintro e w5 ⟨v, rfl, ho, -, hs⟩
  have hro := ho HE.out
  rw [← HH.out, ← HN.out] at hro
  obtain ⟨g, c, rfl⟩ := own_some hro (by omega)
  have HM5 := Lib.hid (And.intro (hs.blk HM.out.1) (And.intro (hs.blk HM.out.2.1) (And.intro (HM.out.2.2.trans hs) hro)))
  rw [HE.out]
  clear ho hro hs p0 p1 q0 q1 HM
  go_upto_region 4 with fail
  obtain ⟨GS, HGS⟩ : ∃ GS, GS = w5.heap.size := ⟨_, rfl⟩
  rw [← HGS]
  have lg2 := HM5.out.2.1.lt
  refine atW (fun w' => Blk w' G 23 #[.int .i64 P.1, .int .i64 P.2] ∧ Blk w' (G + 1) 23 #[.int .i64 Q.1, .int .i64 Q.2] ∧ Since w w' ∧ w'.ownsRow w3.heap.size 23 2 (.slice (some ⟨g, 0, none⟩) n c) n (H.flatMap ptV) ∧ Blk w' GS 32 #[.slice (some ⟨g, 0, none⟩) n c])
    ⟨HM5.out.1.alloc _, HM5.out.2.1.alloc _, HM5.out.2.2.1.alloc _, own_since ((Since.rfl_ _).alloc _) HM5.out.2.2.2, Blk.new' HGS⟩ ?_
  rintro w6 ⟨g1, g2, hs, ho, hgs⟩
  have p0 : w6.cell? ⟨G, 0, none⟩ = some (.int .i64 P.1) := g1.cell 0
  have p1 : w6.cell? ⟨G, 1, none⟩ = some (.int .i64 P.2) := g1.cell 1
  have q0 : w6.cell? ⟨G + 1, 0, none⟩ = some (.int .i64 Q.1) := g2.cell 0
  have q1 : w6.cell? ⟨G + 1, 1, none⟩ = some (.int .i64 Q.2) := g2.cell 1
  have HM6 := Lib.hid (And.intro g1 (And.intro g2 (And.intro hs (And.intro ho hgs))))
  have HGL : Hid (G + 1 < GS) := by show _ < _; omega
  clear g1 g2 hs ho hgs HM5 HGS lg2
  go_wp2_with fail
  refine (Strip_any Q P b _).mono ?_
  rintro e w7 ⟨v2, rfl, ho, -, hs⟩
  have hro := ho HE2.out
  rw [strL_swap, ← HH.out, ← HN.out] at hro
  obtain ⟨g', c', rfl⟩ := own_some hro (by omega)
  rw [HE2.out]
  have HM7 := Lib.hid (And.intro (hs.blk HM6.out.1) (And.intro (hs.blk HM6.out.2.1) (And.intro (HM6.out.2.2.1.trans hs) (And.intro (own_since hs HM6.out.2.2.2.1) (And.intro (hs.blk HM6.out.2.2.2.2) hro)))))
  clear ho hro hs p0 p1 q0 q1 HM6
  go_upto_region 5 with fail
  have s0 : w7.cell? ⟨GS, 0, none⟩ = some (.slice (some ⟨g, 0, none⟩) n c) := HM7.out.2.2.2.2.1.cell 0
  have HP1 : Hid (∀ w', Since w7 w' → PtsB w' (.slice (some ⟨g, 0, none⟩) n c) H w'.heap.size) := fun w' h => by
    have := own_since h HM7.out.2.2.2.1
    exact own_ptsB this HN.out (this.lt g rfl).2
  have HP2 : Hid (∀ w', Since w7 w' → PtsB w' (.slice (some ⟨g', 0, none⟩) n c') H w'.heap.size) := fun w' h => by
    have := own_since h HM7.out.2.2.2.2.2
    exact own_ptsB this HN.out (this.lt g' rfl).2
  have HEQ : Hid (∀ w', Since w7 w' → Calls Try.prog 45 #[.slice (some ⟨g, 0, none⟩) n c, .slice (some ⟨g', 0, none⟩) n c'] w' fun e w'' => e = .returned (.bool true) ∧ Since w' w'') := fun w' h => by
    have := Equal_any _ _ H H w' (by rw [← HN.out]; omega) (by rw [← HN.out]; omega) (HP1.out w' h).pts (HP2.out w' h).pts
    rw [decide_eq_true rfl] at this; exact this
  have HEO : Hid (∀ w' v, Since w7 w' → PtsS w' v H → Calls Try.prog 45 #[v, .slice (some ⟨g, 0, none⟩) n c] w' fun e w'' => e = .returned (.bool true) ∧ Since w' w'') := fun w' v h hv => by
    have := Equal_any _ _ H H w' (by rw [← HN.out]; omega) (by rw [← HN.out]; omega) hv (HP1.out w' h).pts
    rw [decide_eq_true rfl] at this; exact this
  have HCK : Hid (∀ w', Since w7 w' → Calls Try.prog 48 #[.slice (some ⟨g, 0, none⟩) n c] w' fun e w'' => e = .returned (.int .i64 0) ∧ Since w' w'') := fun w' h =>
    CheckRing_any _ w' (HP1.out w' h).pts HR3.out HOH.out (by rw [← HN.out]; omega)
  have HOF : Hid (∀ w', Since w7 w' → Calls Try.prog 49 #[.slice (some ⟨g, 0, none⟩) n c] w' fun e w'' => ∃ v', e = .returned v' ∧ PtsS w'' v' H ∧ Since w' w'') := fun w' h => by
    refine (OfH_any sort_spec rev_spec _ H w' (HP1.out w' h) (by intro h; have := HN.out; rw [h] at this; simp at this; omega) (by rw [← HN.out]; omega) HOH.out).mono ?_
    rintro e w'' ⟨v', rfl, ho, hs⟩
    rw [HAG.out] at ho
    exact ⟨v', rfl, (own_pts ho (Nat.le_refl _)).pts, hs⟩
  apply region_facts 28 (fun w' => w'.cell? ⟨GS, 0, none⟩ = some (.slice (some ⟨g, 0, none⟩) n c) ∧ Since w7 w')
  case hm => kernel_rfl
  case hB => kernel_rfl
  case hS => exact ⟨s0, (Since.rfl_ w7).drew⟩
  case h =>
  simp only [List.take_succ_cons, List.take_zero, List.drop_succ_cons, List.drop_zero]
  apply wpO_det
  case hw => rfl
  case h =>
    intro hFm wx hS_ hF_ K hK
    go_big_quiet_op
    first
      | exact hK _ rfl
      | (apply Exists.intro; refine ⟨fun _ => ?_, ?_⟩; (focus (first | (intro hC; go_at_call 40; refine (strips_any _).mono ?_; rintro e w' ⟨rfl, hb⟩; refine ⟨rfl, ?_⟩; exact cls_call hFm hC hb))); exact hK _ rfl)
  case k =>
  simp only [Act.put, List.setIfInBounds_toArray, List.set_cons_succ, List.set_cons_zero, List.cons_append, List.nil_append]
  apply wpO_det
  case hw => rfl
  case h =>
    intro hFm wx hS_ hF_ K hK
    go_big_quiet_op
    first
      | exact hK _ rfl
      | (apply Exists.intro; refine ⟨fun _ => ?_, ?_⟩; (focus (first | (intro hC; have hC := hC.out; (try simp only [hC, Result.andThen]); first | exact ⟨True.intro, rfl⟩ | exact ⟨rfl, rfl⟩ | rfl))); exact hK _ rfl)
  case k =>
  simp only [Act.put, List.setIfInBounds_toArray, List.set_cons_succ, List.set_cons_zero, List.cons_append, List.nil_append]
  apply wpO_det
  case hw => rfl
  case h =>
    intro hFm wx hS_ hF_ K hK
    go_big_quiet_op
    first
      | exact hK _ rfl
      | (apply Exists.intro; refine ⟨fun _ => ?_, ?_⟩; (focus (first | (intro hC; have hC := hC.out; (try simp only [hC, Result.andThen]); first | exact ⟨True.intro, rfl⟩ | exact ⟨rfl, rfl⟩ | rfl))); exact hK _ rfl)
  case k =>
  simp only [Act.put, List.setIfInBounds_toArray, List.set_cons_succ, List.set_cons_zero, List.cons_append, List.nil_append]
  apply wpO_det
  case hw => rfl
  case h =>
    intro hFm wx hS_ hF_ K hK
    go_big_quiet_op
    first
      | exact hK _ rfl
      | (apply Exists.intro; refine ⟨fun _ => ?_, ?_⟩; (focus (first | (intro hC; have hC := hC.out; (try simp only [hC, Result.andThen]); first | exact ⟨True.intro, rfl⟩ | exact ⟨rfl, rfl⟩ | rfl))); exact hK _ rfl)
  case k =>
  simp only [Act.put, List.setIfInBounds_toArray, List.set_cons_succ, List.set_cons_zero, List.cons_append, List.nil_append]
  apply wpO_det
  case hw => rfl
  case h =>
    intro hFm wx hS_ hF_ K hK
    go_big_quiet_op
    first
      | exact hK _ rfl
      | (apply Exists.intro; refine ⟨fun _ => ?_, ?_⟩; (focus (first | (intro hC; have hC := hC.out; (try simp only [hC, Result.andThen]); first | exact ⟨True.intro, rfl⟩ | exact ⟨rfl, rfl⟩ | rfl))); exact hK _ rfl)
  case k =>
  simp only [Act.put, List.setIfInBounds_toArray, List.set_cons_succ, List.set_cons_zero, List.cons_append, List.nil_append]
  apply wpO_det
  case hw => rfl
  case h =>
    intro hFm wx hS_ hF_ K hK
    go_big_quiet_op
    first
      | exact hK _ rfl
      | (apply Exists.intro; refine ⟨fun _ => ?_, ?_⟩; (focus (first | (intro hC; have hC := hC.out; (try simp only [hC, Result.andThen]); first | exact ⟨True.intro, rfl⟩ | exact ⟨rfl, rfl⟩ | rfl))); exact hK _ rfl)
  case k =>
  simp only [Act.put, List.setIfInBounds_toArray, List.set_cons_succ, List.set_cons_zero, List.cons_append, List.nil_append]
  apply wpO_det
  case hw => rfl
  case h =>
    intro hFm wx hS_ hF_ K hK
    go_big_quiet_op
    first
      | exact hK _ rfl
      | (apply Exists.intro; refine ⟨fun _ => ?_, ?_⟩; (focus (first | (intro hC; have hC := hC.out; (try simp only [hC, Result.andThen]); first | exact ⟨True.intro, rfl⟩ | exact ⟨rfl, rfl⟩ | rfl))); exact hK _ rfl)
  case k =>
  simp only [Act.put, List.setIfInBounds_toArray, List.set_cons_succ, List.set_cons_zero, List.cons_append, List.nil_append]
  apply wpO_det
  case hw => rfl
  case h =>
    intro hFm wx hS_ hF_ K hK
    go_big_quiet_op
    first
      | exact hK _ rfl
      | (apply Exists.intro; refine ⟨fun _ => ?_, ?_⟩; (focus (first | (intro hC; have hC := hC.out; (try simp only [hC, Result.andThen]); first | exact ⟨True.intro, rfl⟩ | exact ⟨rfl, rfl⟩ | rfl))); exact hK _ rfl)
  case k =>
  simp only [Act.put, List.setIfInBounds_toArray, List.set_cons_succ, List.set_cons_zero, List.cons_append, List.nil_append]
  apply wpO_det
  case hw => rfl
  case h =>
    intro hFm wx hS_ hF_ K hK
    go_big_quiet_op
    first
      | exact hK _ rfl
      | (apply Exists.intro; refine ⟨fun _ => ?_, ?_⟩; (focus (first | (intro hC; have hC := hC.out; (try simp only [hC, Result.andThen]); first | exact ⟨True.intro, rfl⟩ | exact ⟨rfl, rfl⟩ | rfl))); exact hK _ rfl)
  case k =>
  simp only [Act.put, List.setIfInBounds_toArray, List.set_cons_succ, List.set_cons_zero, List.cons_append, List.nil_append]
  apply wpO_det
  case hw => rfl
  case h =>
    intro hFm wx hS_ hF_ K hK
    go_big_quiet_op
    first
      | exact hK _ rfl
      | (apply Exists.intro; refine ⟨fun _ => ?_, ?_⟩; (focus (first | (intro hC; have hC := hC.out; (try simp only [hC, Result.andThen]); first | exact ⟨True.intro, rfl⟩ | exact ⟨rfl, rfl⟩ | rfl))); exact hK _ rfl)
  case k =>
  simp only [Act.put, List.setIfInBounds_toArray, List.set_cons_succ, List.set_cons_zero, List.cons_append, List.nil_append]
  apply wpO_det
  case hw => rfl
  case h =>
    intro hFm wx hS_ hF_ K hK
    go_big_quiet_op
    first
      | exact hK _ rfl
      | (apply Exists.intro; refine ⟨fun _ => ?_, ?_⟩; (focus (first | (intro hC; have hC := hC.out; (try simp only [hC, Result.andThen]); first | exact ⟨True.intro, rfl⟩ | exact ⟨rfl, rfl⟩ | rfl))); exact hK _ rfl)
  case k =>
  simp only [Act.put, List.setIfInBounds_toArray, List.set_cons_succ, List.set_cons_zero, List.cons_append, List.nil_append]
  apply wpO_det
  case hw => rfl
  case h =>
    intro hFm wx hS_ hF_ K hK
    go_big_quiet_op
    first
      | exact hK _ rfl
      | (apply Exists.intro; refine ⟨fun _ => ?_, ?_⟩; (focus (first | (intro hC; have hC := hC.out; (try simp only [hC, Result.andThen]); first | exact ⟨True.intro, rfl⟩ | exact ⟨rfl, rfl⟩ | rfl))); exact hK _ rfl)
  case k =>
  simp only [Act.put, List.setIfInBounds_toArray, List.set_cons_succ, List.set_cons_zero, List.cons_append, List.nil_append]
  apply wpO_det
  case hw => rfl
  case h =>
    intro hFm wx hS_ hF_ K hK
    go_big_quiet_op
    first
      | exact hK _ rfl
      | (apply Exists.intro; refine ⟨fun _ => ?_, ?_⟩; (focus (first | (intro hC; have hC := hC.out; (try simp only [hC, Result.andThen]); first | exact ⟨True.intro, rfl⟩ | exact ⟨rfl, rfl⟩ | rfl))); exact hK _ rfl)
  case k =>
  simp only [Act.put, List.setIfInBounds_toArray, List.set_cons_succ, List.set_cons_zero, List.cons_append, List.nil_append]
  apply wpO_det
  case hw => rfl
  case h =>
    intro hFm wx hS_ hF_ K hK
    go_big_quiet_op
    first
      | exact hK _ rfl
      | (apply Exists.intro; refine ⟨fun _ => ?_, ?_⟩; (focus (first | (intro hC; go_at_call 45; refine (HEQ.out _ hC.out.1.2).mono ?_; rintro e w' ⟨rfl, hb⟩; refine ⟨rfl, ?_⟩; exact cls_call hFm hC hb))); exact hK _ rfl)
  case k =>
  simp only [Act.put, List.setIfInBounds_toArray, List.set_cons_succ, List.set_cons_zero, List.cons_append, List.nil_append]
  apply wpO_det
  case hw => rfl
  case h =>
    intro hFm wx hS_ hF_ K hK
    go_big_quiet_op
    first
      | exact hK _ rfl
      | (apply Exists.intro; refine ⟨fun _ => ?_, ?_⟩; (focus (first | (intro hC; have hC := hC.out; (try simp only [hC, Result.andThen]); first | exact ⟨True.intro, rfl⟩ | exact ⟨rfl, rfl⟩ | rfl))); exact hK _ rfl)
  case k =>
  simp only [Act.put, List.setIfInBounds_toArray, List.set_cons_succ, List.set_cons_zero, List.cons_append, List.nil_append]
  apply wpO_det
  case hw => rfl
  case h =>
    intro hFm wx hS_ hF_ K hK
    go_big_quiet_op
    first
      | exact hK _ rfl
      | (apply Exists.intro; refine ⟨fun _ => ?_, ?_⟩; (focus (first | (intro hC; have hC := hC.out; (try simp only [hC, Result.andThen]); first | exact ⟨True.intro, rfl⟩ | exact ⟨rfl, rfl⟩ | rfl))); exact hK _ rfl)
  case k =>
  simp only [Act.put, List.setIfInBounds_toArray, List.set_cons_succ, List.set_cons_zero, List.cons_append, List.nil_append]
  apply wpO_det
  case hw => rfl
  case h =>
    intro hFm wx hS_ hF_ K hK
    go_big_quiet_op
    first
      | exact hK _ rfl
      | (apply Exists.intro; refine ⟨fun _ => ?_, ?_⟩; (focus (first | (intro hC; have hC := hC.out; (try simp only [hC, Result.andThen]); first | exact ⟨True.intro, rfl⟩ | exact ⟨rfl, rfl⟩ | rfl))); exact hK _ rfl)
  case k =>
  simp only [Act.put, List.setIfInBounds_toArray, List.set_cons_succ, List.set_cons_zero, List.cons_append, List.nil_append]
  apply wpO_det
  case hw => rfl
  case h =>
    intro hFm wx hS_ hF_ K hK
    go_big_quiet_op
    first
      | exact hK _ rfl
      | (apply Exists.intro; refine ⟨fun _ => ?_, ?_⟩; (focus (first | (intro hC; have hC := hC.out; (try simp only [hC, Result.andThen]); first | exact ⟨True.intro, rfl⟩ | exact ⟨rfl, rfl⟩ | rfl))); exact hK _ rfl)
  case k =>
  simp only [Act.put, List.setIfInBounds_toArray, List.set_cons_succ, List.set_cons_zero, List.cons_append, List.nil_append]
  apply wpO_det
  case hw => rfl
  case h =>
    intro hFm wx hS_ hF_ K hK
    go_big_quiet_op
    first
      | exact hK _ rfl
      | (apply Exists.intro; refine ⟨fun _ => ?_, ?_⟩; (focus (first | (intro hC; go_at_call 48; refine (HCK.out _ hC.out.1.2).mono ?_; rintro e w' ⟨rfl, hb⟩; refine ⟨rfl, ?_⟩; exact cls_call hFm hC hb))); exact hK _ rfl)
  case k =>
  simp only [Act.put, List.setIfInBounds_toArray, List.set_cons_succ, List.set_cons_zero, List.cons_append, List.nil_append]
  apply wpO_det
  case hw => rfl
  case h =>
    intro hFm wx hS_ hF_ K hK
    go_big_quiet_op
    first
      | exact hK _ rfl
      | (apply Exists.intro; refine ⟨fun _ => ?_, ?_⟩; (focus (first | (intro hC; have hC := hC.out; (try simp only [hC, Result.andThen]); first | exact ⟨True.intro, rfl⟩ | exact ⟨rfl, rfl⟩ | rfl))); exact hK _ rfl)
  case k =>
  simp only [Act.put, List.setIfInBounds_toArray, List.set_cons_succ, List.set_cons_zero, List.cons_append, List.nil_append]
  apply wpO_det
  case hw => rfl
  case h =>
    intro hFm wx hS_ hF_ K hK
    go_big_quiet_op
    first
      | exact hK _ rfl
      | (apply Exists.intro; refine ⟨fun _ => ?_, ?_⟩; (focus (first | (intro hC; have hC := hC.out; (try simp only [hC, Result.andThen]); first | exact ⟨True.intro, rfl⟩ | exact ⟨rfl, rfl⟩ | rfl))); exact hK _ rfl)
  case k =>
  simp only [Act.put, List.setIfInBounds_toArray, List.set_cons_succ, List.set_cons_zero, List.cons_append, List.nil_append]
  apply wpO_det
  case hw => rfl
  case h =>
    intro hFm wx hS_ hF_ K hK
    go_big_quiet_op
    first
      | exact hK _ rfl
      | (apply Exists.intro; refine ⟨fun _ => ?_, ?_⟩; (focus (first | (intro hC; have hC := hC.out; (try simp only [hC, Result.andThen]); first | exact ⟨True.intro, rfl⟩ | exact ⟨rfl, rfl⟩ | rfl))); exact hK _ rfl)
  case k =>
  simp only [Act.put, List.setIfInBounds_toArray, List.set_cons_succ, List.set_cons_zero, List.cons_append, List.nil_append]
  apply wpO_det
  case hw => rfl
  case h =>
    intro hFm wx hS_ hF_ K hK
    go_big_quiet_op
    first
      | exact hK _ rfl
      | (apply Exists.intro; refine ⟨fun _ => ?_, ?_⟩; (focus (first | (intro hC; have hC := hC.out; (try simp only [hC, Result.andThen]); first | exact ⟨True.intro, rfl⟩ | exact ⟨rfl, rfl⟩ | rfl))); exact hK _ rfl)
  case k =>
  simp only [Act.put, List.setIfInBounds_toArray, List.set_cons_succ, List.set_cons_zero, List.cons_append, List.nil_append]
  apply wpO_any (R := fun v w => PtsS w v H)
  case hR => exact (fun v w w' h k => h.keep (keepC k))
  case hw => rfl
  case h =>
    intro wx hS_ hF_
    unfold runV
    simp [go_sem]
    (refine (HOF.out wx hS_.2).mono ?_; rintro e w' ⟨v', rfl, hv, hs⟩; exact ⟨v', rfl, hv, hs⟩)
  case k =>
  intro v61
  simp only [Act.put, List.setIfInBounds_toArray, List.set_cons_succ, List.set_cons_zero, List.cons_append, List.nil_append]
  apply wpO_det
  case hw => rfl
  case h =>
    intro hFm wx hS_ hF_ K hK
    go_big_quiet_op
    first
      | exact hK _ rfl
      | (apply Exists.intro; refine ⟨fun _ => ?_, ?_⟩; (focus (first | (intro hC; have hC := hC.out; (try simp only [hC, Result.andThen]); first | exact ⟨True.intro, rfl⟩ | exact ⟨rfl, rfl⟩ | rfl))); exact hK _ rfl)
  case k =>
  simp only [Act.put, List.setIfInBounds_toArray, List.set_cons_succ, List.set_cons_zero, List.cons_append, List.nil_append]
  apply wpO_det
  case hw => rfl
  case h =>
    intro hFm wx hS_ hF_ K hK
    go_big_quiet_op
    first
      | exact hK _ rfl
      | (apply Exists.intro; refine ⟨fun _ => ?_, ?_⟩; (focus (first | (intro hC; go_at_call 45; refine (HEO.out _ _ hC.out.1.2 hC.out.2.1.1).mono ?_; rintro e w' ⟨rfl, hb⟩; refine ⟨rfl, ?_⟩; exact cls_call hFm hC hb))); exact hK _ rfl)
  case k =>
  simp only [Act.put, List.setIfInBounds_toArray, List.set_cons_succ, List.set_cons_zero, List.cons_append, List.nil_append]
  apply wpO_det
  case hw => rfl
  case h =>
    intro hFm wx hS_ hF_ K hK
    go_big_quiet_op
    first
      | exact hK _ rfl
      | (apply Exists.intro; refine ⟨fun _ => ?_, ?_⟩; (focus (first | (intro hC; have hC := hC.out; (try simp only [hC, Result.andThen]); first | exact ⟨True.intro, rfl⟩ | exact ⟨rfl, rfl⟩ | rfl))); exact hK _ rfl)
  case k =>
  simp only [Act.put, List.setIfInBounds_toArray, List.set_cons_succ, List.set_cons_zero, List.cons_append, List.nil_append]
  apply wpO_det
  case hw => rfl
  case h =>
    intro hFm wx hS_ hF_ K hK
    go_big_quiet_op
    first
      | exact hK _ rfl
      | (apply Exists.intro; refine ⟨fun _ => ?_, ?_⟩; (focus (first | (intro hC; have hC := hC.out; (try simp only [hC, Result.andThen]); first | exact ⟨True.intro, rfl⟩ | exact ⟨rfl, rfl⟩ | rfl))); exact hK _ rfl)
  case k =>
  simp only [Act.put, List.setIfInBounds_toArray, List.set_cons_succ, List.set_cons_zero, List.cons_append, List.nil_append]
  refine wpO_nil ?_
  intro w8 hS hF hB
  (try simp [allF] at hF)
  (try simp [List.pairwise_cons] at hB)
  have hs := hS.2
  have HM8 := Lib.hid (And.intro (hs.blk HM7.out.1) (And.intro (hs.blk HM7.out.2.1) (And.intro (HM7.out.2.2.1.trans hs) (And.intro (own_since hs HM7.out.2.2.2.1) (hs.blk HM7.out.2.2.2.2.1)))))
  clear hS hF hB hs s0 HP1 HP2 HEQ HEO HCK HOF HM7
  have p0 : w8.cell? ⟨G, 0, none⟩ = some (.int .i64 P.1) := HM8.out.1.cell 0
  have p1 : w8.cell? ⟨G, 1, none⟩ = some (.int .i64 P.2) := HM8.out.1.cell 1
  have q0 : w8.cell? ⟨G + 1, 0, none⟩ = some (.int .i64 Q.1) := HM8.out.2.1.cell 0
  have q1 : w8.cell? ⟨G + 1, 1, none⟩ = some (.int .i64 Q.2) := HM8.out.2.1.cell 1
  go_wp2_with fail
  have HTb := Lib.hid (Blk.new w8 23 #[.int .i64 P.1, .int .i64 P.2, .int .i64 Q.1, .int .i64 Q.2])
  have hA := (Since.rfl_ w8).alloc (.cells #[.int .i64 P.1, .int .i64 P.2, .int .i64 Q.1, .int .i64 Q.2] 23)
  have HM9 := Lib.hid (And.intro (HM8.out.2.2.1.trans hA) (And.intro (own_since hA HM8.out.2.2.2.1) (hA.blk HM8.out.2.2.2.2)))
  obtain ⟨Gt, HGt⟩ : ∃ Gt, Gt = w8.heap.size := ⟨_, rfl⟩
  rw [← HGt] at HTb ⊢
  clear HGt p0 p1 q0 q1 HM8 hA
  generalize World.alloc w8 _ = wb at *
  go_loopw [70] (fun v wr => ∃ k : Nat, k ≤ 2 ∧ v = .int .i64 k ∧ Hid (Since wb wr)) (fun v _ => 2 - (intOf v).toNat)
  case atStart => exact ⟨0, by omega, rfl, Since.rfl_ _⟩
  case round =>
    obtain ⟨k, hk, rfl, HR⟩ := hrel
    rcases Nat.lt_or_ge k 2 with hlt | hge
    · have hz3 : decide ((k : Int) < 2) = true := by rw [decide_eq_true_eq]; omega
      obtain ⟨z, HZ⟩ : ∃ z : Pt2, Hid (z = if k = 0 then P else Q) := ⟨_, rfl⟩
      have hk3 : k = 0 ∨ k = 1 := by omega
      have HZE : Hid (octE z b = 0 ∧ ∀ q ∈ crnV z b, q ∈ strL P Q b) := by
        show _ ∧ _
        rw [HZ.out]
        have hE := strE_zero HE.out
        rcases hk3 with rfl | rfl
        · exact ⟨hE.1, fun q hq => by unfold strL; exact List.mem_append.2 (.inl hq)⟩
        · exact ⟨hE.2, fun q hq => by unfold strL; exact List.mem_append.2 (.inr hq)⟩
      have z01 : wr.cell? ⟨Gt, k * 2, none⟩ = some (.int .i64 z.1) ∧ wr.cell? ⟨Gt, k * 2 + 1, none⟩ = some (.int .i64 z.2) := by
        rw [HZ.out]
        have hb := HR.out.blk HTb.out
        rcases hk3 with rfl | rfl
        · exact ⟨hb.cell 0, hb.cell 1⟩
        · exact ⟨hb.cell 2, hb.cell 3⟩
      obtain ⟨z0, z1⟩ := z01
      clear hk3
      go_wp2_with fail
      refine (Octagon_any z b _).mono ?_
      rintro e wc ⟨vo, rfl, ho, -, hs⟩
      rw [HZE.out.1]
      have hro := ho HZE.out.1
      have hA : Since wr wc := Since.trans ((Since.rfl_ wr).alloc _) hs
      have HR2 := Lib.hid (HR.out.trans hA)
      have HPO := Lib.hid (own_pts hro (Nat.le_refl _)).pts
      have HCL := Lib.hid (fun i (hi : i < (hullV (crnV z b)).length) w' (h : Since wc w') => by
        have hq := (oct_ring (p := z) (b := b) (by omega)).mem i hi
        have hqs := HZE.out.2 _ hq
        have hR9 := HR2.out.trans h
        have how := own_since hR9 HM9.out.2.1
        exact inH_any (l := strL P Q b) (H := H) _ (pAt (hullV (crnV z b)) i) GS w' (hR9.blk HM9.out.2.2) (own_ptsB how HN.out (how.lt g rfl).2) HR3.out HAG.out HOH.out hqs (HOL.out _ hqs) (by rw [← HN.out]; omega))
      have hlo : (hullV (crnV z b)).length ≤ 16 := by have := hullV_len (crnV z b); rw [crnV_len] at this; omega
      obtain ⟨o, HO⟩ : ∃ o, Hid (o = hullV (crnV z b)) := ⟨_, rfl⟩
      rw [← HO.out] at HPO HCL hlo hro
      obtain ⟨a, co, rfl⟩ := own_slice hro
      have HCO := Lib.hid (ContainsStr_any _ o GS wc (by omega) HPO.out HCL.out)
      clear ho hro hs hA z0 z1 HPO HCL HR
      go_wp2_with fail
      refine (HCO.out).mono ?_
      rintro e wd ⟨rfl, hs⟩
      have HR4 := Lib.hid (HR2.out.trans hs)
      clear hs HCO
      go_wp2_with fail
      go_roundw
      case rel => exact ⟨k + 1, by omega, by go_num, HR4⟩
      case measure => simp [intOf]; omega
    · obtain rfl : k = 2 := by omega
      go_wp2_with fail
      go_ret
      exact ⟨rfl, HM9.out.1.trans HR.out⟩
theorem Strips_walkB (v0 v1 : Value) (l k : List Int) (by_ : Int) (w : World) (h0 : IntsB w v0 l w.heap.size) (h1 : IntsB w v1 k w.heap.size) (_ : -9223372036854775808 ≤ by_ ∧ by_ ≤ 9223372036854775807) :
    Calls Try.prog 11 #[v0, v1, .int .i64 by_] w fun e w' => e = .returned (.bool true) ∧ Since w w' := Strips_walk v0 v1 l k by_ w h0 h1
end Go.Proofs.Ytcckekdfeeghaaa
