/-
  The walk of HotOrder. Conditions: the argument's list.
-/
import Derived.Test.YtdbknodifpmmoaaLHotTv
namespace Go.Proofs.Ytdbknodifpmmoaa
set_option linter.unusedSimpArgs false
set_option linter.unusedVariables false
open Go.RowKit Go.BigFrame
attribute [local go_sem ↓] eqPt neqPt

def flpB (k : Int) (i : Nat) : Bool := (wrap64 (k + i)).tmod 2 == 0
def revS (b : Bool) (s : Sg) : Sg := if b then (s.2, s.1) else s
/-- The segments in another order, some turned round; the first j of them. -/
def ordK (m : List Sg) (k : Int) (B j : Nat) : List Sg := (List.range j).map fun i => revS (flpB k i) (sgAt m ((i + B) % m.length))
theorem ordK_succ (m : List Sg) (k : Int) (B j : Nat) : ordK m k B (j + 1) = ordK m k B j ++ [revS (flpB k j) (sgAt m ((j + B) % m.length))] := by unfold ordK; rw [List.range_succ, List.map_append]; rfl
theorem ordK_len (m : List Sg) (k : Int) (B j : Nat) : (ordK m k B j).length = j := by simp [ordK]
theorem rev_ok {b : Bool} {s : Sg} (h : SgOk s) : SgOk (revS b s) := by
  unfold revS; split
  · exact ⟨h.2.1, h.1, h.2.2.symm⟩
  · exact h
theorem rev_cases (b : Bool) (s : Sg) : revS b s = s ∨ revS b s = (s.2, s.1) := by
  unfold revS; split
  · exact .inr rfl
  · exact .inl rfl
theorem ord_ok {m : List Sg} (hok : ∀ s ∈ m, SgOk s) (k : Int) (B : Nat) : ∀ s ∈ ordK m k B m.length, SgOk s := by
  intro s hs
  obtain ⟨i, hi, rfl⟩ := List.mem_map.1 hs
  rw [List.mem_range] at hi
  exact rev_ok (hok _ (sgAt_mem (Nat.mod_lt _ (by omega))))
theorem ord_sub (m : List Sg) (k : Int) (B : Nat) : ∀ s ∈ ordK m k B m.length, s ∈ m ∨ (s.2, s.1) ∈ m := by
  intro s hs
  obtain ⟨i, hi, rfl⟩ := List.mem_map.1 hs
  rw [List.mem_range] at hi
  have hm := sgAt_mem (l := m) (i := (i + B) % m.length) (Nat.mod_lt _ (by omega))
  rcases rev_cases (flpB k i) (sgAt m ((i + B) % m.length)) with e | e <;> rw [e]
  · exact .inl hm
  · exact .inr hm
theorem ord_sup (m : List Sg) (k : Int) {B : Nat} (hB : B < m.length) : ∀ s ∈ m, s ∈ ordK m k B m.length ∨ (s.2, s.1) ∈ ordK m k B m.length := by
  intro s hs
  obtain ⟨j, hj, rfl⟩ := sg_at hs
  have hi : (j + (m.length - B)) % m.length < m.length := Nat.mod_lt _ (by omega)
  have e : ((j + (m.length - B)) % m.length + B) % m.length = j := by
    rw [Nat.mod_add_mod, show j + (m.length - B) + B = j + m.length by omega, Nat.add_mod_right, Nat.mod_eq_of_lt hj]
  have hm : revS (flpB k ((j + (m.length - B)) % m.length)) (sgAt m j) ∈ ordK m k B m.length := List.mem_map.2 ⟨_, List.mem_range.2 hi, by rw [e]⟩
  rcases rev_cases (flpB k ((j + (m.length - B)) % m.length)) (sgAt m j) with e | e <;> rw [e] at hm
  · exact .inl hm
  · exact .inr hm
theorem rnd_order {m E E' : List Sg} (hok : ∀ s ∈ m, SgOk s) (k : Int) {B : Nat} (hB : m ≠ [] → B < m.length) (h : IsRnd m E) (h' : IsRnd (ordK m k B m.length) E') : E = E' := by
  have hl := ordK_len m k B m.length
  rcases h with ⟨hm, rfl⟩ | ⟨hm, N, hN, rfl⟩
  · rcases h' with ⟨-, rfl⟩ | ⟨hm', -⟩
    · rfl
    · rw [hm] at hl
      exact absurd (List.length_eq_zero_iff.1 (by rw [hm]; exact hl)) hm'
  · rcases h' with ⟨hm', -⟩ | ⟨hm', M, hM, rfl⟩
    · rw [hm'] at hl
      exact absurd (List.length_eq_zero_iff.1 hl.symm) hm
    · exact order_law hok (ord_ok hok k B) (ord_sup m k (hB hm)) (ord_sub m k B) hN hM
theorem rnd_len {m E : List Sg} (hm : m.length ≤ 12) (hok : ∀ s ∈ m, SgOk s) (h : IsRnd m E) : E.length ≤ 1000000000000000 := by
  by_cases hne : E = []
  · rw [hne]; simp
  · have := (rnd_again hm hok h hne).1
    omega
set_option maxRecDepth 100000 in
set_option maxHeartbeats 4000000 in
theorem Order_walk (v : Value) (l : List Int) (kk : Int) (w : World) (hi : IntsB w v l w.heap.size) (hlen : l.length ≤ 9223372036854775807) :
    Calls Try.prog 4 #[v, .int .i64 kk] w fun e w' => e = .returned (.bool true) ∧ Since w w' := by
  have HSEG := Lib.hid (Segs_any v l w hi hlen)
  obtain ⟨i0, hi0, hz0, hz1, hz3⟩ := info_parts infoSg
  have HI := Lib.hid hi0
  have HZ := Lib.hid (And.intro hz0 (And.intro hz1 hz3))
  clear hi0 hz0 hz1 hz3 hi
  go_enter Try.func4, Try.ntmps4
  go_wp2_with fail
  refine (HSEG.out).mono ?_
  rintro e w1 ⟨x, rfl, ho, hs, hn⟩
  have hsn := own_segsN ho hn
  have HMS := Lib.hid (And.intro (msegs_len l) (msegs_ok l))
  obtain ⟨m, HM⟩ : ∃ m, Hid (m = msegs l) := ⟨_, rfl⟩
  rw [← HM.out] at hsn HMS
  obtain ⟨n, HN⟩ : ∃ n, Hid (n = m.length) := ⟨_, rfl⟩
  have hn12 : n ≤ 12 := by rw [HN.out]; exact HMS.out.1
  have HS1 := Lib.hid hs
  have HV1 := Lib.hid hsn
  have hcap := hsn.slice
  obtain ⟨a, c, rfl⟩ := hcap
  rw [← HN.out] at HV1 ⊢
  clear ho hs hn HSEG hsn
  obtain ⟨B, HB⟩ : ∃ B : Nat, Hid (0 < n → (B : Int) = kk % n ∧ B < n) := ⟨(kk % n).toNat, fun h => by
    have h1 := Int.emod_nonneg kk (show (n : Int) ≠ 0 by omega)
    have h2 := Int.emod_lt_of_pos kk (show (0 : Int) < n by omega)
    omega⟩
  go_wp2_with fail
  go_loopw [17, 6] (fun v17 v6 wr => ∃ k : Nat, k ≤ n ∧ v17 = .int .i64 k ∧ Hid (Since w1 wr) ∧ Hid (wr.ownsRow w1.heap.size 27 4 v6 k ((ordK m kk B k).flatMap sgV)) ∧ Hid (k = 0 → v6 = .slice none 0 0)) (fun v17 _ _ => n - (intOf v17).toNat)
  case atStart => exact ⟨0, by omega, by go_num, Since.rfl_ w1, World.ownsRow_nil _ _ _ _, fun _ => rfl⟩
  case round =>
    obtain ⟨k, hk, rfl, HS, HO, HNL⟩ := hrel
    obtain ⟨ar, cr, rfl⟩ := own_slice HO.out
    rcases Nat.lt_or_ge k n with hlt | hge
    · have hz : decide ((k : Int) < (n : Int)) = true := by rw [decide_eq_true_eq]; omega
      obtain ⟨hB1, hB2⟩ := HB.out (by omega)
      have HBE := Lib.hid (fun w => Below_any kk (n : Int) w (by omega) (by omega))
      rw [← hB1] at HBE
      obtain ⟨j, hj⟩ : ∃ j, j = (k + B) % n := ⟨_, rfl⟩
      have hjn : j < n := by rw [hj]; exact Nat.mod_lt _ (by omega)
      have e1 : ((k : Int) + B) % n = j := by rw [hj]; push_cast; rfl
      have e2 : ((k : Int) + B).tmod n = j := by rw [Int.tmod_eq_emod_of_nonneg (by omega)]; exact e1
      have HJ := Lib.hid hj
      obtain ⟨g, o, rfl, h1, h2, h3, h4⟩ := HV1.out.cells (k := j) (by rw [← HN.out]; exact hjn)
      obtain ⟨s, hs⟩ : ∃ s, s = sgAt m j := ⟨_, rfl⟩
      rw [← hs] at h1 h2 h3 h4
      have h1 := keepC HS.out _ _ h1
      have h2 := keepC HS.out _ _ h2
      have h3 := keepC HS.out _ _ h3
      have h4 := keepC HS.out _ _ h4
      have i1 : (0 : Int) ≤ (j : Int) := by omega
      have i2 : (j : Int) < (n : Int) := by omega
      obtain ⟨b, hb⟩ : ∃ b, b = flpB kk k := ⟨_, rfl⟩
      obtain ⟨y, hy⟩ : ∃ y, y = revS b s := ⟨_, rfl⟩
      have HKS : Hid (ordK m kk B (k + 1) = ordK m kk B k ++ [y]) := by
        show _ = _
        rw [ordK_succ, hy, hb, hs, hj, HN.out]
      have HYY := Lib.hid hy
      have hbb : ((wrap64 (kk + k)).tmod 2 == 0) = b := by rw [hb]; rfl
      clear hj hs hy hb hB1
      go_wp2_with fail
      refine (HBE.out _).mono ?_
      rintro e wq ⟨rfl, rfl⟩
      clear HBE
      go_upto_region 7 with fail
      obtain ⟨G8, HG8⟩ : ∃ G8, G8 = wr.heap.size := ⟨_, rfl⟩
      rw [← HG8]
      have hsz := HS.out.size
      have hlt5 : ∀ g, (Value.slice ar k cr).ownBlock = some g → g < G8 := fun g e => by have := (HO.out.lt g e).2; omega
      refine atW (fun w' => Hid (Since w1 w') ∧ Hid (w'.ownsRow w1.heap.size 27 4 (.slice ar k cr) k ((ordK m kk B k).flatMap sgV)) ∧ Blk w' G8 27 #[.int .i64 s.1.1, .int .i64 s.1.2, .int .i64 s.2.1, .int .i64 s.2.2]) ⟨HS.out.alloc _, own_since ((Since.rfl_ wr).alloc _) HO.out, Blk.new' HG8⟩ ?_
      have hng : some G8 ≠ (Value.slice ar k cr).ownBlock := fun e => by have := hlt5 _ e.symm; omega
      have hw8 : w1.heap.size ≤ G8 := by omega
      clear HS HO HG8 hsz hlt5 h1 h2 h3 h4 e1 e2
      rintro w3 ⟨HS3, HO3, hb8⟩
      have a_0 := hb8.cell 0
      have a_1 := hb8.cell 1
      have a_2 := hb8.cell 2
      have a_3 := hb8.cell 3
      simp only [List.getElem?_toArray, List.getElem?_cons_zero, List.getElem?_cons_succ] at a_0 a_1 a_2 a_3
      have f0 := hb8.frozen 0
      have f1 := hb8.frozen 1
      have f2 := hb8.frozen 2
      have f3 := hb8.frozen 3
      have HB8 := Lib.hid hb8
      clear hb8
      go_upto_if 36 with fail
      go_cut [] from 18 to 46 (fun w' => Hid (Since w1 w') ∧ Hid (w'.ownsRow w1.heap.size 27 4 (.slice ar k cr) k ((ordK m kk B k).flatMap sgV)) ∧ Hid (Blk w' G8 27 #[.int .i64 y.1.1, .int .i64 y.1.2, .int .i64 y.2.1, .int .i64 y.2.2]))
      case first =>
        cases b
        · have HY2 : Hid (y = s) := HYY.out
          clear HYY
          go_wp2_with fail
          go_meet
          refine ⟨HS3.out, HO3.out, ?_⟩
          show Blk _ _ _ _
          rw [HY2.out]
          exact HB8.out
        · have HY2 : Hid (y = (s.2, s.1)) := HYY.out
          clear HYY
          go_wp2_with fail
          go_meet
          refine ⟨(((HS3.out.setCell (p := ⟨G8, 0, none⟩) hw8 _).setCell (p := ⟨G8, 1, none⟩) hw8 _).setCell (p := ⟨G8, 2, none⟩) hw8 _).setCell (p := ⟨G8, 3, none⟩) hw8 _, own_far (p := ⟨G8, 3, none⟩) (own_far (p := ⟨G8, 2, none⟩) (own_far (p := ⟨G8, 1, none⟩) (own_far (p := ⟨G8, 0, none⟩) HO3.out hng _) hng _) hng _) hng _, ?_⟩
          show Blk _ _ _ _
          rw [HY2.out]
          exact (((HB8.out.set_ 0 (.int .i64 s.2.1)).set_ 1 (.int .i64 s.2.2)).set_ 2 (.int .i64 s.1.1)).set_ 3 (.int .i64 s.1.2)
      case rest =>
        clear HS3 HO3 HB8 a_0 a_1 a_2 a_3 f0 f1 f2 f3
        obtain ⟨HS4, HO4, HB4⟩ := hcut
        obtain ⟨w4, rfl⟩ : ∃ w4, w4 = wc := ⟨_, rfl⟩
        have hb4 := HB4.out
        have e_0 := hb4.cell 0
        have e_1 := hb4.cell 1
        have e_2 := hb4.cell 2
        have e_3 := hb4.cell 3
        simp only [List.getElem?_toArray, List.getElem?_cons_zero, List.getElem?_cons_succ] at e_0 e_1 e_2 e_3
        clear hb4 HB4 hbb HYY
        go_wp2_with (at_builtin; refine wpList_append_own _ rfl _ _ 23 rfl w1.heap.size 27 i0 _ 4 32 Try.underlying23 HI.out HZ.out.1 HZ.out.2.1 HZ.out.2.2 rfl (by decide) _ _ _ rfl (own_since ((Since.rfl_ w4).alloc _) HO4.out) _ _ _ [.int .i64 y.1.1, .int .i64 y.1.2, .int .i64 y.2.1, .int .i64 y.2.2] rfl rfl (cell4_new _ _ _ _ _ _) (one4 _ _ _ _ _ _ _ _) (by unfold maxLen; omega) (by omega) (by simp only [World.size_alloc]; have := HS4.out.size; omega) ?_)
        intro v' w' hown hgrow _
        obtain ⟨ao', co', rfl⟩ := own_slice hown
        have hA := (Since.rfl_ w4).alloc (.cells #[.int .i64 y.1.1, .int .i64 y.1.2, .int .i64 y.2.1, .int .i64 y.2.2] 27)
        have hoA := own_since hA HO4.out
        have HS5 : Hid (Since w1 w') := ((HS4.out.alloc (.cells #[.int .i64 y.1.1, .int .i64 y.1.2, .int .i64 y.2.1, .int .i64 y.2.2] 27))).grown hgrow (by simp only [World.size_alloc]; have := HS4.out.size; omega) fun k hk => (hoA.lt k hk).1
        have HO5 : Hid (w'.ownsRow w1.heap.size 27 4 (.slice ao' (k + 1) co') (k + 1) ((ordK m kk B (k + 1)).flatMap sgV)) := by
          show World.ownsRow _ _ _ _ _ _ _
          rw [HKS.out, List.flatMap_append]
          exact hown
        clear hown hgrow hA hoA HS4 HO4 e_0 e_1 e_2 e_3
        go_wp2_with fail
        go_roundw
        case rel => exact ⟨k + 1, by omega, by go_num, HS5, HO5, fun h => absurd h (by omega)⟩
        case measure => simp [intOf]; omega
    · obtain rfl : k = n := by omega
      have hz : decide ((k : Int) < (k : Int)) = false := by rw [decide_eq_false_iff_not]; omega
      have HOK := Lib.hid (ord_ok HMS.out.2 kk B)
      have hl := ordK_len m kk B m.length
      rw [← HN.out] at HOK hl
      have hsn : SegsN wr (.slice ar k cr) (ordK m kk B k) := own_segsN (by rw [hl]; exact HO.out) (fun h => HNL.out (by rw [h] at hl; exact hl.symm))
      have HT := Lib.hid hsn
      have HLT := Lib.hid hl
      have HRT := Lib.hid (fun w' (hs : Since wr w') => Round_m _ (ordK m kk B k) w' (hsn.since hs) (by rw [hl]; exact hn12) HOK.out)
      have HRS := Lib.hid (Round_m _ m wr (HV1.out.since HS.out) HMS.out.1 HMS.out.2)
      have HSW := Lib.hid (HS1.out.trans HS.out)
      have HBB : Hid (m ≠ [] → B < m.length) := fun h => by
        rw [← HN.out]
        exact (HB.out (by rw [HN.out]; exact List.length_pos_iff.2 h)).2
      clear hl hsn HS HO HNL
      go_wp2_with fail
      refine (HRS.out).mono ?_
      rintro e w2 ⟨x, E, rfl, hE, ho, hnn, hs⟩
      have HE := Lib.hid hE
      have HX2 := Lib.hid (own_segsN ho hnn)
      obtain ⟨ax, cx, rfl⟩ := own_slice ho
      have HC2 := Lib.hid (rnd_len HMS.out.1 HMS.out.2 hE)
      have HS2 := Lib.hid hs
      clear hE ho hnn hs HRS
      obtain ⟨n1, HN1⟩ : ∃ n1, Hid (n1 = E.length) := ⟨_, rfl⟩
      rw [← HN1.out] at HX2 ⊢
      go_wp2_with fail
      refine (HRT.out _ HS2.out).mono ?_
      rintro e w3 ⟨y, E', rfl, hE, ho, hnn, hs⟩
      have hEE := rnd_order HMS.out.2 kk HBB.out HE.out (by rw [← HN.out]; exact hE)
      subst hEE
      have HY3 := Lib.hid (own_segsN ho hnn)
      obtain ⟨ay, cy, rfl⟩ := own_slice ho
      have HX3 := Lib.hid (HX2.out.since hs)
      have HS3 := Lib.hid ((HSW.out.trans HS2.out).trans hs)
      clear hE ho hnn hs HRT HX2 HS2 HSW
      rw [← HN1.out] at HY3 ⊢
      go_wp2_with fail
      refine (rounds_any _).mono ?_
      rintro e w4 ⟨rfl, hs⟩
      have HS4 := Lib.hid (HS3.out.trans hs)
      have HX4 := Lib.hid (HX3.out.since hs)
      have HY4 := Lib.hid (HY3.out.since hs)
      have HEQ := Lib.hid (EqualG_same _ _ E w4 HC2.out HX4.out HY4.out)
      clear hs HS3 HX3 HY3
      go_wp2_with fail
      refine (HEQ.out).mono ?_
      rintro e w5 ⟨rfl, hs⟩
      have HS5 := Lib.hid (HS4.out.trans hs)
      clear hs HS4 HX4 HY4 HEQ
      go_wp2_with fail
      go_ret
      exact ⟨rfl, HS5.out⟩
theorem Order_walkL (v : Value) (l : List Int) (kk : Int) (w : World) (hi : IntsB w v l w.heap.size) (_ : -9223372036854775808 ≤ kk ∧ kk ≤ 9223372036854775807) :
    Calls Try.prog 4 #[v, .int .i64 kk] w fun e w' => e = .returned (.bool true) ∧ Since w w' := Order_walk v l kk w hi (ints_len hi)
end Go.Proofs.Ytdbknodifpmmoaa
