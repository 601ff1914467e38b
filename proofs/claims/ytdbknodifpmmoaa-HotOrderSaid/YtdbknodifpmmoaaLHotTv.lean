/-
  slices.Equal over segments, of a list and itself; the walk of HotTwice. Conditions: the argument's list.
-/
import Derived.Test.YtdbknodifpmmoaaLHotTw
import Derived.Test.YtdbknodifpmmoaaLHotAp
namespace Go.Proofs.Ytdbknodifpmmoaa
set_option linter.unusedSimpArgs false
set_option linter.unusedVariables false
open Go.RowKit Go.BigFrame
attribute [local go_sem ↓] eqSgP neqSgP

set_option maxRecDepth 100000 in
set_option maxHeartbeats 4000000 in
theorem EqualG_same (v v' : Value) (l : List Sg) (w : World) (hl : l.length ≤ 1000000000000000) (hv : SegsN w v l) (hv' : SegsN w v' l) :
    Calls Try.prog 18 #[v, v'] w fun e w' => e = .returned (.bool true) ∧ Since w w' := by
  obtain ⟨a, c, rfl⟩ := hv.slice
  obtain ⟨a', c', rfl⟩ := hv'.slice
  have HV := Lib.hid hv
  have HV' := Lib.hid hv'
  clear hv hv'
  go_enter Try.func18, Try.ntmps18
  go_wp2_with fail
  go_loopw [13] (fun v wr => ∃ k : Nat, k ≤ l.length ∧ v = .int .i64 k ∧ Hid (Since w wr)) (fun v _ => l.length - (intOf v).toNat)
  case atStart => exact ⟨0, Nat.zero_le _, rfl, Since.rfl_ w⟩
  case round =>
    obtain ⟨k, hk, rfl, HS⟩ := hrel
    rcases Nat.lt_or_ge k l.length with hlt | hge
    · obtain ⟨g, o, rfl, c0, c1, c2, c3⟩ := HV.out.cells hlt
      obtain ⟨g', o', rfl, d0, d1, d2, d3⟩ := HV'.out.cells hlt
      replace c0 := keepC HS.out _ _ c0
      replace c1 := keepC HS.out _ _ c1
      replace c2 := keepC HS.out _ _ c2
      replace c3 := keepC HS.out _ _ c3
      replace d0 := keepC HS.out _ _ d0
      replace d1 := keepC HS.out _ _ d1
      replace d2 := keepC HS.out _ _ d2
      replace d3 := keepC HS.out _ _ d3
      obtain ⟨n, hn⟩ : ∃ n, n = l.length := ⟨_, rfl⟩
      have i1 : (0 : Int) ≤ (k : Int) := by omega
      have i2 : (k : Int) < (l.length : Int) := by omega
      clear hn n
      go_upto_region 6 with fail
      refine region_cls (fun w' => w'.cell? ⟨g, o + k * 4, none⟩ = some (.int .i64 (sgAt l k).1.1) ∧ w'.cell? ⟨g, o + k * 4 + 1, none⟩ = some (.int .i64 (sgAt l k).1.2) ∧ w'.cell? ⟨g, o + k * 4 + 2, none⟩ = some (.int .i64 (sgAt l k).2.1) ∧ w'.cell? ⟨g, o + k * 4 + 3, none⟩ = some (.int .i64 (sgAt l k).2.2) ∧ w'.cell? ⟨g', o' + k * 4, none⟩ = some (.int .i64 (sgAt l k).1.1) ∧ w'.cell? ⟨g', o' + k * 4 + 1, none⟩ = some (.int .i64 (sgAt l k).1.2) ∧ w'.cell? ⟨g', o' + k * 4 + 2, none⟩ = some (.int .i64 (sgAt l k).2.1) ∧ w'.cell? ⟨g', o' + k * 4 + 3, none⟩ = some (.int .i64 (sgAt l k).2.2) ∧ Since wr w') (by kernel_rfl) (by kernel_rfl) (by (repeat' refine And.intro ?_ ?_) <;> first | (simp (maxDischargeDepth := 9) [c0, c1, c2, c3, d0, d1, d2, d3,  cSetS, cSetO, cellNew, World.cell?_alloc_some, cellDrew]; done) | (repeat (first | with_reducible assumption | with_reducible exact Since.rfl_ _ | refine Since.setCell ?_ (by (try dsimp only); omega) _ | refine Since.alloc ?_ _ | refine Since.drew ?_))) ?_
      repeat (go_big_quiet_step ((first | (intro hC; have hC := hC.out; (try simp only [hC, Result.andThen]); first | exact ⟨True.intro, rfl⟩ | exact ⟨rfl, rfl⟩ | rfl))))
      refine cls_end ?_
      clear c0 c1 c2 c3 d0 d1 d2 d3
      rintro w1 ⟨-, -, -, -, -, -, -, -, hs⟩
      have HS1 := Lib.hid (HS.out.trans hs)
      clear hs HS
      have hx : eqG (sgAt l k) (sgAt l k) = true := by unfold eqG; rw [decide_eq_true_eq]
      rw [hx]
      go_wp2_with fail
      go_roundw
      case rel => exact ⟨k + 1, by omega, by go_num, HS1⟩
      case measure => simp [intOf]; omega
    · obtain rfl : k = l.length := by omega
      go_wp2_with fail
      go_ret
      exact ⟨rfl, HS.out⟩
set_option maxRecDepth 100000 in
set_option maxHeartbeats 4000000 in
theorem Twice_walk (v : Value) (l : List Int) (w : World) (hi : IntsB w v l w.heap.size) (hlen : l.length ≤ 9223372036854775807) :
    Calls Try.prog 7 #[v] w fun e w' => e = .returned (.bool true) ∧ Since w w' := by
  have HSEG := Lib.hid (Segs_any v l w hi hlen)
  clear hi
  go_enter Try.func7, Try.ntmps7
  go_wp2_with fail
  refine (HSEG.out).mono ?_
  rintro e w1 ⟨x, rfl, ho, hs, hn⟩
  have HRM := Lib.hid (Round_m x (msegs l) w1 (own_segsN ho hn) (msegs_len l) (msegs_ok l))
  have HS1 := Lib.hid hs
  clear ho hs hn HSEG
  go_wp2_with fail
  refine (HRM.out).mono ?_
  rintro e w2 ⟨x, E, rfl, hE, ho, hn, hs⟩
  have HV2 := Lib.hid (own_segsN ho hn)
  have HS2 := Lib.hid (HS1.out.trans hs)
  -- the second rounding
  have HR2 : Hid (E.length ≤ 1000 ∧ Calls Try.prog 17 #[x] w2 fun e w' => ∃ y, e = .returned (.tuple #[y, .int .i64 0]) ∧ SegsN w' y E ∧ Since w2 w') := by
    by_cases hne : E = []
    · subst hne
      refine ⟨by simp, ?_⟩
      rw [hn rfl]
      refine (Round_nil w2).mono ?_
      rintro e w' ⟨rfl, hs⟩
      exact ⟨_, rfl, ⟨fun _ => rfl, fun h => absurd rfl h⟩, hs⟩
    · obtain ⟨h1, h2, h3, h4⟩ := rnd_again (msegs_len l) (msegs_ok l) hE hne
      refine ⟨by omega, ?_⟩
      refine (Round_any x E w2 (HV2.out.2 hne) (List.length_pos_iff.2 hne) (by omega) (hE.good (msegs_ok l)).ok 0 h2 h3).mono ?_
      rintro e w' ⟨y, rfl, ho', hs'⟩
      rw [h4] at ho'
      exact ⟨y, rfl, own_segsN ho' (fun h => absurd h hne), hs'⟩
  obtain ⟨a, c, rfl⟩ := HV2.out.slice
  obtain ⟨n, HN⟩ : ∃ n, Hid (n = E.length) := ⟨_, rfl⟩
  have HEQ := Lib.hid (fun v' w' (h1 : SegsN w' (.slice a E.length c) E) (h2 : SegsN w' v' E) => EqualG_same _ v' E w' (Nat.le_trans HR2.out.1 (by decide)) h1 h2)
  rw [← HN.out] at HV2 HR2 HEQ ⊢
  clear hE ho hn hs HRM HS1
  go_wp2_with fail
  refine (HR2.out.2).mono ?_
  rintro e w3 ⟨y, rfl, hy, hs⟩
  have HS3 := Lib.hid (HS2.out.trans hs)
  have HV3 := Lib.hid (HV2.out.since hs)
  have HY3 := Lib.hid hy
  obtain ⟨a', c', rfl⟩ := hy.slice
  rw [← HN.out] at HY3 ⊢
  clear hy hs HS2 HV2 HR2
  go_wp2_with fail
  refine (rounds_any _).mono ?_
  rintro e w4 ⟨rfl, hs⟩
  have HS4 := Lib.hid (HS3.out.trans hs)
  have HV4 := Lib.hid (HV3.out.since hs)
  have HY4 := Lib.hid (HY3.out.since hs)
  clear hs HS3 HV3 HY3
  go_wp2_with fail
  refine (HEQ.out _ _ HV4.out HY4.out).mono ?_
  rintro e w5 ⟨rfl, hs⟩
  have HS5 := Lib.hid (HS4.out.trans hs)
  clear hs HS4 HV4 HY4 HEQ
  go_wp2_with fail
  go_ret
  exact ⟨rfl, HS5.out⟩
theorem Twice_walkL (v : Value) (l : List Int) (w : World) (hi : IntsB w v l w.heap.size) :
    Calls Try.prog 7 #[v] w fun e w' => e = .returned (.bool true) ∧ Since w w' := Twice_walk v l w hi (ints_len hi)
end Go.Proofs.Ytdbknodifpmmoaa
