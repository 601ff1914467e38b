/-
  The walk of HotApart. Conditions: the argument's list.
-/
import Derived.Test.YtdbknodifpmmoaaK19
namespace Go.Proofs.Ytdbknodifpmmoaa
set_option linter.unusedSimpArgs false
set_option linter.unusedVariables false
open Go.RowKit Go.BigFrame
attribute [local go_sem ↓] eqPt neqPt

def eqB (p q : Pt2) : Bool := p.1 == q.1 && p.2 == q.2
theorem eqB_iff {p q : Pt2} : eqB p q = true ↔ p = q := by
  unfold eqB; rw [Bool.and_eq_true, beq_iff_eq, beq_iff_eq]
  exact ⟨fun h => Prod.ext h.1 h.2, fun h => by rw [h]; exact ⟨rfl, rfl⟩⟩
theorem SegsN.cells {w : World} {a : Option Addr} {n c : Nat} {m : List Sg} (h : SegsN w (.slice a n c) m) {k : Nat} (hk : k < m.length) : ∃ g o : Nat, a = some ⟨g, o, none⟩ ∧ w.cell? ⟨g, o + k * 4, none⟩ = some (.int .i64 (sgAt m k).1.1) ∧ w.cell? ⟨g, o + k * 4 + 1, none⟩ = some (.int .i64 (sgAt m k).1.2) ∧ w.cell? ⟨g, o + k * 4 + 2, none⟩ = some (.int .i64 (sgAt m k).2.1) ∧ w.cell? ⟨g, o + k * 4 + 3, none⟩ = some (.int .i64 (sgAt m k).2.2) := by
  obtain ⟨a', c', hv, -, hx⟩ := h.2 (fun e => by rw [e] at hk; exact absurd hk (Nat.not_lt_zero _))
  injection hv with h1 h2 h3
  subst h1
  exact hx k hk
theorem SegsN.cap {w : World} {a : Option Addr} {n c : Nat} {m : List Sg} (h : SegsN w (.slice a n c) m) : m.length ≤ c := by
  by_cases hm : m = []
  · rw [hm]; simp
  · obtain ⟨a', c', hv, hc, hx⟩ := h.2 hm
    injection hv with h1 h2 h3
    omega
set_option maxRecDepth 100000 in
set_option maxHeartbeats 4000000 in
theorem Apart_walk (v : Value) (l : List Int) (w : World) (hi : IntsB w v l w.heap.size) (hlen : l.length ≤ 9223372036854775807) :
    Calls Try.prog 6 #[v] w fun e w' => e = .returned (.bool true) ∧ Since w w' := by
  have HSEG := Lib.hid (Segs_any v l w hi hlen)
  clear hi
  go_enter Try.func6, Try.ntmps6
  go_wp2_with fail
  refine (HSEG.out).mono ?_
  rintro e w1 ⟨x, rfl, ho, hs, hn⟩
  have HRM := Lib.hid (Round_m x (msegs l) w1 (own_segsN ho hn) (msegs_len l) (msegs_ok l))
  have HS1 := Lib.hid hs
  clear ho hs hn HSEG
  go_wp2_with fail
  refine (HRM.out).mono ?_
  rintro e w2 ⟨x, E, rfl, hE, ho, hn, hs⟩
  have HE := Lib.hid (hE.good (msegs_ok l))
  have HS2 := Lib.hid (HS1.out.trans hs)
  have hsn := own_segsN ho hn
  obtain ⟨a, c, rfl⟩ := hsn.slice
  have hcm : E.length ≤ maxLen := by
    obtain ⟨-, ⟨h1, -⟩ | ⟨g', cap, cur, h1, -, -, hc, hm, -⟩⟩ := ho
    · injection h1 with h1 h2 h3; omega
    · omega
  have HV := Lib.hid hsn
  have hcap := hsn.cap
  obtain ⟨n, hnn⟩ : ∃ n, n = E.length := ⟨_, rfl⟩
  have HN := Lib.hid hnn
  rw [← hnn] at hcm hcap HV ⊢
  unfold maxLen at hcm
  clear ho hs hn hE HRM HS1 hsn hnn
  go_wp2_with fail
  refine (rounds_any _).mono ?_
  rintro e w3 ⟨rfl, hs⟩
  have HS3 := Lib.hid (HS2.out.trans hs)
  have HV3 := Lib.hid (HV.out.since hs)
  clear hs HS2 HV
  go_wp2_with fail
  go_loopw [25] (fun v25 wr => ∃ k : Nat, k ≤ n ∧ v25 = .int .i64 k ∧ Hid (Since w3 wr)) (fun v25 _ => n - (intOf v25).toNat)
  case atStart => exact ⟨0, by omega, by go_num, Since.rfl_ w3⟩
  case round =>
    obtain ⟨k, hk, rfl, HR⟩ := hrel
    rcases Nat.lt_or_ge k n with hlt | hge
    · have hz : decide ((k : Int) < (n : Int)) = true := by rw [decide_eq_true_eq]; omega
      obtain ⟨g, o, rfl, h1, h2, h3, h4⟩ := HV3.out.cells (k := k) (by rw [← HN.out]; exact hlt)
      obtain ⟨s, hs⟩ : ∃ s, s = sgAt E k := ⟨_, rfl⟩
      have HSM : Hid (s ∈ E) := by show s ∈ E; rw [hs]; exact sgAt_mem (by rw [← HN.out]; exact hlt)
      rw [← hs] at h1 h2 h3 h4
      have h1 := keepC HR.out _ _ h1
      have h2 := keepC HR.out _ _ h2
      have h3 := keepC HR.out _ _ h3
      have h4 := keepC HR.out _ _ h4
      have HSE := Lib.hid hs
      have i1 : (0 : Int) ≤ (k : Int) := by omega
      have i2 : (k : Int) < (n : Int) := by omega
      have i3 : (k : Int) ≤ (n : Int) := by omega
      clear hs
      go_upto_region 7 with fail
      obtain ⟨G6, HG6⟩ : ∃ G6, G6 = wr.heap.size := ⟨_, rfl⟩
      rw [← HG6]
      refine atW (fun w' => Hid (Since w3 w') ∧ Hid (Blk w' G6 27 #[.int .i64 s.1.1, .int .i64 s.1.2, .int .i64 s.2.1, .int .i64 s.2.2])) ⟨HR.out.alloc _, Blk.new' HG6⟩ ?_
      clear HR HG6 h1 h2 h3 h4
      rintro w4 ⟨HS4, HB4⟩
      go_upto_region 8 with fail
      go_loopw [34] (fun v34 wr => ∃ j : Nat, j ≤ k ∧ v34 = .int .i64 j ∧ Hid (Since w3 wr) ∧ Hid (Blk wr G6 27 #[.int .i64 s.1.1, .int .i64 s.1.2, .int .i64 s.2.1, .int .i64 s.2.2])) (fun v34 _ => k - (intOf v34).toNat)
      case atStart => exact ⟨0, by omega, by go_num, HS4, HB4⟩
      case round =>
        clear HS4 HB4
        obtain ⟨j, hj, rfl, HR, HB⟩ := hrel
        rcases Nat.lt_or_ge j k with hlt2 | hge2
        · have hz2 : decide ((j : Int) < (k : Int)) = true := by rw [decide_eq_true_eq]; omega
          obtain ⟨g', o', hgo, h1, h2, h3, h4⟩ := HV3.out.cells (k := j) (by rw [← HN.out]; omega)
          injection hgo with hgo
          injection hgo with hg1 hg2
          subst hg1 hg2
          obtain ⟨t, ht⟩ : ∃ t, t = sgAt E j := ⟨_, rfl⟩
          have HTM : Hid (t ∈ E) := by show t ∈ E; rw [ht]; exact sgAt_mem (by rw [← HN.out]; omega)
          have HST : Hid (s ≠ t) := by
            show s ≠ t
            rw [ht, HSE.out]
            intro e
            have hp := List.pairwise_iff_getElem.1 HE.out.srt j k (by rw [← HN.out]; omega) (by rw [← HN.out]; omega) hlt2
            have e1 : sgAt E j = E[j]'(by rw [← HN.out]; omega) := by simp [sgAt, List.getD, show j < E.length by rw [← HN.out]; omega]
            have e2 : sgAt E k = E[k]'(by rw [← HN.out]; omega) := by simp [sgAt, List.getD, show k < E.length by rw [← HN.out]; omega]
            rw [← e1, ← e2, e, lxG_irr] at hp
            cases hp
          rw [← ht] at h1 h2 h3 h4
          have h1 := keepC HR.out _ _ h1
          have h2 := keepC HR.out _ _ h2
          have h3 := keepC HR.out _ _ h3
          have h4 := keepC HR.out _ _ h4
          have j1 : (0 : Int) ≤ (j : Int) := by omega
          have j2 : (j : Int) < (k : Int) := by omega
          clear ht
          go_upto_region 10 with fail
          obtain ⟨G8, HG8⟩ : ∃ G8, G8 = wr.heap.size := ⟨_, rfl⟩
          rw [← HG8]
          refine atW (fun w' => Hid (Since w3 w') ∧ Blk w' G6 27 #[.int .i64 s.1.1, .int .i64 s.1.2, .int .i64 s.2.1, .int .i64 s.2.2] ∧ Blk w' G8 27 #[.int .i64 t.1.1, .int .i64 t.1.2, .int .i64 t.2.1, .int .i64 t.2.2]) ⟨HR.out.alloc _, HB.out.alloc _, Blk.new' HG8⟩ ?_
          clear HR HB HG8 h1 h2 h3 h4
          rintro w5 ⟨HS5, hb6, hb8⟩
          obtain ⟨mv, HMV⟩ : ∃ mv, Hid (mv = smeetV s.1 s.2 t.1 t.2) := ⟨_, rfl⟩
          obtain ⟨q, HQ⟩ : ∃ q, Hid (q = (((eqB s.1 t.1 || eqB s.1 t.2) || eqB s.2 t.1) || eqB s.2 t.2)) := ⟨_, rfl⟩
          have HM := Lib.hid (fun w => SMeetG_any (HE.out.ok s HSM.out).1 (HE.out.ok s HSM.out).2.1 (HE.out.ok t HTM.out).1 (HE.out.ok t HTM.out).2.1 w)
          rw [← HMV.out] at HM
          have a_0 := hb6.cell 0
          have a_1 := hb6.cell 1
          have a_2 := hb6.cell 2
          have a_3 := hb6.cell 3
          simp only [List.getElem?_toArray, List.getElem?_cons_zero, List.getElem?_cons_succ] at a_0 a_1 a_2 a_3
          have b_0 := hb8.cell 0
          have b_1 := hb8.cell 1
          have b_2 := hb8.cell 2
          have b_3 := hb8.cell 3
          simp only [List.getElem?_toArray, List.getElem?_cons_zero, List.getElem?_cons_succ] at b_0 b_1 b_2 b_3
          have HBB := Lib.hid (And.intro hb6 hb8)
          clear hb6 hb8
          go_cut [9] from 35 to 83 (fun v9 w' => v9 = .bool q ∧ Hid (w' = w5))
          case first =>
            obtain ⟨q1, H1⟩ : ∃ q1, Hid (q1 = eqB s.1 t.1) := ⟨_, rfl⟩
            obtain ⟨q2, H2⟩ : ∃ q2, Hid (q2 = eqB s.1 t.2) := ⟨_, rfl⟩
            obtain ⟨q3, H3⟩ : ∃ q3, Hid (q3 = eqB s.2 t.1) := ⟨_, rfl⟩
            obtain ⟨q4, H4⟩ : ∃ q4, Hid (q4 = eqB s.2 t.2) := ⟨_, rfl⟩
            rw [← H1.out, ← H2.out, ← H3.out, ← H4.out] at HQ
            have e1 : (s.1.1 == t.1.1 && s.1.2 == t.1.2) = q1 := H1.out.symm
            have e2 : (s.1.1 == t.2.1 && s.1.2 == t.2.2) = q2 := H2.out.symm
            have e3 : (s.2.1 == t.1.1 && s.2.2 == t.1.2) = q3 := H3.out.symm
            have e4 : (s.2.1 == t.2.1 && s.2.2 == t.2.2) = q4 := H4.out.symm
            clear H1 H2 H3 H4
            cases q1
            · cases q2
              · cases q3
                · go_wp2_with fail
                  go_meet
                  exact ⟨by rw [HQ.out]; rfl, Lib.hid rfl⟩
                · go_wp2_with fail
                  go_meet
                  exact ⟨by rw [HQ.out]; rfl, Lib.hid rfl⟩
              · go_wp2_with fail
                go_meet
                exact ⟨by rw [HQ.out]; rfl, Lib.hid rfl⟩
            · go_wp2_with fail
              go_meet
              exact ⟨by rw [HQ.out]; rfl, Lib.hid rfl⟩
          case rest =>
            obtain ⟨rfl, hww⟩ := hcut
            obtain rfl := hww.out
            go_wp2_with fail
            refine (HM.out _).mono ?_
            rintro e w6 ⟨rfl, hs⟩
            have HS6 := Lib.hid (HS5.out.trans hs)
            have HB6 := Lib.hid (hs.blk HBB.out.1)
            have HF := HE.out.meet s HSM.out t HTM.out HST.out
            rw [← HMV.out] at HF
            obtain ⟨f1, f2⟩ := HF
            have HQ2 : Hid (mv = 1 → q = true) := by
              show _ → _
              intro h
              rw [HQ.out]
              rcases f2 h with e | e | e | e
              · rw [eqB_iff.2 e.symm]; rfl
              · rw [eqB_iff.2 e.symm]; simp
              · rw [eqB_iff.2 e.symm]; simp
              · rw [eqB_iff.2 e.symm]; simp
            clear hs HS5 HBB HM a_0 a_1 a_2 a_3 b_0 b_1 b_2 b_3 f2 HQ
            have m1 : decide ((1 : Int) < mv) = false := by rw [decide_eq_false_iff_not]; omega
            by_cases hm : mv = 1
            · have hq := HQ2.out hm
              subst hq
              have m2 : (mv == 1) = true := by rw [beq_iff_eq]; exact hm
              clear hm
              go_wp2_with fail
              go_roundw
              case rel => exact ⟨j + 1, by omega, by go_num, HS6, HB6⟩
              case measure => simp [intOf]; omega
            · have m2 : (mv == 1) = false := by rw [beq_eq_false_iff_ne]; exact hm
              clear hm
              go_wp2_with fail
              go_roundw
              case rel => exact ⟨j + 1, by omega, by go_num, HS6, HB6⟩
              case measure => simp [intOf]; omega
        · obtain rfl : j = k := by omega
          have hz2 : decide ((j : Int) < (j : Int)) = false := by rw [decide_eq_false_iff_not]; omega
          go_wp2_with fail
          go_roundw
          case rel => exact ⟨j + 1, by omega, by go_num, HR⟩
          case measure => simp [intOf]; omega
    · obtain rfl : k = n := by omega
      have hz : decide ((k : Int) < (k : Int)) = false := by rw [decide_eq_false_iff_not]; omega
      have HSW := Lib.hid (HS3.out.trans HR.out)
      go_wp2_with fail
      go_ret
      exact ⟨rfl, HSW.out⟩
theorem Apart_walkL (v : Value) (l : List Int) (w : World) (hi : IntsB w v l w.heap.size) :
    Calls Try.prog 6 #[v] w fun e w' => e = .returned (.bool true) ∧ Since w w' := Apart_walk v l w hi (ints_len hi)
end Go.Proofs.Ytdbknodifpmmoaa
