/-
  The walk of ring.Check at a hull's corners. Conditions: the corners of a hull.
-/
import Derived.Test.YtcckekdfeeghaaaBufT
namespace Go.Proofs.Ytcckekdfeeghaaa
set_option linter.unusedSimpArgs false
set_option linter.unusedVariables false
open Go.RowKit Go.BigFrame
attribute [local go_sem ↓] eqPt neqPt

theorem OkP_val {x y : Int} {b : Bool} (h : okP x y = b) (w : World) : Calls Try.prog 70 #[.agg #[.int .i64 x, .int .i64 y]] w fun e w' => e = .returned (.bool b) ∧ Since w w' := h ▸ Ok_any x y w
theorem badRing_any (p : Pt2) (w : World) (h : okP p.1 p.2 = true) : Calls Try.prog 92 #[.agg #[.int .i64 p.1, .int .i64 p.2]] w fun e w' => e = .returned (.bool false) ∧ Since w w' := by
  have H := Lib.hid h
  clear h
  go_enter Try.func92, Try.ntmps92
  go_wp2_with fail
  refine (OkP_val H.out _).mono ?_
  rintro e w1 ⟨rfl, hs⟩
  have HS := Lib.hid (((Since.rfl_ w).alloc _).trans hs)
  clear hs
  go_wp2
  go_ret
  exact ⟨rfl, HS.out⟩
/-- IndexFunc, ContainsFunc with a closure that says no. -/
theorem IndexRing_any (v : Value) (l : List Pt2) (w : World) (hl : l.length ≤ 1000000000000000) (hv : PtsS w v l)
    (hc : ∀ i, i < l.length → ∀ w', Since w w' → Calls Try.prog 92 #[.agg #[.int .i64 (pAt l i).1, .int .i64 (pAt l i).2]] w' fun e w'' => e = .returned (.bool false) ∧ Since w' w'') :
    Calls Try.prog 71 #[v, .func (Fn.func 92) #[] #[]] w fun e w' => e = .returned (.int .i64 (-1)) ∧ Since w w' := by
  obtain ⟨a, c, rfl, hv⟩ := hv
  have HV := Lib.hid hv
  have HC := Lib.hid hc
  clear hv hc
  go_enter Try.func71, Try.ntmps71
  go_wp2_with fail
  go_loopw [8] (fun v wr => ∃ k : Nat, k ≤ l.length ∧ v = .int .i64 k ∧ Since w wr) (fun v _ => l.length - (intOf v).toNat)
  case atStart => exact ⟨0, Nat.zero_le _, rfl, Since.rfl_ w⟩
  case round =>
    obtain ⟨k, hk, rfl, hs⟩ := hrel
    rcases Nat.lt_or_ge k l.length with hlt | hge
    · obtain ⟨g, o, ha, e0, e1⟩ := HV.out k hlt
      subst ha
      replace e0 := keepC hs _ _ e0
      replace e1 := keepC hs _ _ e1
      have HS := Lib.hid hs
      clear hs
      have HK := Lib.hid (HC.out k hlt _ HS.out)
      go_wp2_with fail
      refine (HK.out).mono ?_
      rintro e w3 ⟨rfl, hs⟩
      have HS2 := Lib.hid (HS.out.trans hs)
      clear hs HK
      go_wp2
      go_roundw
      case rel => exact ⟨k + 1, by omega, by go_num, HS2.out⟩
      case measure => simp [intOf]; omega
    · have HS := Lib.hid hs
      clear hs
      go_wp2
      go_ret
      exact ⟨rfl, HS.out⟩
theorem ContainsRing_any (v : Value) (l : List Pt2) (w : World) (hl : l.length ≤ 1000000000000000) (hv : PtsS w v l)
    (hc : ∀ i, i < l.length → ∀ w', Since w w' → Calls Try.prog 92 #[.agg #[.int .i64 (pAt l i).1, .int .i64 (pAt l i).2]] w' fun e w'' => e = .returned (.bool false) ∧ Since w' w'') :
    Calls Try.prog 21 #[v, .func (Fn.func 92) #[] #[]] w fun e w' => e = .returned (.bool false) ∧ Since w w' := by
  have H := Lib.hid hv
  have HC := Lib.hid hc
  obtain ⟨a, c, rfl, -⟩ := hv
  clear hc
  go_enter Try.func21, Try.ntmps21
  go_wp2_with fail
  refine (IndexRing_any _ l  _ hl H.out HC.out).mono ?_
  rintro e w1 ⟨rfl, hs⟩
  have HS := Lib.hid hs
  clear hs
  go_wp2
  go_ret
  exact ⟨rfl, HS.out⟩

set_option maxHeartbeats 1000000 in
theorem CheckRing_any {l H : List Pt2} (v : Value) (w : World) (hv : PtsS w v H) (hR : Ring3 l H) (ok : ∀ q ∈ H, okP q.1 q.2 = true) (hl : H.length ≤ 200) :
    Calls Try.prog 48 #[v] w fun e w' => e = .returned (.int .i64 0) ∧ Since w w' := by
  have HV := Lib.hid hv
  have HR3 := Lib.hid hR
  have HOK := Lib.hid ok
  have n3 := hR.n3
  obtain ⟨n, hn⟩ : ∃ n, n = H.length := ⟨_, rfl⟩
  obtain ⟨a, c, rfl, -⟩ := hv
  rw [← hn] at n3 hl ⊢
  have HN := Lib.hid hn
  have HCO := Lib.hid (fun w' (hs : Since w w') => ContainsRing_any _ H w' (by omega) (HV.out.keep (keepC hs)) (fun i hi w'' _ => badRing_any (pAt H i) w'' (HOK.out _ (pAt_mem hi))))
  rw [← hn] at HCO HV
  clear hn hR ok
  have g1 : decide ((200 : Int) < (n : Int)) = false := by rw [decide_eq_false_iff_not]; omega
  have g2 : decide ((n : Int) < 3) = false := by rw [decide_eq_false_iff_not]; omega
  go_enter Try.func48, Try.ntmps48
  go_wp2_with fail
  refine (HCO.out _ (Since.rfl_ w)).mono ?_
  rintro e w1 ⟨rfl, hs⟩
  have HS1 := Lib.hid hs
  clear hs HCO g1 g2
  go_wp2_with fail
  go_loopw [18] (fun v wr => ∃ i : Nat, i ≤ n ∧ v = .int .i64 i ∧ Hid (Since w wr)) (fun v _ => n - (intOf v).toNat)
  case atStart => exact ⟨0, by omega, rfl, HS1⟩
  case round =>
    obtain ⟨i, hi, rfl, HR⟩ := hrel
    rcases Nat.lt_or_ge i n with hlt | hge
    · have hz : decide ((i : Int) < (n : Int)) = true := by rw [decide_eq_true_eq]; omega
      go_wp2_with fail
      obtain ⟨wo, rfl⟩ : ∃ wo, wo = wr := ⟨_, rfl⟩
      clear hz
      go_loopw [22] (fun v wr => ∃ k : Nat, k ≤ i ∧ v = .int .i64 k ∧ Hid (Since w wr)) (fun v _ => i - (intOf v).toNat)
      case atStart => exact ⟨0, by omega, rfl, HR⟩
      case round =>
        obtain ⟨k, hk, rfl, HR2⟩ := hrel
        rcases Nat.lt_or_ge k i with hlt2 | hge2
        · have hz : decide ((k : Int) < (i : Int)) = true := by rw [decide_eq_true_eq]; omega
          have HAP := Lib.hid (apart_any (l := l) (H := H) _ k i wr (HV.out.keep (keepC HR2.out)) HR3.out HOK.out hlt2 (by rw [← HN.out]; exact hlt) (by rw [← HN.out]; omega))
          go_wp2_with fail
          refine (HAP.out).mono ?_
          rintro e w3 ⟨rfl, hs⟩
          have HR5 := Lib.hid (HR2.out.trans hs)
          clear hs HAP
          go_wp2_with fail
          go_roundw
          case rel => exact ⟨k + 1, by omega, by go_num, HR5⟩
          case measure => simp [intOf]; omega
        · obtain rfl : k = i := by omega
          have hz : decide ((k : Int) < (k : Int)) = false := by rw [decide_eq_false_iff_not]; omega
          go_wp2_with fail
          go_roundw
          case rel => exact ⟨k + 1, by omega, by go_num, HR2⟩
          case measure => simp [intOf]; omega
    · obtain rfl : i = n := by omega
      have hz : decide ((i : Int) < (i : Int)) = false := by rw [decide_eq_false_iff_not]; omega
      go_wp2_with fail
      go_ret
      exact ⟨rfl, HR.out⟩
end Go.Proofs.Ytcckekdfeeghaaa
