/-
  The walk of hull.Has at points of the hull. Conditions: bounds of the numbers.
-/
import Derived.Test.YtcckekdfeeghaaaBufG
namespace Go.Proofs.Ytcckekdfeeghaaa
set_option linter.unusedSimpArgs false
set_option linter.unusedVariables false
open Go.RowKit Go.BigFrame
attribute [local go_sem ↓] eqPt neqPt

theorem hull_ok {l : List Pt2} (h : ∀ q ∈ l, okP q.1 q.2 = true) : ∀ q ∈ hullV l, okP q.1 q.2 = true := by
  have hS : ∀ q ∈ hullS l, okP q.1 q.2 = true := fun q hq => by
    have := cmpL_mem hq
    unfold srtL at this
    exact h q (List.mem_mergeSort.1 this)
  have key : ∀ (X s : List Pt2), (∀ q ∈ s, okP q.1 q.2 = true) → (∀ q ∈ X, okP q.1 q.2 = true) → ∀ q ∈ X.foldl pushC s, okP q.1 q.2 = true := by
    intro X
    induction X with
    | nil => exact fun s h _ => h
    | cons p X ih =>
      intro s hs hX
      refine ih _ (fun q hq => ?_) (fun q hq => hX q (List.mem_cons_of_mem _ hq))
      unfold pushC at hq
      rcases List.mem_cons.1 hq with rfl | hq
      · exact hX q (by simp)
      · exact popC_ok hs q hq
  intro q hq
  unfold hullV hullX at hq
  split at hq
  · exact hS q hq
  · rcases List.mem_append.1 hq with hq | hq
    · exact key (hullS l) [] (by simp) hS q (List.mem_of_mem_tail (List.mem_reverse.1 hq))
    · exact key (hullS l).reverse [] (by simp) (fun q hq => hS q (by simpa using hq)) q (List.mem_of_mem_tail (List.mem_reverse.1 hq))

set_option maxRecDepth 100000 in
set_option maxHeartbeats 4000000 in
theorem HasH_any (v : Value) (l H : List Pt2) (p : Pt2) (w : World) (hv : PtsB w v l w.heap.size) (hne : l ≠ []) (hlen : l.length ≤ 1000000) (hok : ∀ q ∈ l, okP q.1 q.2 = true) (hp : okP p.1 p.2 = true) (hH : hullV l = H) (h3 : 3 ≤ H.length) (hl : H.length ≤ 1000000)
    (hin : ∀ i, i < H.length → 0 ≤ crs (pAt H i) (pAt H ((i + 1) % H.length)) p) :
    Calls Try.prog 42 #[v, .agg #[.int .i64 p.1, .int .i64 p.2]] w fun e w' => e = .returned (.bool true) ∧ Since w w' := by
  have HV := Lib.hid hv
  have HOK : Hid (∀ q ∈ H, okP q.1 q.2 = true) := by rw [← hH]; exact hull_ok hok
  have HOF := Lib.hid (fun (w' : World) (h : PtsB w' v l w'.heap.size) => OfH_any sort_spec rev_spec v l w' h hne hlen hok)
  rw [hH] at HOF
  have HIN := Lib.hid hin
  clear hv hne hlen hok hH hin
  go_enter Try.func42, Try.ntmps42
  go_wp2_with fail
  refine (Clamp_val hp _).mono ?_
  rintro e w1 ⟨rfl, hs⟩
  have hb1 := hs.blk (Blk.new w 23 #[.int .i64 p.1, .int .i64 p.2])
  have HS1 := Lib.hid (Since.trans ((Since.rfl_ w).alloc (.cells #[.int .i64 p.1, .int .i64 p.2] 23)) hs)
  have HB1 := Lib.hid hb1
  have p0 : w1.cell? ⟨w.heap.size, 0, none⟩ = some (.int .i64 p.1) := hb1.cell 0
  have p1 : w1.cell? ⟨w.heap.size, 1, none⟩ = some (.int .i64 p.2) := hb1.cell 1
  have f0 := hb1.frozen 0
  have f1 := hb1.frozen 1
  clear hs hb1
  go_upto_region 2 with fail
  refine atW (fun w' => Since w w' ∧ Blk w' w.heap.size 23 #[.int .i64 p.1, .int .i64 p.2]) ⟨(HS1.out.setCell (Nat.le_refl _) _).setCell (Nat.le_refl _) _, Blk.pair HB1.out⟩ ?_
  clear HS1 HB1 p0 p1 f0 f1
  rintro w2 ⟨hs, hb⟩
  have hof := HOF.out w2 ((HV.out.below hs).keep hs.size fun g cs _ h => h)
  have HOF2 := Lib.hid hof
  have HS2 := Lib.hid hs
  have HB2 := Lib.hid hb
  clear hof hs hb
  go_wp2_with fail
  refine (HOF2.out).mono ?_
  rintro e w3 ⟨vh, rfl, ho, hs⟩
  obtain ⟨g, c, rfl⟩ := own_some ho (by omega)
  have HO := Lib.hid ho
  have HS3 := Lib.hid (HS2.out.trans hs)
  have HB3 := Lib.hid (hs.blk HB2.out)
  clear ho hs HOF2 HS2 HB2
  obtain ⟨n, hn⟩ : ∃ n, n = H.length := ⟨_, rfl⟩
  rw [← hn] at h3 hl HO ⊢
  have HN := Lib.hid hn
  clear hn
  have z0 : ((n : Int) == 0) = false := by rw [beq_eq_false_iff_ne]; omega
  have z1 : ((n : Int) == 1) = false := by rw [beq_eq_false_iff_ne]; omega
  have z2 : ((n : Int) == 2) = false := by rw [beq_eq_false_iff_ne]; omega
  go_wp2_with fail
  go_loopw [34] (fun v wr => ∃ k : Nat, k ≤ n ∧ v = .int .i64 k ∧ Hid (Since w3 wr)) (fun v _ => n - (intOf v).toNat)
  case atStart => exact ⟨0, by omega, rfl, Since.rfl_ _⟩
  case round =>
    obtain ⟨k, hk, rfl, HR⟩ := hrel
    rcases Nat.lt_or_ge k n with hlt | hge
    · have hz3 : decide ((k : Int) < (n : Int)) = true := by rw [decide_eq_true_eq]; omega
      obtain ⟨j, HJ⟩ : ∃ j, Hid (j = (k + 1) % n) := ⟨_, rfl⟩
      have hjn : j < n := by rw [HJ.out]; exact Nat.mod_lt _ (by omega)
      obtain ⟨x, HX⟩ : ∃ x : Pt2, Hid (x = pAt H k) := ⟨_, rfl⟩
      obtain ⟨y, HY⟩ : ∃ y : Pt2, Hid (y = pAt H j) := ⟨_, rfl⟩
      have hob := own_since HR.out HO.out
      have cell : ∀ i, i < n → wr.cell? ⟨g, i * 2, none⟩ = some (.int .i64 (pAt H i).1) ∧ wr.cell? ⟨g, i * 2 + 1, none⟩ = some (.int .i64 (pAt H i).2) := fun i hi => by
        have hq := (own_ptsB hob HN.out (hob.lt g rfl).2).pts
        obtain ⟨a', c', hv, hpts⟩ := hq
        injection hv with hv1 hv2 hv3
        subst hv1 hv3
        obtain ⟨g', o', ha, e0, e1⟩ := hpts i (by rw [← HN.out]; exact hi)
        injection ha with ha
        injection ha with ha1 ha2
        subst ha1 ha2
        rw [Nat.zero_add] at e0 e1
        exact ⟨e0, e1⟩
      obtain ⟨x0, x1⟩ := cell k hlt
      obtain ⟨y0, y1⟩ := cell j hjn
      rw [← HX.out] at x0 x1
      rw [← HY.out] at y0 y1
      have hbp := HR.out.blk HB3.out
      have p0 : wr.cell? ⟨w.heap.size, 0, none⟩ = some (.int .i64 p.1) := hbp.cell 0
      have p1 : wr.cell? ⟨w.heap.size, 1, none⟩ = some (.int .i64 p.2) := hbp.cell 1
      have HT : Hid (decide (turnV x.1 x.2 y.1 y.2 p.1 p.2 < 0) = false) := by
        show _ = _
        rw [HX.out, HY.out, turn_crs (HOK.out _ (pAt_mem (by rw [← HN.out]; exact hlt))) (HOK.out _ (pAt_mem (by rw [← HN.out]; exact hjn))) hp, cmpI_lt, decide_eq_false_iff_not]
        have := HIN.out k (by rw [← HN.out]; exact hlt)
        rw [← HN.out, ← HJ.out] at this
        omega
      have jw : ((k : Int) + 1).tmod (n : Int) = (j : Int) := by
        rw [Int.tmod_eq_emod_of_nonneg (by omega), HJ.out]; norm_cast
      have jw2 : ((k : Int) + 1) % (n : Int) = (j : Int) := by rw [HJ.out]; norm_cast
      have j0 : (0 : Int) ≤ (j : Int) := by omega
      have j1 : (j : Int) < (n : Int) := by omega
      have j2 : (0 : Int) ≤ (k : Int) := by omega
      have j3 : (k : Int) < (n : Int) := by omega
      have j4 : ((n : Int) = 0) = False := by simp; omega
      clear cell hob hbp z0 z1 z2
      go_upto_region 13 with fail
      refine region_cls (fun w' => w'.cell? ⟨g, k * 2, none⟩ = some (.int .i64 x.1) ∧ w'.cell? ⟨g, k * 2 + 1, none⟩ = some (.int .i64 x.2) ∧ w'.cell? ⟨g, j * 2, none⟩ = some (.int .i64 y.1) ∧ w'.cell? ⟨g, j * 2 + 1, none⟩ = some (.int .i64 y.2) ∧ w'.cell? ⟨w.heap.size, 0, none⟩ = some (.int .i64 p.1) ∧ w'.cell? ⟨w.heap.size, 1, none⟩ = some (.int .i64 p.2) ∧ Since wr w') (by kernel_rfl) (by kernel_rfl) (by (repeat' refine And.intro ?_ ?_) <;> first | (simp (maxDischargeDepth := 9) [x0, x1, y0, y1, p0, p1,  cSetS, cSetO, cellNew, World.cell?_alloc_some, cellDrew]; done) | (repeat (first | with_reducible assumption | with_reducible exact Since.rfl_ _ | refine Since.setCell ?_ (by (try dsimp only); omega) _ | refine Since.alloc ?_ _ | refine Since.drew ?_))) ?_
      repeat (go_big_quiet_step ((first | (intro hC; go_at_call 80; refine (Turn_any _ _ _ _ _ _ _).mono ?_; rintro e w' ⟨rfl, hb⟩; refine ⟨rfl, ?_⟩; have k1 := keepC hb; have k2 := keepS hb; have hC := hC.out; (try dsimp only at hC); simp [Cls, hC, k1, k2]) | (intro hC; have hC := hC.out; (try simp only [hC, Result.andThen]); first | exact ⟨True.intro, rfl⟩ | exact ⟨rfl, rfl⟩ | rfl))))
      refine cls_end ?_
      rintro w4 ⟨-, -, -, -, -, -, hs⟩
      have HR4 := Lib.hid (HR.out.trans hs)
      clear hs x0 x1 y0 y1 p0 p1 HR
      rw [HT.out]
      go_wp2_with fail
      go_roundw
      case rel => exact ⟨k + 1, by omega, by go_num, HR4⟩
      case measure => simp [intOf]; omega
    · obtain rfl : k = n := by omega
      have hz3 : decide ((k : Int) < (k : Int)) = false := by rw [decide_eq_false_iff_not]; omega
      go_wp2_with fail
      go_ret
      exact ⟨rfl, HS3.out.trans HR.out⟩
end Go.Proofs.Ytcckekdfeeghaaa
