/-
  Slices of points as lists; the walk of clip.IsLine. Conditions: bounds of the numbers.
-/
import Derived.Test.YtcckekdfeeghaaaClipA
namespace Go.Proofs.Ytcckekdfeeghaaa
set_option linter.unusedSimpArgs false
set_option linter.unusedVariables false
open Go.RowKit Go.BigFrame
attribute [local go_sem ↓] eqPt neqPt

abbrev Pt2 := Int × Int
def pAt (l : List Pt2) (i : Nat) : Pt2 := l.getD i (0, 0)
/-- The slice v reads as the points l. -/
def PtsS (w : World) (v : Value) (l : List Pt2) : Prop :=
  ∃ a c, v = .slice a l.length c ∧ ∀ i, i < l.length → ∃ g o : Nat, a = some ⟨g, o, none⟩ ∧ w.cell? ⟨g, o + i * 2, none⟩ = some (.int .i64 (pAt l i).1) ∧ w.cell? ⟨g, o + i * 2 + 1, none⟩ = some (.int .i64 (pAt l i).2)
theorem PtsS.keep {w w' : World} {v : Value} {l : List Pt2} (h : PtsS w v l) (k : ∀ p u, w.cell? p = some u → w'.cell? p = some u) : PtsS w' v l := by
  obtain ⟨a, c, hv, h⟩ := h
  refine ⟨a, c, hv, fun i hi => ?_⟩
  obtain ⟨g, o, ha, h1, h2⟩ := h i hi
  exact ⟨g, o, ha, k _ _ h1, k _ _ h2⟩
theorem PtsS.since {w w' : World} {v : Value} {l : List Pt2} (h : PtsS w v l) (k : Since w w') : PtsS w' v l := h.keep (keepC k)

/-- The point at i may follow the one before. -/
def goodAt (l : List Pt2) (i : Nat) : Bool := okP (pAt l i).1 (pAt l i).2 && !(decide (0 < i) && ((pAt l i).1 == (pAt l (i - 1)).1 && (pAt l i).2 == (pAt l (i - 1)).2))
def lineB (l : List Pt2) : Bool := (List.range l.length).all (goodAt l) && decide (2 ≤ l.length) && decide (l.length ≤ 200)
theorem lineB_no {l : List Pt2} {i : Nat} (h : i < l.length) (hg : goodAt l i = false) : lineB l = false := by
  have : (List.range l.length).all (goodAt l) = false := by
    rw [List.all_eq_false]
    exact ⟨i, List.mem_range.2 h, by simp [hg]⟩
  unfold lineB; rw [this]; rfl
theorem lineB_end {l : List Pt2} (h : ∀ i, i < l.length → goodAt l i = true) : lineB l = (decide ((2 : Int) ≤ l.length) && decide ((l.length : Int) ≤ 200)) := by
  have : (List.range l.length).all (goodAt l) = true := List.all_eq_true.2 fun i hi => h i (List.mem_range.1 hi)
  unfold lineB; rw [this, Bool.true_and]
  rw [Bool.eq_iff_iff]; simp only [Bool.and_eq_true, decide_eq_true_eq]; omega

theorem Ok_val {x y : Int} {b : Bool} (h : okP x y = b) (w : World) : Calls Try.prog 70 #[.agg #[.int .i64 x, .int .i64 y]] w fun e w' => e = .returned (.bool b) ∧ Since w w' := h ▸ Ok_any x y w

set_option maxHeartbeats 1000000 in
theorem IsLine_any (v : Value) (l : List Pt2) (w : World) (hl : l.length ≤ 1000000000000000) (hv : PtsS w v l) :
    Calls Try.prog 20 #[v] w fun e w' => e = .returned (.bool (lineB l)) ∧ Since w w' := by
  obtain ⟨a, c, rfl, hv⟩ := hv
  have HV := Lib.hid hv
  clear hv
  go_enter Try.func20, Try.ntmps20
  go_wp2
  go_loopw [7] (fun v wr => ∃ k : Nat, k ≤ l.length ∧ v = .int .i64 k ∧ Hid (∀ i, i < k → goodAt l i = true) ∧ Since w wr) (fun v _ => l.length - (intOf v).toNat)
  case atStart => exact ⟨0, Nat.zero_le _, rfl, fun i hi => absurd hi (Nat.not_lt_zero _), Since.rfl_ w⟩
  case round =>
    obtain ⟨k, hk, rfl, HG, hs⟩ := hrel
    rcases Nat.lt_or_ge k l.length with hlt | hge
    · obtain ⟨g, o, ha, e0, e1⟩ := HV.out k hlt
      subst ha
      replace e0 := keepC hs _ _ e0
      replace e1 := keepC hs _ _ e1
      have HS := Lib.hid hs
      clear hs
      go_upto_region 4 with fail
      go_cut [27] from 8 to 28 (fun v27 w' => v27 = .bool (!goodAt l k) ∧ Since w w')
      case first =>
        cases h1 : okP (pAt l k).1 (pAt l k).2
        · have HG1 : Hid (goodAt l k = false) := by show _ = _; unfold goodAt; rw [h1]; rfl
          have HO := Lib.hid h1
          clear h1
          refine region_cls (fun w' => w'.cell? ⟨wr.heap.size, 0, none⟩ = some (.int .i64 (pAt l k).1) ∧ w'.cell? ⟨wr.heap.size, 1, none⟩ = some (.int .i64 (pAt l k).2) ∧ Since wr w') (by kernel_rfl) (by kernel_rfl) (by (repeat' refine And.intro ?_ ?_) <;> first | (simp (maxDischargeDepth := 9) [ cSetS, cSetO, cellNew, World.cell?_alloc_some, cellDrew]; done) | (repeat (first | with_reducible assumption | with_reducible exact Since.rfl_ _ | refine Since.setCell ?_ (by (try dsimp only); omega) _ | refine Since.alloc ?_ _ | refine Since.drew ?_))) ?_
          repeat (go_big_quiet_step ((first | (intro hC; go_at_call 70; refine (Ok_val HO.out _).mono ?_; rintro e w' ⟨rfl, hb⟩; refine ⟨rfl, ?_⟩; have k1 := keepC hb; have k2 := keepS hb; have hC := hC.out; (try dsimp only at hC); simp [Cls, hC, k1, k2]) | (intro hC; have hC := hC.out; (try simp only [hC, Result.andThen]); first | exact ⟨True.intro, rfl⟩ | exact ⟨rfl, rfl⟩ | rfl))))
          refine cls_end ?_
          rintro w3 ⟨-, -, hs⟩
          have HS2 := Lib.hid (HS.out.trans hs)
          clear hs
          go_wp2_with fail
          go_meet
          exact ⟨by rw [HG1.out]; rfl, HS2.out⟩
        · rcases k with _ | k
          · have HG1 : Hid (goodAt l 0 = true) := by show _ = _; unfold goodAt; rw [h1]; rfl
            have HO := Lib.hid h1
            clear h1
            refine region_cls (fun w' => w'.cell? ⟨wr.heap.size, 0, none⟩ = some (.int .i64 (pAt l 0).1) ∧ w'.cell? ⟨wr.heap.size, 1, none⟩ = some (.int .i64 (pAt l 0).2) ∧ Since wr w') (by kernel_rfl) (by kernel_rfl) (by (repeat' refine And.intro ?_ ?_) <;> first | (simp (maxDischargeDepth := 9) [ cSetS, cSetO, cellNew, World.cell?_alloc_some, cellDrew]; done) | (repeat (first | with_reducible assumption | with_reducible exact Since.rfl_ _ | refine Since.setCell ?_ (by (try dsimp only); omega) _ | refine Since.alloc ?_ _ | refine Since.drew ?_))) ?_
            repeat (go_big_quiet_step ((first | (intro hC; go_at_call 70; refine (Ok_val HO.out _).mono ?_; rintro e w' ⟨rfl, hb⟩; refine ⟨rfl, ?_⟩; have k1 := keepC hb; have k2 := keepS hb; have hC := hC.out; (try dsimp only at hC); simp [Cls, hC, k1, k2]) | (intro hC; have hC := hC.out; (try simp only [hC, Result.andThen]); first | exact ⟨True.intro, rfl⟩ | exact ⟨rfl, rfl⟩ | rfl))))
            refine cls_end ?_
            rintro w3 ⟨-, -, hs⟩
            have HS2 := Lib.hid (HS.out.trans hs)
            clear hs
            go_wp2_with fail
            go_meet
            exact ⟨by rw [HG1.out]; rfl, HS2.out⟩
          · have HG1 : Hid (goodAt l (k + 1) = !((pAt l (k + 1)).1 == (pAt l k).1 && (pAt l (k + 1)).2 == (pAt l k).2)) := by
              show _ = _; unfold goodAt; rw [h1, decide_eq_true (Nat.succ_pos k), Nat.add_sub_cancel]; rfl
            have HO := Lib.hid h1
            clear h1
            obtain ⟨g', o', ha, d0, d1⟩ := HV.out k (by omega)
            injection ha with ha
            injection ha with hg' ho'
            subst hg' ho'
            replace d0 := keepC HS.out _ _ d0
            replace d1 := keepC HS.out _ _ d1
            refine region_cls (fun w' => w'.cell? ⟨wr.heap.size, 0, none⟩ = some (.int .i64 (pAt l (k + 1)).1) ∧ w'.cell? ⟨wr.heap.size, 1, none⟩ = some (.int .i64 (pAt l (k + 1)).2) ∧ w'.cell? ⟨g, o + k * 2, none⟩ = some (.int .i64 (pAt l k).1) ∧ w'.cell? ⟨g, o + k * 2 + 1, none⟩ = some (.int .i64 (pAt l k).2) ∧ Since wr w') (by kernel_rfl) (by kernel_rfl) (by (repeat' refine And.intro ?_ ?_) <;> first | (simp (maxDischargeDepth := 9) [d0, d1,  cSetS, cSetO, cellNew, World.cell?_alloc_some, cellDrew]; done) | (repeat (first | with_reducible assumption | with_reducible exact Since.rfl_ _ | refine Since.setCell ?_ (by (try dsimp only); omega) _ | refine Since.alloc ?_ _ | refine Since.drew ?_))) ?_
            repeat (go_big_quiet_step ((first | (intro hC; go_at_call 70; refine (Ok_val HO.out _).mono ?_; rintro e w' ⟨rfl, hb⟩; refine ⟨rfl, ?_⟩; have k1 := keepC hb; have k2 := keepS hb; have hC := hC.out; (try dsimp only at hC); simp [Cls, hC, k1, k2]) | (intro hC; have hC := hC.out; (try simp only [hC, Result.andThen]); first | exact ⟨True.intro, rfl⟩ | exact ⟨rfl, rfl⟩ | rfl))))
            refine cls_end ?_

            rintro w3 ⟨-, -, -, -, hs⟩
            have HS2 := Lib.hid (HS.out.trans hs)
            clear hs
            go_wp2_with fail
            go_meet
            exact ⟨by rw [HG1.out, Bool.not_not], HS2.out⟩
      case rest =>
        obtain ⟨rfl, hs⟩ := hcut
        have HS2 := Lib.hid hs
        clear hs
        cases hg : goodAt l k
        · have HN := Lib.hid (lineB_no hlt hg)
          go_wp2
          go_ret
          exact ⟨ret_bool (HN.out).symm, HS2.out⟩
        · have HG2 : Hid (∀ i, i < k + 1 → goodAt l i = true) := fun i hi => by
            rcases Nat.lt_succ_iff_lt_or_eq.1 hi with h | h
            · exact HG.out i h
            · rw [h]; exact hg
          go_wp2
          go_roundw
          case rel => exact ⟨k + 1, by omega, by go_num, HG2, HS2.out⟩
          case measure => simp [intOf]; omega
    · have HN := Lib.hid (lineB_end (fun i hi => HG.out i (by omega)))
      have HS := Lib.hid hs
      clear hs
      cases h2 : decide ((2 : Int) ≤ l.length)
      all_goals
        go_wp2
        go_ret
        exact ⟨ret_bool (by rw [HN.out, h2]; simp), HS.out⟩

end Go.Proofs.Ytcckekdfeeghaaa
