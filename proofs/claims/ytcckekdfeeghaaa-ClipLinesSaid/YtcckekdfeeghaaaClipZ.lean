/-
  The walk of the library's stable sort of at most 19 ratios (insertion sort of one block). Conditions: bounds of the numbers.
-/
import Derived.Test.YtcckekdfeeghaaaClipV
namespace Go.Proofs.Ytcckekdfeeghaaa
set_option linter.unusedSimpArgs false
set_option linter.unusedVariables false
open Go.RowKit Go.BigFrame

/-- Block g reads as the ratios f 0, f 1, .. f (L - 1). -/
def RowR (w : World) (g L : Nat) (f : Nat → Rat2) : Prop :=
  ∃ cs, Blk w g 106 cs ∧ ∀ i, i < L → cs[2 * i]? = some (.int .i64 (f i).1) ∧ cs[2 * i + 1]? = some (.int .i64 (f i).2)
theorem RowR.since {w w' : World} {g L : Nat} {f : Nat → Rat2} (h : RowR w g L f) (k : Since w w') : RowR w' g L f := by
  obtain ⟨cs, hb, hc⟩ := h
  exact ⟨cs, k.blk hb, hc⟩
theorem RowR.cells {w : World} {g L : Nat} {f : Nat → Rat2} (h : RowR w g L f) {i : Nat} (hi : i < L) :
    w.cell? ⟨g, i * 2, none⟩ = some (.int .i64 (f i).1) ∧ w.cell? ⟨g, i * 2 + 1, none⟩ = some (.int .i64 (f i).2) ∧ w.frozen? ⟨g, i * 2, none⟩ = false ∧ w.frozen? ⟨g, i * 2 + 1, none⟩ = false := by
  obtain ⟨cs, hb, hc⟩ := h
  obtain ⟨h1, h2⟩ := hc i hi
  rw [Nat.mul_comm 2 i] at h1 h2
  exact ⟨(hb.cell _).trans h1, (hb.cell _).trans h2, hb.frozen _, hb.frozen _⟩
def swapF (f : Nat → Rat2) (j : Nat) : Nat → Rat2 := fun i => if i = j then f (j - 1) else if i = j - 1 then f j else f i
theorem RowR.swap {w : World} {g L : Nat} {f : Nat → Rat2} (h : RowR w g L f) {j : Nat} (hj : j < L) (h0 : 0 < j) :
    RowR ((((w.setCell ⟨g, j * 2, none⟩ (.int .i64 (f (j - 1)).1)).setCell ⟨g, j * 2 + 1, none⟩ (.int .i64 (f (j - 1)).2)).setCell ⟨g, (j - 1) * 2, none⟩ (.int .i64 (f j).1)).setCell ⟨g, (j - 1) * 2 + 1, none⟩ (.int .i64 (f j).2)) g L (swapF f j) := by
  obtain ⟨cs, hb, hc⟩ := h
  refine ⟨_, (((hb.set_ _ _).set_ _ _).set_ _ _).set_ _ _, fun i hi => ?_⟩
  have hs : ∀ i, i < L → 2 * i + 1 < cs.size := fun i hi => by
    have := (hc i hi).2
    rcases Nat.lt_or_ge (2 * i + 1) cs.size with h | h
    · exact h
    · rw [Array.getElem?_eq_none h] at this; cases this
  have h1 := hs i hi
  have h2 := hs j hj
  simp only [Array.getElem?_setIfInBounds, Array.size_setIfInBounds]
  unfold swapF
  have h3 := hs (j - 1) (by omega)
  refine ⟨?_, ?_⟩ <;> (repeat' split) <;> first | (exfalso; omega) | rfl | exact (hc i hi).1 | exact (hc i hi).2

def leR (s t : Rat2) : Prop := s.1 * t.2 ≤ t.1 * s.2
theorem ltR_iff {s t : Rat2} : ltR s t = true ↔ s.1 * t.2 < t.1 * s.2 := by unfold ltR; exact decide_eq_true_iff
theorem leR_trans {a b c : Rat2} (ha : 0 < a.2) (hb : 0 < b.2) (hc : 0 < c.2) (h : leR a b) (k : leR b c) : leR a c := le_trans_q (Int.le_of_lt ha) hb (Int.le_of_lt hc) h k
theorem cmpR_neg {s t : Rat2} : cmpR s t < 0 ↔ ltR s t = true := by
  unfold cmpR; split
  · simp [*]
  · split <;> simp [*]
theorem leR_of_not {s t : Rat2} (h : ltR s t = false) : leR t s := by
  have : ¬ (s.1 * t.2 < t.1 * s.2) := fun k => by rw [ltR_iff.2 k] at h; cases h
  unfold leR; omega
theorem leR_of {s t : Rat2} (h : ltR s t = true) : leR s t := Int.le_of_lt (ltR_iff.1 h)

def sortedTo (f : Nat → Rat2) (m : Nat) : Prop := ∀ p q, p < q → q < m → leR (f p) (f q)
def innerI (f : Nat → Rat2) (i j : Nat) : Prop := ∀ p q, p < q → q ≤ i → q ≠ j → leR (f p) (f q)
def sameE (f g : Nat → Rat2) (L : Nat) : Prop := (∀ i, i < L → ∃ j, j < L ∧ f i = g j) ∧ ∀ i, i < L → ∃ j, j < L ∧ g i = f j
theorem sameE.rfl_ (f : Nat → Rat2) (L : Nat) : sameE f f L := ⟨fun i hi => ⟨i, hi, rfl⟩, fun i hi => ⟨i, hi, rfl⟩⟩
theorem sameE.swap {f g : Nat → Rat2} {L j : Nat} (h : sameE f g L) (hj : j < L) : sameE f (swapF g j) L := by
  constructor
  · intro i hi
    obtain ⟨k, hk, e⟩ := h.1 i hi
    by_cases e1 : k = j
    · refine ⟨j - 1, by omega, ?_⟩
      unfold swapF
      split
      · rw [e, e1, show j - 1 = j from by assumption]
      · rw [if_pos rfl, e, e1]
    · by_cases e2 : k = j - 1
      · exact ⟨j, hj, by unfold swapF; rw [if_pos rfl, e, e2]⟩
      · exact ⟨k, hk, by unfold swapF; rw [if_neg e1, if_neg e2, e]⟩
  · intro i hi
    unfold swapF
    split
    · exact h.2 (j - 1) (by omega)
    · split
      · exact h.2 j hj
      · exact h.2 i hi
theorem inner_start {f : Nat → Rat2} {i : Nat} (h : sortedTo f i) : innerI f i i := fun p q hp hq hn => h p q hp (by omega)
theorem inner_zero {f : Nat → Rat2} {i : Nat} (h : innerI f i 0) : sortedTo f (i + 1) := fun p q hp hq => h p q hp (by omega) (by omega)
theorem inner_stop {f : Nat → Rat2} {i j L : Nat} (h : innerI f i j) (hp : ∀ i, i < L → 0 < (f i).2) (hi : i < L) (hj : j ≤ i) (h0 : 0 < j) (hs : ltR (f j) (f (j - 1)) = false) : sortedTo f (i + 1) := fun p q hpq hq => by
  by_cases e : q = j
  · subst e
    have h1 := leR_of_not hs
    by_cases e2 : p = q - 1
    · rw [e2]; exact h1
    · exact leR_trans (hp p (by omega)) (hp (q - 1) (by omega)) (hp q (by omega)) (h p (q - 1) (by omega) (by omega) (by omega)) h1
  · exact h p q hpq (by omega) e
theorem inner_step {f : Nat → Rat2} {i j : Nat} (h : innerI f i j) (hj : j ≤ i) (h0 : 0 < j) (hs : ltR (f j) (f (j - 1)) = true) : innerI (swapF f j) i (j - 1) := fun p q hpq hq hn => by
  unfold swapF
  by_cases e1 : q = j
  · rw [if_pos e1, if_neg (by omega)]
    split
    · exact leR_of hs
    · exact h p (j - 1) (by omega) (by omega) (by omega)
  · rw [if_neg e1, if_neg hn]
    split
    · exact h (j - 1) q (by omega) hq e1
    · split
      · exact h j q (by omega) hq e1
      · exact h p q hpq hq e1
theorem swap_ok {f : Nat → Rat2} {P : Rat2 → Prop} {L j : Nat} (h : ∀ i, i < L → P (f i)) (hj : j < L) : ∀ i, i < L → P (swapF f j i) := fun i hi => by
  unfold swapF; split
  · exact h _ (by omega)
  · split
    · exact h _ hj
    · exact h _ hi

def goodR (s : Rat2) : Prop := okR s ∧ 0 < s.2

set_option maxHeartbeats 1000000 in
theorem insert_any (g c n : Nat) (f : Nat → Rat2) (w : World) (hn : n ≤ 1000000) (hr : RowR w g n f) (hg : ∀ i, i < n → goodR (f i)) :
    Calls Try.prog 146 #[.slice (some ⟨g, 0, none⟩) n c, .int .i64 0, .int .i64 n, .func (.func 106) #[] #[]] w fun e w' => e = .returned (.tuple #[]) ∧ (∃ f', RowR w' g n f' ∧ sortedTo f' n ∧ sameE f f' n) ∧ Only g w w' := by
  have HR := Lib.hid hr
  have HG := Lib.hid hg
  clear hr hg
  go_enter Try.func146, Try.ntmps146
  go_wp2_with fail
  go_loopw [8] (fun v wr => ∃ (i : Nat) (h : Nat → Rat2), v = .int .i64 i ∧ 1 ≤ i ∧ i ≤ n + 1 ∧ Hid (RowR wr g n h) ∧ Hid (sortedTo h i ∧ sameE f h n ∧ ∀ i, i < n → goodR (h i)) ∧ Hid (Only g w wr)) (fun v _ => n + 1 - (intOf v).toNat)
  case atStart => exact ⟨1, f, by go_num, by omega, by omega, HR, ⟨fun p q h1 h2 => by omega, sameE.rfl_ _ _, HG.out⟩, (Since.rfl_ w).only g⟩
  case round =>
    clear HR HG
    obtain ⟨i, h, rfl, h1, h2, HR, HS, HO⟩ := hrel
    rcases Nat.lt_or_ge i n with hlt | hge
    · have hz : decide ((i : Int) < (n : Int)) = true := by rw [decide_eq_true_eq]; omega
      go_wp2_with fail
      go_loopw [9] (fun v wq => ∃ (j : Nat) (k : Nat → Rat2), v = .int .i64 j ∧ j ≤ i ∧ Hid (RowR wq g n k) ∧ Hid (innerI k i j ∧ sameE f k n ∧ ∀ i, i < n → goodR (k i)) ∧ Hid (Only g w wq)) (fun v _ => (intOf v).toNat)
      case atStart => exact ⟨i, h, rfl, Nat.le_refl _, HR, ⟨inner_start HS.out.1, HS.out.2⟩, HO⟩
      case round =>
        clear HR HS HO
        obtain ⟨j, k, rfl, hji, HR, HS, HO⟩ := hrel
        rcases Nat.eq_zero_or_pos j with hj0 | hj0
        · have HO1 := Lib.hid (And.intro (inner_zero (hj0 ▸ HS.out.1)) HS.out.2)
          have hjz : ¬ ((0 : Int) < (j : Int)) := by omega
          clear hj0
          generalize (j : Int) = jz at *
          go_upto_region 4 with fail
          go_region
          go_wp2_with fail
          have HR2 := Lib.hid (HR.out.since (Since.rfl_ wr).drew)
          have HO2 := Lib.hid (HO.out.drew)
          go_roundw
          case rel => exact ⟨i + 1, k, by go_num, by omega, by omega, HR2, HO1.out, HO2⟩
          case measure => simp [intOf]; omega
        · obtain ⟨m, rfl⟩ : ∃ m, j = m + 1 := ⟨j - 1, by omega⟩
          have hjz : decide ((0 : Int) < ((m + 1 : Nat) : Int)) = true := by rw [decide_eq_true_eq]; omega
          have mw : IntKind.i64.wrap (((m + 1 : Nat) : Int) - 1) = (m : Int) := by
            rw [i64w, show ((m + 1 : Nat) : Int) - 1 = m by omega]
            exact wrap_id (by omega)
          obtain ⟨c0, c1, f0, f1⟩ := HR.out.cells (show m + 1 < n by omega)
          obtain ⟨d0, d1, e0, e1⟩ := HR.out.cells (show m < n by omega)
          have i1 : (m : Int) < (n : Int) := by omega
          have i2 : ((m + 1 : Nat) : Int) < (n : Int) := by omega
          have gj := (HS.out.2.2 (m + 1) (by omega)).1
          have gm := (HS.out.2.2 m (by omega)).1
          generalize hA : k (m + 1) = A at *
          generalize hB : k m = B at *
          go_upto_region 4 with fail
          refine region_cls (fun w' => w'.cell? ⟨g, (m + 1) * 2, none⟩ = some (.int .i64 A.1) ∧ w'.cell? ⟨g, (m + 1) * 2 + 1, none⟩ = some (.int .i64 A.2) ∧ w'.cell? ⟨g, m * 2, none⟩ = some (.int .i64 B.1) ∧ w'.cell? ⟨g, m * 2 + 1, none⟩ = some (.int .i64 B.2) ∧ Since wr w') (by kernel_rfl) (by kernel_rfl) (by (repeat' refine And.intro ?_ ?_) <;> first | (simp (maxDischargeDepth := 9) [c0, c1, d0, d1,  cSetS, cSetO, cellNew, World.cell?_alloc_some, cellDrew]; done) | (repeat (first | with_reducible assumption | with_reducible exact Since.rfl_ _ | refine Since.setCell ?_ (by (try dsimp only); omega) _ | refine Since.alloc ?_ _ | refine Since.drew ?_))) ?_
          repeat (go_big_quiet_step ((first | (intro hC; go_at_call 106; refine (cmpR_any _ _ _ gj gm).mono ?_; rintro e w' ⟨rfl, hb⟩; refine ⟨rfl, ?_⟩; have k1 := keepC hb; have k2 := keepS hb; have hC := hC.out; (try dsimp only at hC); simp [Cls, hC, k1, k2]) | (intro hC; have hC := hC.out; (try simp only [hC, Result.andThen]); first | exact ⟨True.intro, rfl⟩ | exact ⟨rfl, rfl⟩ | rfl))))
          refine cls_end ?_
          rintro w3 ⟨-, -, -, -, hs⟩
          have HR2 := Lib.hid (HR.out.since hs)
          have HO2 := Lib.hid (HO.out.trans (hs.only g))
          clear hs HR HO c0 c1 d0 d1 f0 f1 e0 e1
          cases hc : ltR A B
          · have hcn : ¬ (cmpR A B < 0) := fun h => by rw [cmpR_neg.1 h] at hc; cases hc
            generalize cmpR A B = cm at *
            have HO1 := Lib.hid (And.intro (inner_stop (L := n) HS.out.1 (fun i hi => (HS.out.2.2 i hi).2) hlt hji (by omega) (by rw [hA, show m + 1 - 1 = m from rfl, hB]; exact hc)) HS.out.2)
            clear HS
            go_wp2_with fail
            go_roundw
            case rel => exact ⟨i + 1, k, by go_num, by omega, by omega, HR2, HO1.out, HO2⟩
            case measure => simp [intOf] <;> omega
          · have hcn : cmpR A B < 0 := cmpR_neg.2 hc
            generalize cmpR A B = cm at *
            have HN := Lib.hid (And.intro (inner_step HS.out.1 hji (by omega) (by rw [hA, show m + 1 - 1 = m from rfl, hB]; exact hc)) (And.intro (HS.out.2.1.swap (show m + 1 < n by omega)) (swap_ok HS.out.2.2 (show m + 1 < n by omega))))
            obtain ⟨c0, c1, f0, f1⟩ := HR2.out.cells (show m + 1 < n by omega)
            obtain ⟨d0, d1, e0, e1⟩ := HR2.out.cells (show m < n by omega)
            have HRS := Lib.hid (HR2.out.swap (show m + 1 < n by omega) (by omega))
            rw [hA] at c0 c1
            rw [hB] at d0 d1
            rw [show m + 1 - 1 = m from rfl, hA, hB] at HRS
            clear HS
            go_upto_region 6 with fail
            go_region
            go_wp2_with fail
            go_roundw
            case rel => exact ⟨m, swapF k (m + 1), rfl, by omega, HRS.out.since (Since.rfl_ _).drew, HN.out, ((((HO2.out.setCell (.inl rfl) _).setCell (.inl rfl) _).setCell (.inl rfl) _).setCell (.inl rfl) _).drew⟩
            case measure => simp [intOf]
    · have hz : decide ((i : Int) < (n : Int)) = false := by rw [decide_eq_false_iff_not]; omega
      go_wp2_with fail
      go_end0
      exact ⟨rfl, ⟨h, HR.out, fun p q h1 h2 => HS.out.1 p q h1 (by omega), HS.out.2.1⟩, HO.out⟩

theorem stable_any (g c n : Nat) (f : Nat → Rat2) (w : World) (hn : n ≤ 19) (hr : RowR w g n f) (hg : ∀ i, i < n → goodR (f i)) :
    Calls Try.prog 122 #[.slice (some ⟨g, 0, none⟩) n c, .int .i64 n, .func (.func 106) #[] #[]] w fun e w' => e = .returned (.tuple #[]) ∧ (∃ f', RowR w' g n f' ∧ sortedTo f' n ∧ sameE f f' n) ∧ Only g w w' := by
  have HI := Lib.hid (insert_any g c n f w (by omega) hr hg)
  have h1 : ¬ ((20 : Int) ≤ (n : Int)) := by omega
  have h2 : ¬ ((20 : Int) < (n : Int)) := by omega
  clear hr hg
  go_enter Try.func122, Try.ntmps122
  go_wp2_with fail
  go_loopw [7, 8] (fun a b wr => a = .int .i64 0 ∧ b = .int .i64 20 ∧ wr = w) (fun _ _ _ => 0)
  case atStart => exact ⟨rfl, rfl, rfl⟩
  case round =>
    obtain ⟨rfl, rfl, rfl⟩ := hrel
    go_wp2_with fail
    refine HI.out.mono ?_
    rintro e w1 ⟨rfl, hw⟩
    have HW := Lib.hid hw
    clear hw
    go_wp2_with fail
    go_loopw [6] (fun b wr => b = .int .i64 20 ∧ wr = w1) (fun _ _ => 0)
    case atStart => exact ⟨rfl, rfl⟩
    case round =>
      obtain ⟨rfl, rfl⟩ := hrel
      go_wp2_with fail
      go_end0
      exact ⟨rfl, HW.out⟩

theorem sortR_any (g c n : Nat) (f : Nat → Rat2) (w : World) (hn : n ≤ 19) (hr : RowR w g n f) (hg : ∀ i, i < n → goodR (f i)) :
    Calls Try.prog 105 #[.slice (some ⟨g, 0, none⟩) n c, .func (.func 106) #[] #[]] w fun e w' => e = .returned (.tuple #[]) ∧ (∃ f', RowR w' g n f' ∧ sortedTo f' n ∧ sameE f f' n) ∧ Only g w w' := by
  have HI := Lib.hid (stable_any g c n f w hn hr hg)
  clear hr hg
  go_enter Try.func105, Try.ntmps105
  go_wp2_with fail
  refine HI.out.mono ?_
  rintro e w1 ⟨rfl, hw⟩
  have HW := Lib.hid hw
  clear hw
  go_wp2_with fail
  go_end0
  exact ⟨rfl, HW.out⟩
end Go.Proofs.Ytcckekdfeeghaaa
