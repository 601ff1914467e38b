/-
  Walks of terrmake: Below, Stream.Next, Stream.point, Point; of terrkeep3: pt, window. Conditions: bounds of the numbers.
-/
import Derived.Test.YtcckekdfeeghaaaClipE
namespace Go.Proofs.Ytcckekdfeeghaaa
set_option linter.unusedSimpArgs false
set_option linter.unusedVariables false
open Go.RowKit Go.BigFrame
attribute [local go_sem ↓] eqPt neqPt

theorem i64w (n : Int) : IntKind.i64.wrap n = wrap64 n := by unfold wrap64; exact IntKind.wrap_i64 n
theorem tmod_emod {x n : Int} (h : 0 < n) : (if x.tmod n < 0 then x.tmod n + n else x.tmod n) = x % n := by
  have h1 := Int.mul_tdiv_add_tmod x n
  have h2 := Int.tmod_lt_of_pos x h
  have h3 := Int.lt_tmod_of_pos x h
  split
  · exact ((Int.ediv_emod_unique (r := x.tmod n + n) (q := x.tdiv n - 1) h).2 ⟨by rw [Int.mul_sub]; omega, by omega, by omega⟩).2.symm
  · exact ((Int.ediv_emod_unique (r := x.tmod n) (q := x.tdiv n) h).2 ⟨by omega, by omega, by omega⟩).2.symm
theorem Below_any (x n : Int) (w : World) (h1 : 1 ≤ n) (h2 : n ≤ 4611686018427387904) :
    Calls Try.prog 37 #[.int .i64 x, .int .i64 n] w fun e w' => e = .returned (.int .i64 (x % n)) ∧ w = w' := by
  have hz : ((n : Int) == 0) = false := by rw [beq_eq_false_iff_ne]; omega
  have r1 := Int.tmod_lt_of_pos x (show 0 < n by omega)
  have r2 := Int.lt_tmod_of_pos x (show 0 < n by omega)
  have HF := Lib.hid (tmod_emod (x := x) (n := n) (by omega))
  go_enter Try.func37, Try.ntmps37
  go_wp2
  all_goals (go_ret; exact ⟨ret_int (by have h := HF.out; rw [← h]; first | rw [if_pos (by assumption)] | rw [if_neg (by omega)]), rfl⟩)

/-- The slice v reads as the numbers l, in a block below B. -/
def IntsB (w : World) (v : Value) (l : List Int) (B : Nat) : Prop :=
  ∃ a c, v = .slice a l.length c ∧ l.length ≤ c ∧ c ≤ maxLen ∧ ∀ i, i < l.length → ∃ g o : Nat, a = some ⟨g, o, none⟩ ∧ g < B ∧ w.cell? ⟨g, o + i, none⟩ = some (.int .i64 (l.getD i 0))
theorem IntsB.keep {w w' : World} {v : Value} {l : List Int} {B : Nat} (h : IntsB w v l B) (k : ∀ (p : Addr) (u : Value), p.block < B → w.cell? p = some u → w'.cell? p = some u) : IntsB w' v l B := by
  obtain ⟨a, c, hv, hc, hm, h⟩ := h
  refine ⟨a, c, hv, hc, hm, fun i hi => ?_⟩
  obtain ⟨g, o, ha, hg, h1⟩ := h i hi
  exact ⟨g, o, ha, hg, k _ _ hg h1⟩
theorem IntsB.since {w w' : World} {v : Value} {l : List Int} {B : Nat} (h : IntsB w v l B) (k : Since w w') : IntsB w' v l B := h.keep fun p u _ hc => keepC k p u hc

/-- The stream in block gs gives the numbers l. -/
def Strm (w : World) (gs B : Nat) (l : List Int) : Prop := ∃ v, Blk w gs 92 #[v] ∧ IntsB w v l B ∧ B ≤ gs
theorem Strm.since {w w' : World} {gs B : Nat} {l : List Int} (h : Strm w gs B l) (k : Since w w') : Strm w' gs B l := by
  obtain ⟨v, hb, hi, hB⟩ := h
  exact ⟨v, k.blk hb, hi.since k, hB⟩
theorem Strm.far {w : World} {gs B : Nat} {l : List Int} (h : Strm w gs B l) {p : Addr} (hp : gs < p.block) (u : Value) : Strm (w.setCell p u) gs B l := by
  obtain ⟨v, hb, hi, hB⟩ := h
  exact ⟨v, hb.far (by omega) u, hi.keep (fun q x hq hc => by rw [cSetO (by rintro rfl; omega)]; exact hc), hB⟩
/-- What Next returns, and what is left. -/
def nextV (l : List Int) (n : Int) : Int × List Int := match l with
  | [] => (0, [])
  | x :: t => (x % n, t)

set_option maxHeartbeats 1000000 in
theorem Next_any (gs B : Nat) (l : List Int) (n : Int) (w : World) (h1 : 1 ≤ n) (h2 : n ≤ 1000000000) (h : Strm w gs B l) :
    Calls Try.prog 66 #[.pointer (some ⟨gs, 0, none⟩), .int .i64 n] w fun e w' => e = .returned (.int .i64 (nextV l n).1) ∧ Strm w' gs B (nextV l n).2 ∧ Only gs w w' := by
  obtain ⟨v, hb, ⟨a, c, rfl, hc, hm, hi⟩, hB⟩ := h
  have c0 : w.cell? ⟨gs, 0, none⟩ = some (.slice a l.length c) := hb.cell 0
  have f0 := hb.frozen 0
  have HB := Lib.hid hb
  have HI := Lib.hid hi
  have HM := Lib.hid hm
  clear hb hi
  unfold maxLen at hm
  rcases l with _ | ⟨x, t⟩
  · have c1 : w.cell? ⟨gs, 0, none⟩ = some (.slice a 0 c) := c0
    clear c0
    go_enter Try.func66, Try.ntmps66
    go_wp2
    go_ret
    exact ⟨rfl, ⟨_, HB.out, ⟨a, c, rfl, hc, HM.out, HI.out⟩, hB⟩, (Since.rfl_ w).only gs⟩
  · obtain ⟨g, o, ha, hg, e0⟩ := HI.out 0 (by simp)
    subst ha
    simp only [List.getD_cons_zero, Nat.add_zero] at e0
    have hlen : ((x :: t).length : Nat) = t.length + 1 := rfl
    rw [hlen] at c0 hc
    have hz : (((t.length + 1 : Nat) : Int) == 0) = false := by rw [beq_eq_false_iff_ne]; omega
    have hd : decide (n < 1) = false := by rw [decide_eq_false_iff_not]; omega
    have hp : decide ((0 : Int) < ((t.length + 1 : Nat) : Int)) = true := by rw [decide_eq_true_eq]; omega
    have hne : gs ≠ g := by omega
    clear hlen
    go_enter Try.func66, Try.ntmps66
    go_wp2_with fail
    all_goals
      refine (Below_any x n _ h1 (by omega)).mono ?_
      rintro e w2 ⟨rfl, rfl⟩
      go_wp2
      go_ret
      refine ⟨rfl, ⟨_, HB.out.set_ 0 _, ⟨_, _, rfl, by show t.length ≤ _; omega, by have := HM.out; unfold maxLen at this ⊢; omega, fun i hi => ?_⟩, hB⟩, ((Since.rfl_ w).only gs).setCell (.inl rfl) _⟩
      have hi' : i < t.length := hi
      first
        | (exfalso; omega)
        | (obtain ⟨g', o', ha, -, e1⟩ := HI.out (i + 1) (by show i + 1 < t.length + 1; omega)
           injection ha with ha
           injection ha with hg' ho'
           subst hg' ho'
           refine ⟨g, o + 1, rfl, hg, ?_⟩
           rw [cSetO (by intro h; injection h with h; exact hne h), show o + 1 + i = o + (i + 1) by omega, e1]
           rfl)

/-- A point of a stream. -/
def ptOf (l : List Int) : Pt2 × List Int := (((nextV l 81).1 - 40, (nextV (nextV l 81).2 81).1 - 40), (nextV (nextV l 81).2 81).2)
theorem next_bd (l : List Int) (n : Int) (h : 0 < n) : 0 ≤ (nextV l n).1 ∧ (nextV l n).1 < n := by
  unfold nextV
  split
  · exact ⟨Int.le_refl _, h⟩
  · exact ⟨Int.emod_nonneg _ (by omega), Int.emod_lt_of_pos _ h⟩
theorem ptOf_bd (l : List Int) : (-40 ≤ (ptOf l).1.1 ∧ (ptOf l).1.1 ≤ 40) ∧ (-40 ≤ (ptOf l).1.2 ∧ (ptOf l).1.2 ≤ 40) := by
  have h1 := next_bd l 81 (by decide)
  have h2 := next_bd (nextV l 81).2 81 (by decide)
  unfold ptOf
  dsimp only
  omega

theorem Sp_any (gs B : Nat) (l : List Int) (w : World) (h : Strm w gs B l) :
    Calls Try.prog 76 #[.pointer (some ⟨gs, 0, none⟩)] w fun e w' => e = .returned (.agg #[.int .i64 (ptOf l).1.1, .int .i64 (ptOf l).1.2]) ∧ Strm w' gs B (ptOf l).2 ∧ Only gs w w' := by
  have b1 := next_bd l 81 (by decide)
  have b2 := next_bd (nextV l 81).2 81 (by decide)
  have H := Lib.hid h
  obtain ⟨v, hb, -, -⟩ := h
  have hlt := hb.lt
  clear hb
  go_enter Try.func76, Try.ntmps76
  go_wp2_with fail
  refine (Next_any gs B l 81 _ (by decide) (by decide) (H.out.since ((Since.rfl_ w).alloc _))).mono ?_
  rintro e w1 ⟨rfl, hs, ho⟩
  have HS1 := Lib.hid hs
  have HB1 := Lib.hid (ho.blk (Blk.new w _ _) (by omega))
  have HO1 := Lib.hid (Only.trans (((Since.rfl_ w).only gs).alloc _) ho)
  clear hs ho
  go_wp2_with fail
  refine (Next_any gs B _ 81 _ (by decide) (by decide) HS1.out).mono ?_
  rintro e w2 ⟨rfl, hs, ho⟩
  have HS2 := Lib.hid hs
  have hb2 := ho.blk HB1.out (by omega)
  have k0 : w2.cell? ⟨w.heap.size, 0, none⟩ = some (.int .i64 0) := hb2.cell 0
  have k1 : w2.cell? ⟨w.heap.size, 1, none⟩ = some (.int .i64 0) := hb2.cell 1
  have f0 := hb2.frozen 0
  have f1 := hb2.frozen 1
  have HO2 := Lib.hid (HO1.out.trans ho)
  clear hs ho hb2
  go_wp2
  refine bodyPost_ret (v := .agg #[.int .i64 (ptOf l).1.1, .int .i64 (ptOf l).1.2]) (by simp [results, Try.results76, go_sem, cSetS, cSetO, k0, k1, ptOf]) rfl ⟨rfl, ?_, ?_⟩
  · exact (HS2.out.far (show gs < w.heap.size by omega) _).far (show gs < w.heap.size by omega) _
  · exact (HO2.out.setCell (.inr (Nat.le_refl _)) _).setCell (.inr (Nat.le_refl _)) _

theorem Strm.new {w : World} {v : Value} {l : List Int} {B gs : Nat} (h : IntsB w v l B) (hg : gs = w.heap.size) (hB : B ≤ gs) : Strm (w.alloc (.cells #[v] 92)) gs B l :=
  ⟨v, Blk.new' hg, h.since ((Since.rfl_ w).alloc _), hB⟩
theorem Point_any (v : Value) (l : List Int) (w : World) (h : IntsB w v l w.heap.size) :
    Calls Try.prog 28 #[v] w fun e w' => e = .returned (.agg #[.int .i64 (ptOf l).1.1, .int .i64 (ptOf l).1.2]) ∧ Since w w' := by
  have HI := Lib.hid h
  obtain ⟨a, c, rfl, -⟩ := h
  go_enter Try.func28, Try.ntmps28
  go_wp2_with fail
  refine (Sp_any (w.heap.size + 1) w.heap.size l _ (Strm.new (HI.out.since ((Since.rfl_ w).alloc _)) (by simp) (by omega))).mono ?_
  rintro e w1 ⟨rfl, -, ho⟩
  have hS := ho.since ((((Since.rfl_ w).alloc (.cells #[.int .i64 0, .int .i64 0] 23)).alloc _)) (by omega)
  have hb := ho.blk ((Blk.new w 23 #[.int .i64 0, .int .i64 0]).alloc _) (by omega)
  have HS := Lib.hid hS
  have k0 : w1.cell? ⟨w.heap.size, 0, none⟩ = some (.int .i64 0) := hb.cell 0
  have k1 : w1.cell? ⟨w.heap.size, 1, none⟩ = some (.int .i64 0) := hb.cell 1
  have f0 := hb.frozen 0
  have f1 := hb.frozen 1
  clear hS ho hb
  go_wp2
  refine bodyPost_ret (v := .agg #[.int .i64 (ptOf l).1.1, .int .i64 (ptOf l).1.2]) (by simp [results, Try.results28, go_sem, cSetS, cSetO, k0, k1]) rfl ⟨rfl, ?_⟩
  exact (HS.out.setCell (Nat.le_refl _) _).setCell (Nat.le_refl _) _

theorem ptK_any (x y : Int) (w : World) : Calls Try.prog 39 #[.int .i64 x, .int .i64 y] w fun e w' => e = .returned (.agg #[.int .i64 x, .int .i64 y]) ∧ Since w w' := by
  go_enter Try.func39, Try.ntmps39
  go_wp2
  exact bodyPost_ret (v := .agg #[.int .i64 x, .int .i64 y]) (by simp [results, Try.results39, go_sem]) rfl ⟨rfl, (Since.rfl_ w).alloc _⟩
theorem ptL_any (x y : Int) (w : World) : Calls Try.prog 14 #[.int .i64 x, .int .i64 y] w fun e w' => e = .returned (.agg #[.int .i64 x, .int .i64 y]) ∧ Since w w' := by
  go_enter Try.func14, Try.ntmps14
  go_wp2
  exact bodyPost_ret (v := .agg #[.int .i64 x, .int .i64 y]) (by simp [results, Try.results14, go_sem]) rfl ⟨rfl, (Since.rfl_ w).alloc _⟩

/-- The box of a window. -/
def winA (l : List Int) : Int × List Int := ((nextV l 61).1 - 40, (nextV l 61).2)
def winV (l : List Int) : Int × Int × Int × Int :=
  let a := winA l
  let b := winA a.2
  let c := nextV b.2 40
  let d := nextV c.2 40
  (a.1, b.1, a.1 + c.1, b.1 + d.1)
theorem winV_bd (l : List Int) : (-40 ≤ (winV l).1 ∧ (winV l).1 ≤ 20) ∧ (-40 ≤ (winV l).2.1 ∧ (winV l).2.1 ≤ 20) ∧ ((winV l).1 ≤ (winV l).2.2.1 ∧ (winV l).2.2.1 ≤ 60) ∧ ((winV l).2.1 ≤ (winV l).2.2.2 ∧ (winV l).2.2.2 ≤ 60) := by
  have h1 := next_bd l 61 (by decide)
  have h2 := next_bd (nextV l 61).2 61 (by decide)
  have h3 := next_bd (nextV (nextV l 61).2 61).2 40 (by decide)
  have h4 := next_bd (nextV (nextV (nextV l 61).2 61).2 40).2 40 (by decide)
  unfold winV winA
  dsimp only
  omega

set_option maxHeartbeats 1000000 in
theorem window_any (v : Value) (l : List Int) (w : World) (h : IntsB w v l w.heap.size) :
    Calls Try.prog 16 #[v] w fun e w' => e = .returned (.agg #[.int .i64 (winV l).1, .int .i64 (winV l).2.1, .int .i64 (winV l).2.2.1, .int .i64 (winV l).2.2.2]) ∧ Since w w' := by
  have HI := Lib.hid h
  obtain ⟨a, c, rfl, -⟩ := h
  have b1 := next_bd l 61 (by decide)
  have b2 := next_bd (nextV l 61).2 61 (by decide)
  have b3 := next_bd (nextV (nextV l 61).2 61).2 40 (by decide)
  have b4 := next_bd (nextV (nextV (nextV l 61).2 61).2 40).2 40 (by decide)
  go_enter Try.func16, Try.ntmps16
  go_wp2_with fail
  refine (Next_any (w.heap.size + 1) w.heap.size l 61 _ (by decide) (by decide) (Strm.new (HI.out.since ((Since.rfl_ w).alloc _)) (by simp) (by omega))).mono ?_
  rintro e w1 ⟨rfl, hs, ho⟩
  have HS1 := Lib.hid hs
  have HB1 := Lib.hid (ho.blk ((Blk.new w 28 #[.int .i64 0, .int .i64 0, .int .i64 0, .int .i64 0]).alloc _) (by omega))
  have HO1 := Lib.hid (Only.trans (((((Since.rfl_ w).alloc (.cells #[.int .i64 0, .int .i64 0, .int .i64 0, .int .i64 0] 28)).alloc _)).only (w.heap.size + 1)) ho)
  clear hs ho
  go_wp2_with fail
  refine (Next_any _ _ _ 61 _ (by decide) (by decide) HS1.out).mono ?_
  rintro e w2 ⟨rfl, hs, ho⟩
  have HS2 := Lib.hid hs
  have HB2 := Lib.hid (ho.blk HB1.out (by omega))
  have HO2 := Lib.hid (HO1.out.trans ho)
  clear hs ho HS1 HB1 HO1
  go_wp2_with fail
  refine (ptK_any _ _ _).mono ?_
  rintro e w3 ⟨rfl, hs⟩
  have HS3 := Lib.hid (HS2.out.since hs)
  have HB3 := Lib.hid (hs.blk HB2.out)
  have HO3 := Lib.hid (HO2.out.trans (hs.only _))
  clear hs HS2 HB2 HO2
  go_upto_region 3 with fail
  have hlt3 : w.heap.size + 1 < w3.heap.size := by obtain ⟨v, hb, -⟩ := HS3.out; exact hb.lt
  refine atW (fun w' => Strm w' (w.heap.size + 1) w.heap.size (nextV (nextV l 61).2 61).2 ∧ Blk w' w.heap.size 28 #[.int .i64 0, .int .i64 0, .int .i64 0, .int .i64 0] ∧ Only (w.heap.size + 1) w w' ∧
    Blk w' w3.heap.size 28 #[.int .i64 (winV l).1, .int .i64 (winV l).2.1, .int .i64 0, .int .i64 0]) ⟨HS3.out.since ((Since.rfl_ w3).alloc _), HB3.out.alloc _, HO3.out.alloc _, Blk.new w3 _ _⟩ ?_
  clear HS3 HB3 HO3
  rintro w4 ⟨hs, hb, ho, hc⟩
  have HS4 := Lib.hid (hs.since (Since.rfl_ w4).drew)
  have HB4 := Lib.hid (hb.drew)
  have HO4 := Lib.hid (ho.drew)
  have HC4 := Lib.hid (hc.drew)
  have b0 : w4.cell? ⟨w3.heap.size, 0, none⟩ = some (.int .i64 (winV l).1) := hc.cell 0
  have b1 : w4.cell? ⟨w3.heap.size, 1, none⟩ = some (.int .i64 (winV l).2.1) := hc.cell 1
  clear hs hb ho hc
  have hne : w3.heap.size ≠ w.heap.size + 1 := by omega
  have hne2 : ¬ w.heap.size + 1 = w3.heap.size := by omega
  have hne3 : ¬ w.heap.size = w3.heap.size := by omega
  have hne4 : w.heap.size ≠ w.heap.size + 1 := by omega
  go_region_held3 (fun w' => w'.cell? ⟨w3.heap.size, 0, none⟩ = some (.int .i64 (winV l).1) ∧ w'.cell? ⟨w3.heap.size, 1, none⟩ = some (.int .i64 (winV l).2.1)) ((simp (maxDischargeDepth := 9) [*, World.cell?_alloc_some, cSetO, cellDrew])) (first
    | (go_at_call 66; (with_reducible refine (Next_any _ _ _ 40 _ (by decide) (by decide) HS4.out).mono ?_); rintro e w5 ⟨rfl, hs, ho⟩; have HS5 := Lib.hid hs; have HB5 := Lib.hid (ho.blk HB4.out hne4); have HC5 := Lib.hid (ho.blk HC4.out hne); have HO5 := Lib.hid (HO4.out.trans ho); have b05 : w5.cell? ⟨w3.heap.size, 0, none⟩ = some (.int .i64 (winV l).1) := HC5.out.cell 0; have b15 : w5.cell? ⟨w3.heap.size, 1, none⟩ = some (.int .i64 (winV l).2.1) := HC5.out.cell 1; clear hs ho)
    | (go_at_call 66; (with_reducible refine (Next_any _ _ _ 40 _ (by decide) (by decide) HS5.out).mono ?_); rintro e w6 ⟨rfl, hs, ho⟩; have HB6 := Lib.hid (ho.blk HB5.out hne4); have HC6 := Lib.hid (ho.blk HC5.out hne); have HO6 := Lib.hid (HO5.out.trans ho); have b06 : w6.cell? ⟨w3.heap.size, 0, none⟩ = some (.int .i64 (winV l).1) := HC6.out.cell 0; have b16 : w6.cell? ⟨w3.heap.size, 1, none⟩ = some (.int .i64 (winV l).2.1) := HC6.out.cell 1; clear hs ho)
    | (go_at_call 39; (with_reducible refine (ptK_any _ _ _).mono ?_); rintro e w7 ⟨rfl, hs⟩; have hb7 := hs.blk HB6.out; have hc7 := hs.blk HC6.out; have HO7 := Lib.hid (HO6.out.trans (hs.only _)); have b07 : w7.cell? ⟨w3.heap.size, 0, none⟩ = some (.int .i64 (winV l).1) := hc7.cell 0; have b17 : w7.cell? ⟨w3.heap.size, 1, none⟩ = some (.int .i64 (winV l).2.1) := hc7.cell 1; have b27 : w7.cell? ⟨w3.heap.size, 2, none⟩ = some (.int .i64 0) := hc7.cell 2; have b37 : w7.cell? ⟨w3.heap.size, 3, none⟩ = some (.int .i64 0) := hc7.cell 3; have f07 := hc7.frozen 0; have f17 := hc7.frozen 1; have f27 := hc7.frozen 2; have f37 := hc7.frozen 3; have r0 := hb7.cell 0; have r1 := hb7.cell 1; have r2 := hb7.cell 2; have r3 := hb7.cell 3; have g0 := hb7.frozen 0; have g1 := hb7.frozen 1; have g2 := hb7.frozen 2; have g3 := hb7.frozen 3; simp only [List.getElem?_toArray, List.getElem?_cons_zero, List.getElem?_cons_succ] at r0 r1 r2 r3; clear hs hb7 hc7))
  have bd := winV_bd l
  have e1 : IntKind.i64.wrap ((winV l).1 + (nextV (nextV (nextV l 61).2 61).2 40).1) = (winV l).2.2.1 := by rw [i64w]; exact wrap_id (by omega)
  have e2 : IntKind.i64.wrap ((winV l).2.1 + (nextV (nextV (nextV (nextV l 61).2 61).2 40).2 40).1) = (winV l).2.2.2 := by rw [i64w]; exact wrap_id (by omega)
  simp only [e1, e2]
  have HO8 := Lib.hid (Only.since (Since.rfl_ w) HO7.out (by omega))
  clear b1 b2 b3 b4 e1 e2 bd HS4 HB4 HO4 HC4 b0 HS5 HB5 HC5 HO5 b05 b15 HB6 HC6 HO6 b06 b16 HO7
  go_wp2
  refine bodyPost_ret (v := .agg #[.int .i64 (winV l).1, .int .i64 (winV l).2.1, .int .i64 (winV l).2.2.1, .int .i64 (winV l).2.2.2]) (by simp [results, Try.results16, go_sem, cSetS, cSetO, r0, r1, r2, r3, b07, b17, b27, b37, hne3]) rfl ⟨rfl, ?_⟩
  have hsz := HO8.out.size
  exact (((((HO8.out.setCell (by dsimp only; omega) _).setCell (by dsimp only; omega) _).setCell (by dsimp only; omega) _).setCell (by dsimp only; omega) _).setCell (by dsimp only; omega) _).setCell (by dsimp only; omega) _
end Go.Proofs.Ytcckekdfeeghaaa
