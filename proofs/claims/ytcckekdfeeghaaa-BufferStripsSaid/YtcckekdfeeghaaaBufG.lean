/-
  The walk of buffer.Strip. Conditions: bounds of the numbers.
-/
import Derived.Test.YtcckekdfeeghaaaBufF
namespace Go.Proofs.Ytcckekdfeeghaaa
set_option linter.unusedSimpArgs false
set_option linter.unusedVariables false
open Go.RowKit Go.BigFrame
attribute [local go_sem ↓] eqPt neqPt

/-- The error of a strip. -/
def strE (p q : Pt2) (b : Int) : Int := if octE p b = 0 then octE q b else octE p b
def strL (p q : Pt2) (b : Int) : List Pt2 := crnV p b ++ crnV q b
theorem strL_len (p q : Pt2) (b : Int) : (strL p q b).length = 16 := by unfold strL; rw [List.length_append, crnV_len, crnV_len]
theorem strE_zero {p q : Pt2} {b : Int} (h : strE p q b = 0) : octE p b = 0 ∧ octE q b = 0 := by
  unfold strE at h
  split at h
  · rename_i g; exact ⟨g, h⟩
  · rename_i g; exact absurd h g
def twoP (p q : Pt2) (k : Nat) : Pt2 := if k = 0 then p else q
theorem ptV_ones (l : List Pt2) : ∀ u ∈ l.flatMap ptV, u.oneCell' = true := by
  intro u hu
  rw [List.mem_flatMap] at hu
  obtain ⟨a, -, h⟩ := hu
  exact ptV_one a u h
/-- What is known in a strip's world. -/
def StW (w0 w : World) (p q : Pt2) : Prop := Since w0 w ∧ Blk w w0.heap.size 23 #[.int .i64 p.1, .int .i64 p.2] ∧ Blk w (w0.heap.size + 1) 23 #[.int .i64 q.1, .int .i64 q.2]
theorem StW.since {w0 w w' : World} {p q : Pt2} (h : StW w0 w p q) (hs : Since w w') : StW w0 w' p q := ⟨h.1.trans hs, hs.blk h.2.1, hs.blk h.2.2⟩
theorem StW.cells {w0 w : World} {p q : Pt2} (h : StW w0 w p q) : (w.cell? ⟨w0.heap.size, 0, none⟩ = some (.int .i64 p.1) ∧ w.cell? ⟨w0.heap.size, 1, none⟩ = some (.int .i64 p.2)) ∧ w.cell? ⟨w0.heap.size + 1, 0, none⟩ = some (.int .i64 q.1) ∧ w.cell? ⟨w0.heap.size + 1, 1, none⟩ = some (.int .i64 q.2) :=
  ⟨⟨h.2.1.cell 0, h.2.1.cell 1⟩, h.2.2.cell 0, h.2.2.cell 1⟩
theorem StW.app {w0 w w' : World} {p q : Pt2} (h : StW w0 w p q) {v : Value} {n : Nat} {xs : List Value} (ho : w.ownsRow (w0.heap.size + 2) 23 2 v n xs) (hg : w.grownBy w' v.ownBlock) : StW w0 w' p q :=
  ⟨h.1.app (ho.mono (by omega)) hg, (hg.block _ h.2.1.lt (own_ne ho (by omega))).trans h.2.1, (hg.block _ h.2.2.lt (own_ne ho (by omega))).trans h.2.2⟩

theorem own_some {w : World} {B : Nat} {e : TypeId} {k n : Nat} {v : Value} {xs : List Value} (h : w.ownsRow B e k v n xs) (hn : 0 < n) : ∃ g c, v = .slice (some ⟨g, 0, none⟩) n c := by
  obtain ⟨-, ⟨-, h0⟩ | ⟨g, cap, cur, h, -⟩⟩ := h
  · omega
  · exact ⟨g, cap, h⟩

set_option maxRecDepth 100000 in
set_option maxHeartbeats 4000000 in
theorem Strip_any (p q : Pt2) (b : Int) (w : World) :
    Calls Try.prog 38 #[.agg #[.int .i64 p.1, .int .i64 p.2], .agg #[.int .i64 q.1, .int .i64 q.2], .int .i64 b] w fun e w' => ∃ v, e = .returned (.tuple #[v, .int .i64 (strE p q b)]) ∧ (strE p q b = 0 → w'.ownsRow w.heap.size 23 2 v (hullV (strL p q b)).length ((hullV (strL p q b)).flatMap ptV)) ∧ (strE p q b ≠ 0 → v = .slice none 0 0) ∧ Since w w' := by
  go_enter Try.func38, Try.ntmps38
  go_wp2_with fail
  refine atW (fun w' => StW w w' p q ∧ Blk w' (w.heap.size + 2) 23 #[.int .i64 p.1, .int .i64 p.2, .int .i64 q.1, .int .i64 q.2]) ⟨⟨((Since.rfl_ w).alloc _).alloc _ |>.alloc _, ((Blk.new _ _ _).alloc _).alloc _, (Blk.new' (by simp)).alloc _⟩, Blk.new' (by simp)⟩ ?_
  rintro w1 ⟨h1, h2⟩
  have HW1 := Lib.hid h1
  have HB1 := Lib.hid h2
  clear h1 h2
  go_loopw [16] (fun v wr => ∃ k : Nat, k ≤ 2 ∧ v = .int .i64 k ∧ Hid (∀ i, i < k → octE (twoP p q i) b = 0) ∧ Hid (Since w1 wr)) (fun v _ => 2 - (intOf v).toNat)
  case atStart => exact ⟨0, by omega, rfl, fun i hi => absurd hi (Nat.not_lt_zero _), Since.rfl_ _⟩
  case round =>
    obtain ⟨k, hk, rfl, HG, HR⟩ := hrel
    rcases Nat.lt_or_ge k 2 with hlt | hge
    · have hz3 : decide ((k : Int) < 2) = true := by rw [decide_eq_true_eq]; omega
      obtain ⟨x, HX⟩ : ∃ x : Pt2, Hid (x = twoP p q k) := ⟨_, rfl⟩
      have x01 : wr.cell? ⟨w.heap.size + 2, k * 2, none⟩ = some (.int .i64 x.1) ∧ wr.cell? ⟨w.heap.size + 2, k * 2 + 1, none⟩ = some (.int .i64 x.2) := by
        rw [HX.out]
        have hb := HR.out.blk HB1.out
        have : k = 0 ∨ k = 1 := by omega
        rcases this with rfl | rfl
        · exact ⟨hb.cell 0, hb.cell 1⟩
        · exact ⟨hb.cell 2, hb.cell 3⟩
      obtain ⟨x0, x1⟩ := x01
      go_wp2_with fail
      refine (Octagon_any x b _).mono ?_
      rintro e w2 ⟨v, rfl, -, -, hs⟩
      have HR2 := Lib.hid (HR.out.trans (Since.trans ((Since.rfl_ wr).alloc _) hs))
      clear hs x0 x1
      by_cases h0 : octE x b = 0
      · have HG2 : Hid (∀ i, i < k + 1 → octE (twoP p q i) b = 0) := fun i hi => by
          rcases Nat.lt_succ_iff_lt_or_eq.1 hi with h | h
          · exact HG.out i h
          · rw [h, ← HX.out]; exact h0
        rw [h0]
        go_wp2_with fail
        go_roundw
        case rel => exact ⟨k + 1, by omega, by go_num, HG2, HR2⟩
        case measure => simp [intOf]; omega
      · have HN : Hid (strE p q b = octE x b) := by
          show _ = _
          have : k = 0 ∨ k = 1 := by omega
          rcases this with rfl | rfl
          · have e : x = p := HX.out
            rw [e] at h0 ⊢
            unfold strE; rw [if_neg h0]
          · have e : x = q := HX.out
            have h1 : octE p b = 0 := HG.out 0 (by omega)
            rw [e]
            unfold strE; rw [if_pos h1]
        have hb0 : (octE x b != 0) = true := by simpa [bne] using h0
        have HS3 := Lib.hid (HW1.out.1.trans HR2.out)
        have HN0 : Hid (strE p q b ≠ 0) := by show _ ≠ _; rw [HN.out]; exact h0
        generalize octE x b = n at *
        go_wp2_with fail
        refine bodyPost_ret (v := .tuple #[.slice none 0 0, .int .i64 n]) (by simp [results, Try.results38, go_sem]) rfl ?_
        exact ⟨_, by rw [HN.out], fun h => absurd h HN0.out, fun _ => rfl, HS3.out⟩
    · obtain rfl : k = 2 := by omega
      have z0 : octE p b = 0 := HG.out 0 (by omega)
      have z1 : octE q b = 0 := HG.out 1 (by omega)
      have HN : Hid (strE p q b = 0) := by show _ = _; unfold strE; rw [if_pos z0]; exact z1
      obtain ⟨b1, b2, b3, b4⟩ := octE_zero z0
      obtain ⟨-, -, b5, b6⟩ := octE_zero z1
      have HL : Hid (∀ x ∈ strL p q b, okP x.1 x.2 = true) := fun x hx => by
        unfold strL at hx
        rcases List.mem_append.1 hx with h | h
        · exact b4 x h
        · exact b6 x h
      have HCp := Lib.hid (fun w => corners_ok (p := p) (b := b) b1 b2 b3 w)
      have HCq := Lib.hid (fun w => corners_ok (p := q) (b := b) b1 b2 b5 w)
      have HW := Lib.hid ((HW1.out.since HR.out).since (Since.rfl_ wr).drew)
      clear z0 z1 b1 b2 b3 b4 b5 b6 HW1 HB1 HG
      have hlp := crnV_len p b
      have hlq := crnV_len q b
      obtain ⟨⟨a0, a1⟩, c0, c1⟩ := HW.out.cells
      rw [cellDrew] at a0 a1 c0 c1
      have hne : strL p q b ≠ [] := by intro h; have := strL_len p q b; rw [h] at this; cases this
      obtain ⟨i0, hi, hz0, hz1, hz2⟩ := info_parts infoPt
      have HI := Lib.hid hi
      have HZ := Lib.hid (And.intro hz0 (And.intro hz1 hz2))
      have hw1 := HW.out.1.size
      have hw2 := HW.out.2.2.lt
      clear hi hz0 hz1 hz2
      have hz3 : decide ((2 : Int) < 2) = false := by decide
      go_upto_region 8 with fail
      go_region_held3 (fun w' => w'.cell? ⟨w.heap.size, 0, none⟩ = some (.int .i64 p.1) ∧ w'.cell? ⟨w.heap.size, 1, none⟩ = some (.int .i64 p.2) ∧ w'.cell? ⟨w.heap.size + 1, 0, none⟩ = some (.int .i64 q.1) ∧ w'.cell? ⟨w.heap.size + 1, 1, none⟩ = some (.int .i64 q.2)) ((simp (maxDischargeDepth := 9) [*, World.cell?_alloc_some, cSetO, cellDrew])) (first
        | (go_at_call 85; (with_reducible refine (HCp.out _).mono ?_); rintro e w5 ⟨vp, rfl, ho, hs⟩; have HRp := Lib.hid (ho.mono (base' := w.heap.size + 2) hw2); (first | have HRq := Lib.hid (own_since hs HRq.out) | skip); have HW := Lib.hid (HW.out.since hs); have hw2 := HW.out.2.2.lt; obtain ⟨⟨a0, a1⟩, c0, c1⟩ := HW.out.cells; obtain ⟨gp, cp, rfl⟩ := own_some ho (by decide); clear ho hs)
        | (go_at_call 85; (with_reducible refine (HCq.out _).mono ?_); rintro e w5 ⟨vq, rfl, ho, hs⟩; have HRq := Lib.hid (ho.mono (base' := w.heap.size + 2) hw2); (first | have HRp := Lib.hid (own_since hs HRp.out) | skip); have HW := Lib.hid (HW.out.since hs); have hw2 := HW.out.2.2.lt; obtain ⟨⟨a0, a1⟩, c0, c1⟩ := HW.out.cells; obtain ⟨gq, cq, rfl⟩ := own_some ho (by decide); clear ho hs)
        | (go_at_call 49; (with_reducible refine (OfH_any sort_spec rev_spec _ (strL p q b) _ (own_ptsB HRs.out (by rw [strL_len]) (HRs.out.lt _ rfl).2) hne (by rw [strL_len]; decide) HL.out).mono ?_); rintro e w8 ⟨vh, rfl, ho, hs⟩; have HRh := Lib.hid (ho.mono (base' := w.heap.size) (by omega)); have HW := Lib.hid (HW.out.since hs); have hw2 := HW.out.2.2.lt; obtain ⟨⟨a0, a1⟩, c0, c1⟩ := HW.out.cells; obtain ⟨gh, ch, rfl⟩ := own_slice ho; clear ho hs)
        | (refine step_append_lies _ (by rfl) _ _ _ (by rfl) (w.heap.size + 2) 23 i0 _ 2 16 Try.underlying32 HI.out HZ.out.1 HZ.out.2.1 HZ.out.2.2 rfl (by decide) _ 8 _ (by rfl) HRp.out _ 8 _ _ (by rfl) (by rw [flatP_len, hlq]) (HRq.out.cells rfl) (ptV_ones _) (by decide) (by unfold maxLen; decide) (by decide) hw2 _ rfl ?_; intro ga ca w7 hown hgrow _ _; have HW := Lib.hid (HW.out.app HRp.out hgrow); have hw2 := HW.out.2.2.lt; obtain ⟨⟨a0, a1⟩, c0, c1⟩ := HW.out.cells; have HRs : Hid (w7.ownsRow (w.heap.size + 2) 23 2 (.slice (some ⟨ga, 0, none⟩) (8 + 8) ca) (8 + 8) ((strL p q b).flatMap ptV)) := (by show World.ownsRow _ _ _ _ _ _ _; unfold strL; rw [List.flatMap_append]; exact hown); clear hown hgrow))
      go_wp2_with fail
      refine bodyPost_ret (v := .tuple #[.slice gh (hullV (strL p q b)).length ch, .int .i64 0]) (by simp [results, Try.results38, go_sem]) rfl ?_
      exact ⟨_, by rw [HN.out], fun _ => HRh.out, fun h => absurd HN.out h, HW.out.1⟩
end Go.Proofs.Ytcckekdfeeghaaa
