/-
  Walks of slices.IndexFunc, ContainsFunc with the closure of ClipWithin. Conditions: bounds of the numbers.
-/
import Derived.Test.YtcckekdfeeghaaaClipH
import Derived.Test.YtcckekdfeeghaaaClipC
namespace Go.Proofs.Ytcckekdfeeghaaa
set_option linter.unusedSimpArgs false
set_option linter.unusedVariables false
open Go.RowKit Go.BigFrame
attribute [local go_sem ↓] eqPt neqPt

theorem HasS_val {lx ly hx hy px py : Int} {b : Bool} (h : hasV lx ly hx hy px py = b) (w : World) : Calls Try.prog 23 #[.agg #[.int .i64 lx, .int .i64 ly, .int .i64 hx, .int .i64 hy], .agg #[.int .i64 px, .int .i64 py]] w fun e w' =>
    e = .returned (.bool b) ∧ Since w w' := h ▸ Has_any _ _ _ _ _ _ w

/-- The closure: whether a point is out of the box. -/
theorem out_any (lx ly hx hy px py : Int) (gb : Nat) (w : World) (hb : Blk w gb 28 #[.int .i64 lx, .int .i64 ly, .int .i64 hx, .int .i64 hy]) (h : hasV lx ly hx hy px py = true) :
    Calls Try.prog 22 #[.agg #[.int .i64 px, .int .i64 py], .pointer (some ⟨gb, 0, none⟩)] w fun e w' => e = .returned (.bool false) ∧ Since w w' := by
  have lb := hb.lt
  have b_0 := hb.cell 0
  have b_1 := hb.cell 1
  have b_2 := hb.cell 2
  have b_3 := hb.cell 3
  simp only [List.getElem?_toArray, List.getElem?_cons_zero, List.getElem?_cons_succ] at b_0 b_1 b_2 b_3
  clear hb
  have H := Lib.hid h
  clear h
  go_enter Try.func22, Try.ntmps22
  go_wp2_with fail
  refine (HasS_val H.out _).mono ?_
  rintro e w1 ⟨rfl, hs⟩
  have HS := Lib.hid (((Since.rfl_ w).alloc _).trans hs)
  clear hs
  go_wp2
  go_ret
  exact ⟨rfl, HS.out⟩

theorem IndexNone_any (v : Value) (l : List Pt2) (lx ly hx hy : Int) (gb : Nat) (w : World) (hl : l.length ≤ 1000000000000000) (hv : PtsS w v l) (hb : Blk w gb 28 #[.int .i64 lx, .int .i64 ly, .int .i64 hx, .int .i64 hy])
    (hin : ∀ i, i < l.length → hasV lx ly hx hy (pAt l i).1 (pAt l i).2 = true) :
    Calls Try.prog 71 #[v, .func (Fn.func 22) #[] #[.pointer (some ⟨gb, 0, none⟩)]] w fun e w' => e = .returned (.int .i64 (-1)) ∧ Since w w' := by
  obtain ⟨a, c, rfl, hv⟩ := hv
  have HV := Lib.hid hv
  have HB := Lib.hid hb
  have HI := Lib.hid hin
  clear hv hb hin
  go_enter Try.func71, Try.ntmps71
  go_wp2_with fail
  go_loopw [8] (fun v wr => ∃ k : Nat, k ≤ l.length ∧ v = .int .i64 k ∧ Since w wr) (fun v _ => l.length - (intOf v).toNat)
  case atStart => exact ⟨0, Nat.zero_le _, rfl, Since.rfl_ w⟩
  case round =>
    obtain ⟨k, hk, rfl, hs⟩ := hrel
    rcases Nat.lt_or_ge k l.length with hlt | hge
    · obtain ⟨g, o, ha, e0, e1⟩ := HV.out k hlt
      subst ha
      replace e0 := keepC hs _ _ e0
      replace e1 := keepC hs _ _ e1
      have HS := Lib.hid hs
      clear hs
      go_wp2_with fail
      refine (out_any _ _ _ _ _ _ gb _ (HS.out.blk HB.out) (HI.out k hlt)).mono ?_
      rintro e w3 ⟨rfl, hs⟩
      have HS2 := Lib.hid (HS.out.trans hs)
      clear hs
      go_wp2
      go_roundw
      case rel => exact ⟨k + 1, by omega, by go_num, HS2.out⟩
      case measure => simp [intOf]; omega
    · have HS := Lib.hid hs
      clear hs
      go_wp2
      go_ret
      exact ⟨rfl, HS.out⟩
theorem ContainsNone_any (v : Value) (l : List Pt2) (lx ly hx hy : Int) (gb : Nat) (w : World) (hl : l.length ≤ 1000000000000000) (hv : PtsS w v l) (hb : Blk w gb 28 #[.int .i64 lx, .int .i64 ly, .int .i64 hx, .int .i64 hy])
    (hin : ∀ i, i < l.length → hasV lx ly hx hy (pAt l i).1 (pAt l i).2 = true) :
    Calls Try.prog 21 #[v, .func (Fn.func 22) #[] #[.pointer (some ⟨gb, 0, none⟩)]] w fun e w' => e = .returned (.bool false) ∧ Since w w' := by
  have H := Lib.hid (And.intro hv (And.intro hb hin))
  obtain ⟨a, c, rfl, -⟩ := hv
  clear hb hin
  go_enter Try.func21, Try.ntmps21
  go_wp2_with fail
  refine (IndexNone_any _ l lx ly hx hy gb _ hl H.out.1 H.out.2.1 H.out.2.2).mono ?_
  rintro e w1 ⟨rfl, hs⟩
  have HS := Lib.hid hs
  clear hs
  go_wp2
  go_ret
  exact ⟨rfl, HS.out⟩
end Go.Proofs.Ytcckekdfeeghaaa
