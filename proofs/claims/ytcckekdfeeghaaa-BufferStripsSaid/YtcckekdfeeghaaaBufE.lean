/-
  slices.SortFunc and slices.Reverse over points, out of the kit's contracts. Conditions: bounds of the numbers.
-/
import Derived.Test.YtcckekdfeeghaaaBufC
import Derived.Test.YtcckekdfeeghaaaBufD
namespace Go.Proofs.Ytcckekdfeeghaaa
set_option linter.unusedSimpArgs false
set_option linter.unusedVariables false
open Go.RowKit Go.BigFrame Go.Shelf Go.Lib Go.Proofs
shelf_lay_g SlLaysF0.n6 Slsf 6 at Try 94 as sortPt
shelf_lay_g SlLaysE0.n35 Slgn 35 at Try 97 as revPt

theorem lxB_swo : Go.Sort.SWO (ltOf cmpP) where
  irrefl x := by rw [cmpP_lt]; simp [lxB]
  trans x y z h1 h2 := by rw [cmpP_lt] at *; simp only [lxB, Bool.or_eq_true, Bool.and_eq_true, decide_eq_true_eq] at *; omega
  ntrans x y z h1 h2 := by
    rw [cmpP_lt] at *
    simp only [lxB, Bool.or_eq_false_iff, Bool.and_eq_false_iff, decide_eq_false_iff_not] at *; omega
theorem ptV_one (x : Pt2) : ∀ v ∈ ptV x, v.oneCell' = true := by
  intro v hv
  simp only [ptV, List.mem_cons, List.not_mem_nil, or_false] at hv
  rcases hv with rfl | rfl <;> rfl
theorem cmpLays (blk off size : Nat) (w : World) : CmpLays Try.prog 95 #[] ptV 2 cmpP blk off size w := fun _ _ _ _ x y => Cmp_any x y _
theorem sort_spec : SortSpec := by
  intro g c n B l w h hn hlen
  have eg : ∀ args w, (callFunc 95 args).run Try.prog w = .ok (.enter 95 args) w := enters_of Try.func95 (by kernel_rfl) rfl
  have hT : ∀ x y, (ltOf cmpP) x y = false → (ltOf cmpP) y x = false → x = y := fun x y h1 h2 => by
    rw [cmpP_lt] at *
    simp only [lxB, Bool.or_eq_false_iff, Bool.and_eq_false_iff, decide_eq_false_iff_not] at *
    exact Prod.ext (by omega) (by omega)
  have hcon := AnyQ.slices_SortFunc_total sortPt 2 Try.isAgg23 Try.sizeOf23 ptV ptV_len ptV_one cmpP lxB_swo 95 #[] g 0 c l.toArray w eg (cmpLays _ _ _ _) (own_holds h hn) (h.lt g rfl).2 (by simp; omega) hT
  change Calls Try.prog 94 _ _ _ at hcon
  rw [show l.toArray.size = n by simp [hn]] at hcon
  refine hcon.mono ?_
  rintro e w' ⟨rfl, m, os, rfl⟩
  have e1 : (l.toArray.toList.mergeSort fun x y => !(ltOf cmpP) y x).toArray = (srtL l).toArray := by
    unfold srtL
    have : (fun x y => !(ltOf cmpP) y x) = fun x y => !lxB y x := by funext x y; rw [cmpP_lt]
    rw [this]
  rw [e1]
  exact ⟨rfl, own_sort h hn (by unfold srtL; simp), only_sort _ (h.lt g rfl).2⟩
theorem rev_spec : RevSpec := by
  intro g c n B l w h hn hlen
  have hcon := AnyQ.slices_Reverse revPt 2 Try.isAgg23 Try.sizeOf23 ptV ptV_len ptV_one g 0 c l.toArray w (own_holds h hn) (by simp; omega)
  change Calls Try.prog 97 _ _ _ at hcon
  rw [show l.toArray.size = n by simp [hn]] at hcon
  refine hcon.mono ?_
  rintro e w' ⟨rfl, m, rfl⟩
  rw [List.reverse_toArray]
  have := own_sort (os := #[]) (m := m) (l := l) (l' := l.reverse) h hn (by rw [List.length_reverse])
  rw [Go.Sort.grow_empty] at this
  have h2 := only_sort (m := m) (os := #[]) l.reverse.toArray (h.lt g rfl).2
  rw [Go.Sort.grow_empty] at h2
  exact ⟨rfl, this, h2⟩
end Go.Proofs.Ytcckekdfeeghaaa
