/-
  slices.SortFunc and slices.Reverse over points, out of the kit's contracts. Conditions: bounds of the numbers.
-/
import Derived.Test.YtcckekdfeeghaaaBufC
import Derived.Test.YtcckekdfeeghaaaBufD
namespace Go.Proofs.Ytcckekdfeeghaaa
set_option linter.unusedSimpArgs false
set_option linter.unusedVariables false
open Go.RowKit Go.BigFrame Go.Shelf Go.Lib Go.Proofs
def sortPt_ren : Go.Shelf.Ren := ⟨fun | 6 => 94 | 15 => 115 | 14 => 114 | 28 => 134 | 29 => 135 | 20 => 126 | 21 => 127 | 22 => 128 | 23 => 129 | 24 => 130 | 25 => 131 | 26 => 132 | 27 => 133 | 46 => 150 | 47 => 151 | 48 => 152 | 49 => 153 | 50 => 154 | 57 => 159 | n => n, fun | 22 => 32 | 24 => 23 | 25 => 112 | 3 => 3 | 39 => 141 | 0 => 0 | 53 => 165 | 55 => 130 | 4 => 4 | 46 => 158 | 45 => 157 | 50 => 162 | 5 => 5 | 9 => 9 | 66 => 178 | 70 => 182 | 76 => 188 | 77 => 150 | n => n, fun | n => n⟩
theorem sortPt : Go.Proofs.SlLaysF0.n6 Try.prog sortPt_ren := {
  mixed := by kernel_rfl
  f6 := ⟨Try.f94.name, by decide, Try.func94.trans (congrArg some (by kernel_rfl))⟩
  f14 := ⟨Try.f114.name, by decide, Try.func114.trans (congrArg some (by kernel_rfl))⟩
  f15 := Try.func115.trans (congrArg some (by kernel_rfl))
  f20 := ⟨Try.f126.name, by decide, Try.func126.trans (congrArg some (by kernel_rfl))⟩
  f21 := ⟨Try.f127.name, by decide, Try.func127.trans (congrArg some (by kernel_rfl))⟩
  f22 := ⟨Try.f128.name, by decide, Try.func128.trans (congrArg some (by kernel_rfl))⟩
  f23 := ⟨Try.f129.name, by decide, Try.func129.trans (congrArg some (by kernel_rfl))⟩
  f24 := ⟨Try.f130.name, by decide, Try.func130.trans (congrArg some (by kernel_rfl))⟩
  f25 := ⟨Try.f131.name, by decide, Try.func131.trans (congrArg some (by kernel_rfl))⟩
  f26 := ⟨Try.f132.name, by decide, Try.func132.trans (congrArg some (by kernel_rfl))⟩
  f27 := ⟨Try.f133.name, by decide, Try.func133.trans (congrArg some (by kernel_rfl))⟩
  f28 := Try.func134.trans (congrArg some (by kernel_rfl))
  f29 := Try.func135.trans (congrArg some (by kernel_rfl))
  f46 := ⟨Try.f150.name, by decide, Try.func150.trans (congrArg some (by kernel_rfl))⟩
  f47 := Try.func151.trans (congrArg some (by kernel_rfl))
  f48 := Try.func152.trans (congrArg some (by kernel_rfl))
  f49 := ⟨Try.f153.name, by decide, Try.func153.trans (congrArg some (by kernel_rfl))⟩
  f50 := ⟨Try.f154.name, by decide, Try.func154.trans (congrArg some (by kernel_rfl))⟩
  f57 := ⟨Try.f159.name, by decide, Try.func159.trans (congrArg some (by kernel_rfl))⟩
  t0 := Try.underlying0
  a0 := Try.isAgg0
  z0 := Try.sizeOf0
  v0 := Try.zeroValue0
  t3 := Try.underlying3
  a3 := Try.isAgg3
  z3 := Try.sizeOf3
  v3 := Try.zeroValue3
  t4 := Try.underlying4
  a4 := Try.isAgg4
  z4 := Try.sizeOf4
  v4 := Try.zeroValue4
  t5 := Try.underlying5
  a5 := Try.isAgg5
  z5 := Try.sizeOf5
  v5 := Try.zeroValue5
  t9 := Try.underlying9
  a9 := Try.isAgg9
  z9 := Try.sizeOf9
  v9 := Try.zeroValue9
  t22 := Try.underlying32
  a22 := Try.isAgg32
  z22 := Try.sizeOf32
  v22 := Try.zeroValue32
  t25 := Try.underlying112
  a25 := Try.isAgg112
  z25 := Try.sizeOf112
  v25 := Try.zeroValue112
  t39 := Try.underlying141
  a39 := Try.isAgg141
  z39 := Try.sizeOf141
  v39 := Try.zeroValue141
  t45 := Try.underlying157
  a45 := Try.isAgg157
  z45 := Try.sizeOf157
  v45 := Try.zeroValue157
  t46 := Try.underlying158
  a46 := Try.isAgg158
  z46 := Try.sizeOf158
  v46 := Try.zeroValue158
  t50 := Try.underlying162
  a50 := Try.isAgg162
  z50 := Try.sizeOf162
  v50 := Try.zeroValue162
  t53 := Try.underlying165
  a53 := Try.isAgg165
  z53 := Try.sizeOf165
  v53 := Try.zeroValue165
  t55 := Try.underlying130
  a55 := Try.isAgg130
  z55 := Try.sizeOf130
  v55 := Try.zeroValue130
  t66 := Try.underlying178
  a66 := Try.isAgg178
  z66 := Try.sizeOf178
  v66 := Try.zeroValue178
  t70 := Try.underlying182
  a70 := Try.isAgg182
  z70 := Try.sizeOf182
  v70 := Try.zeroValue182
  t76 := Try.underlying188
  a76 := Try.isAgg188
  z76 := Try.sizeOf188
  v76 := Try.zeroValue188
  t77 := Try.underlying150
  a77 := Try.isAgg150
  z77 := Try.sizeOf150
  v77 := Try.zeroValue150 }
def revPt_ren : Go.Shelf.Ren := ⟨fun | 35 => 97 | n => n, fun | 22 => 32 | 23 => 23 | 3 => 3 | 4 => 4 | 0 => 0 | n => n, fun | n => n⟩
theorem revPt : Go.Proofs.SlLaysE0.n35 Try.prog revPt_ren := {
  mixed := by kernel_rfl
  f35 := ⟨Try.f97.name, by decide, Try.func97.trans (congrArg some (by kernel_rfl))⟩
  t0 := Try.underlying0
  a0 := Try.isAgg0
  z0 := Try.sizeOf0
  v0 := Try.zeroValue0
  t3 := Try.underlying3
  a3 := Try.isAgg3
  z3 := Try.sizeOf3
  v3 := Try.zeroValue3
  t4 := Try.underlying4
  a4 := Try.isAgg4
  z4 := Try.sizeOf4
  v4 := Try.zeroValue4
  t22 := Try.underlying32
  a22 := Try.isAgg32
  z22 := Try.sizeOf32
  v22 := Try.zeroValue32 }

theorem lxB_swo : Go.Sort.SWO (ltOf cmpP) where
  irrefl x := by rw [cmpP_lt]; simp [lxB]
  trans x y z h1 h2 := by rw [cmpP_lt] at *; simp only [lxB, Bool.or_eq_true, Bool.and_eq_true, decide_eq_true_eq] at *; omega
  ntrans x y z h1 h2 := by
    rw [cmpP_lt] at *
    simp only [lxB, Bool.or_eq_false_iff, Bool.and_eq_false_iff, decide_eq_false_iff_not] at *; omega
theorem ptV_one (x : Pt2) : ∀ v ∈ ptV x, v.oneCell' = true := by
  intro v hv
  simp only [ptV, List.mem_cons, List.not_mem_nil, or_false] at hv
  rcases hv with rfl | rfl <;> rfl
theorem cmpLays (blk off size : Nat) (w : World) : CmpLays Try.prog 95 #[] ptV 2 cmpP blk off size w := fun _ _ _ _ x y => Cmp_any x y _
theorem sort_spec : SortSpec := by
  intro g c n B l w h hn hlen
  have eg : ∀ args w, (callFunc 95 args).run Try.prog w = .ok (.enter 95 args) w := enters_of Try.func95 (by kernel_rfl) rfl
  have hT : ∀ x y, (ltOf cmpP) x y = false → (ltOf cmpP) y x = false → x = y := fun x y h1 h2 => by
    rw [cmpP_lt] at *
    simp only [lxB, Bool.or_eq_false_iff, Bool.and_eq_false_iff, decide_eq_false_iff_not] at *
    exact Prod.ext (by omega) (by omega)
  have hcon := AnyQ.slices_SortFunc_total sortPt 2 Try.isAgg23 Try.sizeOf23 ptV ptV_len ptV_one cmpP lxB_swo 95 #[] g 0 c l.toArray w eg (cmpLays _ _ _ _) (own_holds h hn) (h.lt g rfl).2 (by simp; omega) hT
  change Calls Try.prog 94 _ _ _ at hcon
  rw [show l.toArray.size = n by simp [hn]] at hcon
  refine hcon.mono ?_
  rintro e w' ⟨rfl, m, os, rfl⟩
  have e1 : (l.toArray.toList.mergeSort fun x y => !(ltOf cmpP) y x).toArray = (srtL l).toArray := by
    unfold srtL
    have : (fun x y => !(ltOf cmpP) y x) = fun x y => !lxB y x := by funext x y; rw [cmpP_lt]
    rw [this]
  rw [e1]
  exact ⟨rfl, own_sort h hn (by unfold srtL; simp), only_sort _ (h.lt g rfl).2⟩
theorem rev_spec : RevSpec := by
  intro g c n B l w h hn hlen
  have hcon := AnyQ.slices_Reverse revPt 2 Try.isAgg23 Try.sizeOf23 ptV ptV_len ptV_one g 0 c l.toArray w (own_holds h hn) (by simp; omega)
  change Calls Try.prog 97 _ _ _ at hcon
  rw [show l.toArray.size = n by simp [hn]] at hcon
  refine hcon.mono ?_
  rintro e w' ⟨rfl, m, rfl⟩
  rw [List.reverse_toArray]
  have := own_sort (os := #[]) (m := m) (l := l) (l' := l.reverse) h hn (by rw [List.length_reverse])
  rw [Go.Sort.grow_empty] at this
  have h2 := only_sort (m := m) (os := #[]) l.reverse.toArray (h.lt g rfl).2
  rw [Go.Sort.grow_empty] at h2
  exact ⟨rfl, this, h2⟩
end Go.Proofs.Ytcckekdfeeghaaa
