/-
  The library's sort and Reverse over points, in this seat's words. Conditions: bounds of the numbers.
-/
import Derived.Test.YtcckekdfeeghaaaBufB
import Derived.Shelf.SlSortCmp.NoneTotal
import Derived.Shelf.SlicesQ.Reverse
import Derived.Ground.SlsfProg
import Derived.Ground.SlgnProg
namespace Go.Proofs.Ytcckekdfeeghaaa
set_option linter.unusedSimpArgs false
set_option linter.unusedVariables false
open Go.RowKit Go.BigFrame Go.Shelf Go.Lib Go.Proofs
attribute [local go_sem ↓] eqPt neqPt

theorem flatK_ptV (l : List Pt2) : Go.Sort.flatK ptV 2 l.toArray = (l.flatMap ptV).toArray := by
  refine Go.Sort.ext_get! (by rw [Go.Sort.size_flatK, List.size_toArray, List.size_toArray, flatP_len]) fun t ht => ?_
  rw [Go.Sort.size_flatK] at ht
  rw [Go.Sort.get_flatK _ _ _ _ ht]
  have ht' : t < l.length * 2 := by simpa using ht
  have hi : t / 2 < l.length := by omega
  have h1 := flat_at ptV_len l (t / 2) (t % 2) hi (by omega)
  rw [show t / 2 * 2 + t % 2 = t by omega] at h1
  have h2 : (l.flatMap ptV).toArray[t]! = (ptV l[t / 2])[t % 2]! := by
    rw [getElem!_def, getElem!_def, List.getElem?_toArray, h1]
  rw [h2, getElem!_pos l.toArray (t / 2) (by simpa using hi), List.getElem_toArray]
section
variable {w : World} {B g n c m : Nat} {l l' : List Pt2} {os : Array Obj}
theorem own_holds (h : w.ownsRow B 23 2 (.slice (some ⟨g, 0, none⟩) n c) n (l.flatMap ptV)) (hn : n = l.length) : Go.Sort.HoldsK ptV 2 w g 0 l.toArray := by
  intro j hj
  rw [flatK_ptV] at hj ⊢
  have hj' : j < n * 2 := by simp only [List.size_toArray, flatP_len] at hj; omega
  refine ⟨?_, h.frozenAt _⟩
  rw [Nat.zero_add, h.cellAt j hj']
  rw [getElem!_pos _ j hj, List.getElem_toArray, List.getElem?_eq_getElem]
  rfl
theorem only_sort (d : Array Pt2) (hg : g < w.heap.size) : Only g w (Go.Sort.grow (Go.Sort.putRowK ptV 2 (Go.Sort.ahead w m) g 0 d) os) := by
  refine ⟨rfl, rfl, rfl, by simp [Go.Sort.putRowK], fun k hk hne => ?_⟩
  rw [Go.Sort.heap_grow_old _ _ (by simpa [Go.Sort.putRowK] using hk)]
  have : g ≠ k := fun e => hne (by rw [e])
  simp [Go.Sort.putRowK, Go.Sort.putRow, Go.Sort.mapBlock, Go.Sort.ahead, Array.getElem?_modify, this]
theorem own_sort (h : w.ownsRow B 23 2 (.slice (some ⟨g, 0, none⟩) n c) n (l.flatMap ptV)) (hn : n = l.length) (hl : l'.length = l.length) :
    (Go.Sort.grow (Go.Sort.putRowK ptV 2 (Go.Sort.ahead w m) g 0 l'.toArray) os).ownsRow B 23 2 (.slice (some ⟨g, 0, none⟩) n c) n (l'.flatMap ptV) := by
  obtain ⟨h0, ⟨h1, -⟩ | ⟨g', cap, cur, h1, hb, hg, hc, hm, hs, ht⟩⟩ := h
  · cases h1
  · injection h1 with h1 h2 h3
    injection h1 with h1
    injection h1 with h1
    subst h1 h3
    have hlt : g < w.heap.size := (Array.getElem?_eq_some_iff.1 hg).1
    refine ⟨by rw [flatP_len, hn, hl], .inr ⟨g, c, Go.Sort.putCells id 0 (l'.flatMap ptV).toArray cur, rfl, hb, ?_, hc, hm, by simp [Go.Sort.putCells, hs], ?_⟩⟩
    · rw [Go.Sort.heap_grow_old _ _ (by simpa [Go.Sort.putRowK] using hlt)]
      simp [Go.Sort.putRowK, Go.Sort.putRow, Go.Sort.mapBlock, Go.Sort.ahead, Array.getElem?_modify, hg, Go.Sort.onCells, flatK_ptV]
    · have hle : n * 2 ≤ cur.size := by rw [hs]; exact Nat.mul_le_mul_right 2 hc
      apply List.ext_getElem?
      intro j
      have hlen : (l'.flatMap ptV).length = n * 2 := by rw [flatP_len, hn, hl]
      by_cases hj : j < n * 2
      · rw [List.getElem?_take_of_lt hj, Array.getElem?_toList]
        simp [Go.Sort.putCells, hj, hlen, show j < cur.size by omega]
      · rw [List.getElem?_take_eq_none (by omega), List.getElem?_eq_none (by omega)]
end

/-- point.Cmp. -/
def cmpP (a b : Pt2) : Int := if cmpI a.1 b.1 = 0 then cmpI a.2 b.2 else cmpI a.1 b.1
theorem Cmp_any (a b : Pt2) (w : World) : Calls Try.prog 95 #[.agg #[.int .i64 a.1, .int .i64 a.2], .agg #[.int .i64 b.1, .int .i64 b.2]] w fun e w' => e = .returned (.int .i64 (cmpP a b)) ∧ ∃ q os', w' = Go.Sort.grow (w.drewN q) os' := by
  cases hc : (cmpI a.1 b.1 == 0)
  · have HE : Hid (cmpI a.1 b.1 = cmpP a b) := by
      show _ = _
      unfold cmpP; rw [if_neg (by simpa using hc)]
    have hc2 : (cmpI a.1 b.1 != 0) = true := by simpa [bne] using hc
    go_enter Try.func95, Try.ntmps95
    go_wp2_with (go_at_call 103; refine (Compare_any _ _ _).mono ?_; rintro e w' ⟨rfl, rfl⟩)
    go_ret
    exact ⟨ret_int HE.out, 0, _, by rw [Go.Sort.alloc_eq_grow, Go.Sort.alloc_eq_grow, Go.Sort.grow_grow]; rfl⟩
  · have HE : Hid (cmpI a.2 b.2 = cmpP a b) := by
      show _ = _
      unfold cmpP; rw [if_pos (by simpa using hc)]
    have hc2 : (cmpI a.1 b.1 != 0) = false := by simpa [bne] using hc
    go_enter Try.func95, Try.ntmps95
    go_wp2_with (go_at_call 103; refine (Compare_any _ _ _).mono ?_; rintro e w' ⟨rfl, rfl⟩)
    go_ret
    exact ⟨ret_int HE.out, 0, _, by rw [Go.Sort.alloc_eq_grow, Go.Sort.alloc_eq_grow, Go.Sort.grow_grow]; rfl⟩
theorem cmpP_lt (a b : Pt2) : Go.Proofs.ltOf cmpP a b = lxB a b := by
  unfold Go.Proofs.ltOf cmpP lxB cmpI
  rw [Bool.eq_iff_iff]
  simp only [decide_eq_true_eq, Bool.or_eq_true, Bool.and_eq_true]
  repeat' split
  all_goals omega
end Go.Proofs.Ytcckekdfeeghaaa
