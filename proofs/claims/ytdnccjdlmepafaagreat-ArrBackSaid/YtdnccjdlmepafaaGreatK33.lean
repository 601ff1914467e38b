/-
  The arguments of laws, read as data: lists of numbers, points, boxes, numbers. Conditions: those that each lemma names.
-/
import Derived.Test.YtdnccjdlmepafaaGreatRows
import Derived.Test.YtdnccjdlmepafaaGreatK03
import Derived.ProofKit
import Derived.OpenShut
import Derived.ChangeOld
import Derived.SizedLaws
import Derived.Lib.SmallJoins
import Derived.Deep.SlicePairs
set_option linter.unusedSimpArgs false
set_option linter.unusedVariables false
set_option linter.constructorNameAsVariable false
namespace Go.Proofs.YtdnccjdlmepafaaGreat
section
open Go.RowKit Go.BigFrame
open Go.ChangeShapes Go.WideShapes Go.ChangeAt Go.RowKit Go.Joins
theorem ownK : ownKnob Tryz.prog.godebug = none := by kernel_rfl
theorem laidOutK : laidOutB Tryz.prog = true := by kernel_rfl
section
variable {H : Type} {enc : TypeId × Value → H} {W : World} {v : Value} {d : DataW H} {p : List MemPlace}
theorem addr_at {W : World} {a : Addr} {i : Nat} {u : Value} (h0 : (W.cell? a).isSome = true) (h : W.cell? (a.add i) = some u) : W.cell? ⟨a.block, a.off + i, none⟩ = some u := by
 have hs : a.spot = none := by
  unfold World.cell? at h0
  split at h0
  ·split at h0
   ·simp at h0
   ·next h1 => simpa using h1
  ·simp at h0
 obtain ⟨b, o, s⟩ := a
 dsimp only at hs
 subst hs
 unfold Addr.add at h
 split at h
 ·next h1 => subst h1; exact h
 ·exact h
set_option maxRecDepth 100000 in
theorem ints_of {base : Nat} (hv : Value.okWide Tryz.prog W .any base 22 v) (h : DataW.Trod enc Tryz.prog W 0 (fun _ => true) true 22 v d p) : ∃ l : List Int, IntsB W v l W.heap.size := by
 obtain ⟨a0, len0, cap0, rfl⟩ := okWide_slice Tryz.underlying22 hv
 clear hv
 obtain ⟨n, h⟩ := h
 rcases Go.Deep.open_slice1 Tryz.underlying22 (by kernel_rfl) h with ⟨hv, -⟩ | ⟨a, len, cap, m, n', V, D, Pl, hv, -, hl, hm, hmm, -, hx⟩
 ·injection hv with hv
  rw [hv]
  exact ⟨[], none, 0, rfl, by simp, by unfold maxLen; omega, fun i hi => absurd hi (Nat.not_lt_zero _)⟩
 ·injection hv with hv
  rw [hv]
  clear h
  simp only [if_true] at hmm
  subst hmm
  refine ⟨(List.range len).map fun i => intOf (V i), some a, m, by simp, by simpa using hl, hm, fun i hi => ?_⟩
  have hi' : i < len := by simpa using hi
  have h0 := (hx 0 (by omega)).1
  have h1 := hx i (by omega)
  obtain ⟨z, hz, -, -⟩ := DataW.trod_int Tryz.underlying3 h1.2
  injection hz with hz
  have ha : a.add 0 = a := rfl
  rw [ha] at h0
  have hs := addr_at (by rw [h0]; rfl) h1.1
  have hs0 := addr_at (i := 0) (by rw [h0]; rfl) (by rw [ha]; exact h0)
  have hsp : a = ⟨a.block, a.off, none⟩ := by
   obtain ⟨b, o, s⟩ := a
   unfold World.cell? at h0
   split at h0
   ·split at h0
    ·cases h0
    ·next h1 => simp at h1; rw [h1]
   ·cases h0
  refine ⟨a.block, a.off, by rw [← hsp], World.block_lt_of_cell? W a h0, ?_⟩
  rw [hs, hz]
  simp [List.getD, hi', hz, intOf]
end
end
end Go.Proofs.YtdnccjdlmepafaaGreat
