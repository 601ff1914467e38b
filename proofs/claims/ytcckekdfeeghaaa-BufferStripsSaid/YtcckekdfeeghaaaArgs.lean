/-
  The arguments of laws, read as data: lists of numbers, points, boxes, numbers. Conditions: none.
-/
import Derived.Test.YtcckekdfeeghaaaRows
import Derived.Test.YtcckekdfeeghaaaClipM
import Derived.ProofKit
import Derived.OpenShut
import Derived.ChangeOld
import Derived.SizedLaws
import Derived.Lib.SmallJoins
import Derived.Deep.SlicePairs
namespace Go.Proofs.Ytcckekdfeeghaaa
set_option linter.unusedSimpArgs false
set_option linter.unusedVariables false
set_option linter.constructorNameAsVariable false
open Go.RowKit Go.BigFrame
open Go.ChangeShapes Go.WideShapes Go.ChangeAt Go.RowKit Go.Joins

theorem ownK : ownKnob Try.prog.godebug = none := by kernel_rfl
theorem laidOutK : laidOutB Try.prog = true := by kernel_rfl
theorem cellsPK : Try.prog.cellsOf 23 = 2 := by kernel_rfl

section
variable {H : Type} {enc : TypeId × Value → H} {W : World} {v : Value} {d : DataW H} {p : List MemPlace}
theorem addr_at {W : World} {a : Addr} {i : Nat} {u : Value} (h0 : (W.cell? a).isSome = true) (h : W.cell? (a.add i) = some u) : W.cell? ⟨a.block, a.off + i, none⟩ = some u := by
  have hs : a.spot = none := by
    unfold World.cell? at h0
    split at h0
    · split at h0
      · simp at h0
      · next h1 => simpa using h1
    · simp at h0
  obtain ⟨b, o, s⟩ := a
  dsimp only at hs
  subst hs
  unfold Addr.add at h
  split at h
  · next h1 => subst h1; exact h
  · exact h
set_option maxRecDepth 100000 in
theorem ints_of {base : Nat} (hv : Value.okWide Try.prog W .any base 26 v) (h : DataW.Trod enc Try.prog W 0 (fun _ => true) true 26 v d p) : ∃ l : List Int, IntsB W v l W.heap.size := by
  obtain ⟨a0, len0, cap0, rfl⟩ := okWide_slice Try.underlying26 hv
  clear hv
  obtain ⟨n, h⟩ := h
  rcases Go.Deep.open_slice1 Try.underlying26 (by kernel_rfl) h with ⟨hv, -⟩ | ⟨a, len, cap, m, n', V, D, Pl, hv, -, hl, hm, hmm, -, hx⟩
  · injection hv with hv
    rw [hv]
    exact ⟨[], none, 0, rfl, by simp, by unfold maxLen; omega, fun i hi => absurd hi (Nat.not_lt_zero _)⟩
  · injection hv with hv
    rw [hv]
    clear h
    simp only [if_true] at hmm
    subst hmm
    refine ⟨(List.range len).map fun i => intOf (V i), some a, m, by simp, by simpa using hl, hm, fun i hi => ?_⟩
    have hi' : i < len := by simpa using hi
    have h0 := (hx 0 (by omega)).1
    have h1 := hx i (by omega)
    obtain ⟨z, hz, -, -⟩ := DataW.trod_int Try.underlying3 h1.2
    injection hz with hz
    have ha : a.add 0 = a := rfl
    rw [ha] at h0
    have hs := addr_at (by rw [h0]; rfl) h1.1
    have hs0 := addr_at (i := 0) (by rw [h0]; rfl) (by rw [ha]; exact h0)
    have hsp : a = ⟨a.block, a.off, none⟩ := by
      obtain ⟨b, o, s⟩ := a
      unfold World.cell? at h0
      split at h0
      · split at h0
        · cases h0
        · next h1 => simp at h1; rw [h1]
      · cases h0
    refine ⟨a.block, a.off, by rw [← hsp], World.block_lt_of_cell? W a h0, ?_⟩
    rw [hs, hz]
    simp [List.getD, hi', hz, intOf]
theorem wf64 {z : Int} (h : (Lit.int .i64 z).wf = true) : -9223372036854775808 ≤ z ∧ z ≤ 9223372036854775807 := by
  simpa [Lit.wf, IntKind.min, IntKind.max, IntKind.signed, IntKind.bits] using h
set_option maxRecDepth 100000 in
theorem int_of {base : Nat} (hv : Value.okWide Try.prog W .any base 3 v) (h : DataW.Trod enc Try.prog W 0 (fun _ => true) true 3 v d p) : ∃ z : Int, (-9223372036854775808 ≤ z ∧ z ≤ 9223372036854775807) ∧ v = .int .i64 z := by
  obtain ⟨z0, rfl⟩ := okWide_int Try.underlying3 hv
  clear hv
  obtain ⟨n, h⟩ := h
  obtain ⟨z, hz, -, hw⟩ := DataW.trod_int Try.underlying3 h
  injection hz with hz
  exact ⟨z, wf64 hw, hz⟩
set_option maxRecDepth 100000 in
theorem pt_of {base : Nat} (hv : Value.okWide Try.prog W .any base 23 v) (h : DataW.Trod enc Try.prog W 0 (fun _ => true) true 23 v d p) : ∃ x y, v = .agg #[.int .i64 x, .int .i64 y] := by
  obtain ⟨c0, c1, y0, y1, m, rfl, -, -, hy0, hy1⟩ := open_agg2 Try.underlying23 (by kernel_rfl) cellsPK hv h
  obtain ⟨a, e0, -, -⟩ := DataW.trod_int Try.underlying3 hy0
  obtain ⟨b, e1, -, -⟩ := DataW.trod_int Try.underlying3 hy1
  simp at e0 e1
  exact ⟨a, b, by rw [e0, e1]⟩
theorem cellsBK : Try.prog.cellsOf 28 = 4 := by kernel_rfl
theorem cellsIK : Try.prog.cellsOf 3 = 1 := by kernel_rfl
theorem pt_open {m : Nat} {c0 c1 : Value} {y : DataW H × List MemPlace} (h : DataW.trod enc Try.prog W 0 (fun _ => true) true m 23 [c0, c1] = some y) : ∃ a b, c0 = .int .i64 a ∧ c1 = .int .i64 b := by
  obtain ⟨y0, y1, n, -, -, h0, h1⟩ := trod_struct2 Try.underlying23 h
  obtain ⟨a, e0, -, -⟩ := DataW.trod_int Try.underlying3 h0
  obtain ⟨b, e1, -, -⟩ := DataW.trod_int Try.underlying3 h1
  rw [cellsIK] at e0 e1
  simp at e0 e1
  exact ⟨a, b, e0, e1⟩
set_option maxRecDepth 100000 in
theorem box_of {base : Nat} (hv : Value.okWide Try.prog W .any base 28 v) (h : DataW.Trod enc Try.prog W 0 (fun _ => true) true 28 v d p) : ∃ x y z u, v = .agg #[.int .i64 x, .int .i64 y, .int .i64 z, .int .i64 u] := by
  obtain ⟨cs, rfl, hsz⟩ := okWide_struct Try.underlying28 hv
  obtain ⟨c0, c1, c2, c3, rfl⟩ := array4 (hsz.trans cellsBK)
  obtain ⟨fuel, hf⟩ := h
  obtain ⟨y0, y1, n, -, -, h0, h1⟩ := trod_struct2 Try.underlying28 hf
  rw [cellsPK] at h0 h1
  obtain ⟨a, b, e0, e1⟩ := pt_open (by simpa [Value.cells] using h0)
  obtain ⟨a2, b2, e2, e3⟩ := pt_open (by simpa [Value.cells] using h1)
  exact ⟨a, b, a2, b2, by rw [e0, e1, e2, e3]⟩
theorem addr_add (b o k : Nat) : (⟨b, o, none⟩ : Addr).add k = ⟨b, o + k, none⟩ := by unfold Addr.add; split <;> simp_all
set_option maxRecDepth 100000 in
theorem pts_of {base : Nat} (hv : Value.okWide Try.prog W .any base 32 v) (h : DataW.Trod enc Try.prog W 0 (fun _ => true) true 32 v d p) (hsz : ∀ es sp, d = .slice es sp → (es.length + sp.length) * Try.prog.bytesOf 23 ≤ reachBytes) : ∃ l : List Pt2, l.length ≤ 1000000000000000 ∧ PtsS W v l := by
  obtain ⟨a0, len0, cap0, rfl⟩ := okWide_slice Try.underlying32 hv
  clear hv
  obtain ⟨n, h⟩ := h
  rcases Go.Deep.open_slice_pairs Try.underlying32 Try.underlying23 cellsPK rfl rfl cellsIK cellsIK h with ⟨hv, -⟩ | ⟨a, len, cap, m, n', V0, V1, D0, D1, P0, P1, hv, -, hl, hm, hmm, hd, hx⟩
  · injection hv with hv
    rw [hv]
    exact ⟨[], by simp, none, 0, rfl, fun i hi => absurd hi (Nat.not_lt_zero _)⟩
  · injection hv with hv
    rw [hv]
    clear h
    simp only [Prod.mk.injEq] at hd
    have hlen : len ≤ 1000000000000000 := by
      have := hsz _ _ hd.1
      rw [show Try.prog.bytesOf 23 = 16 from by kernel_rfl] at this
      unfold reachBytes at this
      simp only [List.length_map, List.length_range] at this
      omega
    simp only [if_true] at hmm
    subst hmm
    have hsp : ∀ i, i < len → a = ⟨a.block, a.off, none⟩ := fun i hi => by
      have h0 := (hx 0 (by omega)).1
      have ha : a.add (0 * 2) = a := rfl
      rw [ha] at h0
      obtain ⟨b, o, s⟩ := a
      unfold World.cell? at h0
      split at h0
      · split at h0
        · cases h0
        · next h1 => simp at h1; rw [h1]
      · cases h0
    refine ⟨(List.range len).map fun i => (intOf (V0 i), intOf (V1 i)), by simpa using hlen, some a, m, by simp, fun i hi => ?_⟩
    have hi' : i < len := by simpa using hi
    have h1 := hx i (by omega)
    obtain ⟨z, hz, -, -⟩ := DataW.trod_int Try.underlying3 h1.2.2.1
    obtain ⟨y, hy, -, -⟩ := DataW.trod_int Try.underlying3 h1.2.2.2
    injection hz with hz
    injection hy with hy
    have hs := hsp i hi'
    have e0 := h1.1
    have e1 := h1.2.1
    rw [hs] at e0 e1
    rw [addr_add] at e0 e1
    refine ⟨a.block, a.off, by rw [← hs], ?_, ?_⟩
    · rw [e0, hz]; simp [pAt, List.getD, hi', hz, intOf]
    · rw [show a.off + i * 2 + 1 = a.off + (i * 2 + 1) by omega, e1, hy]; simp [pAt, List.getD, hi', hy, intOf]
end
end Go.Proofs.Ytcckekdfeeghaaa
