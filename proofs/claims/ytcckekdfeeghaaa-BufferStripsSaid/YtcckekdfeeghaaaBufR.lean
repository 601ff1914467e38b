/-
  The walk of seg.shared. Conditions: none.
-/
import Derived.Test.YtcckekdfeeghaaaBufQ
namespace Go.Proofs.Ytcckekdfeeghaaa
set_option linter.unusedSimpArgs false
set_option linter.unusedVariables false
open Go.RowKit Go.BigFrame
attribute [local go_sem ↓] eqPt neqPt

def sharedL (a b c d : Pt2) : List Pt2 := addS (addS (addS (addS [] a c d) b c d) c a b) d a b
theorem addS_len (L : List Pt2) (p q r : Pt2) : (addS L p q r).length ≤ L.length + 1 := by
  unfold addS
  split
  · simp
  · omega
/-- What is known while the shared ends are gathered. -/
structure ShW (w W : World) (G : Nat) (a b c d : Pt2) (L : List Pt2) (v : Value) : Prop where
  s : Since w W
  ba : Blk W G 23 #[.int .i64 a.1, .int .i64 a.2]
  bb : Blk W (G + 1) 23 #[.int .i64 b.1, .int .i64 b.2]
  bc : Blk W (G + 1 + 1) 23 #[.int .i64 c.1, .int .i64 c.2]
  bd : Blk W (G + 1 + 1 + 1) 23 #[.int .i64 d.1, .int .i64 d.2]
  bs : Blk W (G + 1 + 1 + 1 + 1) 32 #[v]
  row : W.ownsRow (G + 5) 23 2 v L.length (L.flatMap ptV)
  sz : G + 5 ≤ W.heap.size
theorem ShW.step {w W W' : World} {G : Nat} {a b c d : Pt2} {L L' : List Pt2} {v v' : Value} (h : ShW w W G a b c d L v) (hG : G = w.heap.size) (h1 : Blk W' (G + 1 + 1 + 1 + 1) 32 #[v']) (h2 : W'.ownsRow (G + 5) 23 2 v' L'.length (L'.flatMap ptV)) (hb : Below (G + 1 + 1 + 1 + 1) W W') (hs : G + 5 ≤ W'.heap.size) : ShW w W' G a b c d L' v' :=
  ⟨Below.trans (B := w.heap.size) h.s (Below.mono hb (by omega)), h.ba.below hb (by omega), h.bb.below hb (by omega), h.bc.below hb (by omega), h.bd.below hb (by omega), h1, h2, hs⟩

set_option maxRecDepth 100000 in
set_option maxHeartbeats 4000000 in
theorem shared_any (a b c d : Pt2) (w : World) :
    Calls Try.prog 125 #[.agg #[.int .i64 a.1, .int .i64 a.2], .agg #[.int .i64 b.1, .int .i64 b.2], .agg #[.int .i64 c.1, .int .i64 c.2], .agg #[.int .i64 d.1, .int .i64 d.2]] w fun e w' =>
      ∃ x y, e = .returned (.slice x (sharedL a b c d).length y) ∧ Since w w' := by
  obtain ⟨L1, H1⟩ : ∃ L1, Hid (L1 = addS [] a c d) := ⟨_, rfl⟩
  obtain ⟨L2, H2⟩ : ∃ L2, Hid (L2 = addS L1 b c d) := ⟨_, rfl⟩
  obtain ⟨L3, H3⟩ : ∃ L3, Hid (L3 = addS L2 c a b) := ⟨_, rfl⟩
  obtain ⟨L4, H4⟩ : ∃ L4, Hid (L4 = addS L3 d a b) := ⟨_, rfl⟩
  have HE : Hid (sharedL a b c d = L4) := by show _ = _; rw [H4.out, H3.out, H2.out, H1.out]; rfl
  have k1 : L1.length ≤ 1 := by rw [H1.out]; exact addS_len _ _ _ _
  have k2 : L2.length ≤ 2 := by have := addS_len L1 b c d; rw [H2.out]; omega
  have k3 : L3.length ≤ 3 := by have := addS_len L2 c a b; rw [H3.out]; omega
  go_enter Try.func125, Try.ntmps125
  go_upto_region 3 with fail
  obtain ⟨G, HG⟩ : ∃ G, G = w.heap.size := ⟨_, rfl⟩
  rw [← HG]
  refine atW (fun w' => ShW w w' G a b c d [] (.slice none 0 0)) ⟨((((Since.rfl_ w).alloc _).alloc _).alloc _).alloc _ |>.alloc _, (((Blk.new' HG).alloc _).alloc _).alloc _ |>.alloc _, ((Blk.new' (by simp [HG])).alloc _).alloc _ |>.alloc _, (Blk.new' (by simp [HG])).alloc _ |>.alloc _, (Blk.new' (by simp [HG])).alloc _, Blk.new' (by simp [HG]), World.ownsRow_nil _ _ _ _, by simp [HG]⟩ ?_
  intro w1 h1
  have HW := Lib.hid h1
  have HGG := Lib.hid HG
  clear h1 HG
  have a0 : w1.cell? ⟨G, 0, none⟩ = some (.int .i64 a.1) := HW.out.ba.cell 0
  have a1 : w1.cell? ⟨G, 1, none⟩ = some (.int .i64 a.2) := HW.out.ba.cell 1
  have b0 : w1.cell? ⟨G + 1, 0, none⟩ = some (.int .i64 b.1) := HW.out.bb.cell 0
  have b1 : w1.cell? ⟨G + 1, 1, none⟩ = some (.int .i64 b.2) := HW.out.bb.cell 1
  have c0 : w1.cell? ⟨G + 1 + 1, 0, none⟩ = some (.int .i64 c.1) := HW.out.bc.cell 0
  have c1 : w1.cell? ⟨G + 1 + 1, 1, none⟩ = some (.int .i64 c.2) := HW.out.bc.cell 1
  have d0 : w1.cell? ⟨G + 1 + 1 + 1, 0, none⟩ = some (.int .i64 d.1) := HW.out.bd.cell 0
  have d1 : w1.cell? ⟨G + 1 + 1 + 1, 1, none⟩ = some (.int .i64 d.2) := HW.out.bd.cell 1
  go_wp2_with fail
  refine (add_any (G + 1 + 1 + 1 + 1) (G + 5) [] a c d _ w1 HW.out.bs HW.out.row (by omega) HW.out.sz (by first | omega | simp)).mono ?_
  rintro e w2 ⟨rfl, vw2, hb, ho, hbl, hs⟩
  rw [← H1.out] at ho
  have HW := Lib.hid (HW.out.step HGG.out hb ho hbl hs)
  clear hb ho hbl hs a0 a1 b0 b1 c0 c1 d0 d1
  have a0 : w2.cell? ⟨G, 0, none⟩ = some (.int .i64 a.1) := HW.out.ba.cell 0
  have a1 : w2.cell? ⟨G, 1, none⟩ = some (.int .i64 a.2) := HW.out.ba.cell 1
  have b0 : w2.cell? ⟨G + 1, 0, none⟩ = some (.int .i64 b.1) := HW.out.bb.cell 0
  have b1 : w2.cell? ⟨G + 1, 1, none⟩ = some (.int .i64 b.2) := HW.out.bb.cell 1
  have c0 : w2.cell? ⟨G + 1 + 1, 0, none⟩ = some (.int .i64 c.1) := HW.out.bc.cell 0
  have c1 : w2.cell? ⟨G + 1 + 1, 1, none⟩ = some (.int .i64 c.2) := HW.out.bc.cell 1
  have d0 : w2.cell? ⟨G + 1 + 1 + 1, 0, none⟩ = some (.int .i64 d.1) := HW.out.bd.cell 0
  have d1 : w2.cell? ⟨G + 1 + 1 + 1, 1, none⟩ = some (.int .i64 d.2) := HW.out.bd.cell 1
  go_wp2_with fail
  refine (add_any (G + 1 + 1 + 1 + 1) (G + 5) L1 b c d _ w2 HW.out.bs HW.out.row (by omega) HW.out.sz (by first | omega | simp)).mono ?_
  rintro e w3 ⟨rfl, vw3, hb, ho, hbl, hs⟩
  rw [← H2.out] at ho
  have HW := Lib.hid (HW.out.step HGG.out hb ho hbl hs)
  clear hb ho hbl hs a0 a1 b0 b1 c0 c1 d0 d1
  have a0 : w3.cell? ⟨G, 0, none⟩ = some (.int .i64 a.1) := HW.out.ba.cell 0
  have a1 : w3.cell? ⟨G, 1, none⟩ = some (.int .i64 a.2) := HW.out.ba.cell 1
  have b0 : w3.cell? ⟨G + 1, 0, none⟩ = some (.int .i64 b.1) := HW.out.bb.cell 0
  have b1 : w3.cell? ⟨G + 1, 1, none⟩ = some (.int .i64 b.2) := HW.out.bb.cell 1
  have c0 : w3.cell? ⟨G + 1 + 1, 0, none⟩ = some (.int .i64 c.1) := HW.out.bc.cell 0
  have c1 : w3.cell? ⟨G + 1 + 1, 1, none⟩ = some (.int .i64 c.2) := HW.out.bc.cell 1
  have d0 : w3.cell? ⟨G + 1 + 1 + 1, 0, none⟩ = some (.int .i64 d.1) := HW.out.bd.cell 0
  have d1 : w3.cell? ⟨G + 1 + 1 + 1, 1, none⟩ = some (.int .i64 d.2) := HW.out.bd.cell 1
  go_wp2_with fail
  refine (add_any (G + 1 + 1 + 1 + 1) (G + 5) L2 c a b _ w3 HW.out.bs HW.out.row (by omega) HW.out.sz (by first | omega | simp)).mono ?_
  rintro e w4 ⟨rfl, vw4, hb, ho, hbl, hs⟩
  rw [← H3.out] at ho
  have HW := Lib.hid (HW.out.step HGG.out hb ho hbl hs)
  clear hb ho hbl hs a0 a1 b0 b1 c0 c1 d0 d1
  have a0 : w4.cell? ⟨G, 0, none⟩ = some (.int .i64 a.1) := HW.out.ba.cell 0
  have a1 : w4.cell? ⟨G, 1, none⟩ = some (.int .i64 a.2) := HW.out.ba.cell 1
  have b0 : w4.cell? ⟨G + 1, 0, none⟩ = some (.int .i64 b.1) := HW.out.bb.cell 0
  have b1 : w4.cell? ⟨G + 1, 1, none⟩ = some (.int .i64 b.2) := HW.out.bb.cell 1
  have c0 : w4.cell? ⟨G + 1 + 1, 0, none⟩ = some (.int .i64 c.1) := HW.out.bc.cell 0
  have c1 : w4.cell? ⟨G + 1 + 1, 1, none⟩ = some (.int .i64 c.2) := HW.out.bc.cell 1
  have d0 : w4.cell? ⟨G + 1 + 1 + 1, 0, none⟩ = some (.int .i64 d.1) := HW.out.bd.cell 0
  have d1 : w4.cell? ⟨G + 1 + 1 + 1, 1, none⟩ = some (.int .i64 d.2) := HW.out.bd.cell 1
  go_wp2_with fail
  refine (add_any (G + 1 + 1 + 1 + 1) (G + 5) L3 d a b _ w4 HW.out.bs HW.out.row (by omega) HW.out.sz (by first | omega | simp)).mono ?_
  rintro e w5 ⟨rfl, vw5, hb, ho, hbl, hs⟩
  rw [← H4.out] at ho
  have HW := Lib.hid (HW.out.step HGG.out hb ho hbl hs)
  clear hb ho hbl hs a0 a1 b0 b1 c0 c1 d0 d1
  have s0 : w5.cell? ⟨G + 1 + 1 + 1 + 1, 0, none⟩ = some vw5 := HW.out.bs.cell 0
  obtain ⟨x, y, rfl⟩ := own_slice HW.out.row
  go_wp2_with fail
  go_ret
  refine ⟨x, y, ?_, HW.out.s⟩
  rw [HE.out]; rfl
end Go.Proofs.Ytcckekdfeeghaaa
