/-
  Walks of slices.IndexFunc and ContainsFunc over spots, with the closure of the reference of Meets. Conditions: bounds of the numbers.
-/
import Derived.Test.YtcckekdfeeghaaaHotR
namespace Go.Proofs.Ytcckekdfeeghaaa
set_option linter.unusedSimpArgs false
set_option linter.unusedVariables false
open Go.RowKit Go.BigFrame

/-- The first place from k on at which p holds, -1 if none. -/
def idxI {α : Type} (p : α → Bool) : List α → Nat → Int
  | [], _ => -1
  | x :: l, k => if p x then (k : Int) else idxI p l (k + 1)
theorem idxI_ge {α : Type} (p : α → Bool) : ∀ (l : List α) (k : Nat), decide (0 ≤ idxI p l k) = l.any p
  | [], _ => by simp [idxI]
  | x :: l, k => by
    unfold idxI
    cases h : p x
    · rw [if_neg (by simp)]; simp [h, idxI_ge p l]
    · rw [if_pos rfl]; simp [h]
theorem idxI_drop {α : Type} (p : α → Bool) (l : List α) (k : Nat) (h : k < l.length) : idxI p (l.drop k) k = if p l[k] then (k : Int) else idxI p (l.drop (k + 1)) (k + 1) := by
  rw [List.drop_eq_getElem_cons h]; rfl

def spOk (s : Spt) : Prop := s.2.2.natAbs ≤ 2097152
theorem in3_any (s : Spt) (px py : Int) (gp : Nat) (w : World) (hd : s.2.2.natAbs ≤ 2097152) (hx : px.natAbs ≤ 2097152) (hy : py.natAbs ≤ 2097152) (c0 : w.cell? ⟨gp, 0, none⟩ = some (.int .i64 px)) (c1 : w.cell? ⟨gp, 1, none⟩ = some (.int .i64 py)) :
    Calls Try.prog 64 #[.agg #[.int .i64 s.1, .int .i64 s.2.1, .int .i64 s.2.2], .pointer (some ⟨gp, 0, none⟩)] w fun e w' => e = .returned (.bool (inB s px py)) ∧ Since w w' := by
  have lp : gp < w.heap.size := World.block_lt_of_cell? w _ c0
  go_enter Try.func64, Try.ntmps64
  go_wp2_with fail
  refine (in_any s px py _ hd hx hy).mono ?_
  rintro e w' ⟨rfl, hs⟩
  have HS := Lib.hid (((Since.rfl_ w).alloc _).trans hs)
  clear hs
  go_wp2
  go_ret
  exact ⟨rfl, HS.out⟩

theorem idxSpot (l : List Spt) (g c : Nat) (px py : Int) (gp : Nat) (w : World) (hd : ∀ s ∈ l, spOk s) (hn : l.length ≤ 1000) (hx : px.natAbs ≤ 2097152) (hy : py.natAbs ≤ 2097152)
    (c0 : w.cell? ⟨gp, 0, none⟩ = some (.int .i64 px)) (c1 : w.cell? ⟨gp, 1, none⟩ = some (.int .i64 py))
    (hl : ∀ (i : Nat) (h : i < l.length), w.cell? ⟨g, i * 3, none⟩ = some (.int .i64 l[i].1) ∧ w.cell? ⟨g, i * 3 + 1, none⟩ = some (.int .i64 l[i].2.1) ∧ w.cell? ⟨g, i * 3 + 2, none⟩ = some (.int .i64 l[i].2.2)) :
    Calls Try.prog 102 #[.slice (some ⟨g, 0, none⟩) l.length c, .func (Fn.func 64) #[] #[.pointer (some ⟨gp, 0, none⟩)]] w
      fun e w' => e = .returned (.int .i64 (idxI (fun s => inB s px py) l 0)) ∧ Since w w' := by
  have HL := Lib.hid hl
  have HD := Lib.hid hd
  clear hl hd
  go_enter Try.func102, Try.ntmps102
  go_wp2
  go_loopw [8] (fun v wr => ∃ k : Nat, k ≤ l.length ∧ v = .int .i64 k ∧ Hid (idxI (fun s => inB s px py) (l.drop k) k = idxI (fun s => inB s px py) l 0) ∧ Since w wr) (fun v _ => l.length - (intOf v).toNat)
  case atStart => exact ⟨0, Nat.zero_le _, rfl, rfl, Since.rfl_ w⟩
  case round =>
    obtain ⟨k, hk, rfl, hi, hs⟩ := hrel
    have d0 := keepC hs _ _ c0
    have d1 := keepC hs _ _ c1
    have HS := Lib.hid hs
    by_cases hlt : k < l.length
    · obtain ⟨e0, e1, e2⟩ := HL.out k hlt
      replace e0 := keepC hs _ _ e0
      replace e1 := keepC hs _ _ e1
      replace e2 := keepC hs _ _ e2
      have ho := HD.out l[k] (List.getElem_mem hlt)
      have HI : Hid (idxI (fun s => inB s px py) l 0 = if inB l[k] px py then (k : Int) else idxI (fun s => inB s px py) (l.drop (k + 1)) (k + 1)) := by
        show _ = _
        rw [← hi.out, idxI_drop _ l k hlt]
      clear hs hi
      go_wp2_with fail
      refine (in3_any l[k] px py gp _ ho hx hy d0 d1).mono ?_
      rintro e w' ⟨rfl, hs2⟩
      have HS2 := Lib.hid (HS.out.trans hs2)
      clear hs2
      cases hb : inB l[k] px py
      · have HI2 : Hid (idxI (fun s => inB s px py) (l.drop (k + 1)) (k + 1) = idxI (fun s => inB s px py) l 0) := by
          show _ = _
          rw [HI.out, hb]; rfl
        clear HI hb
        go_wp2
        go_roundw
        case rel => exact ⟨k + 1, by omega, by go_num, HI2, HS2.out⟩
        case measure => simp [intOf]; omega
      · have HI2 : Hid ((k : Int) = idxI (fun s => inB s px py) l 0) := by
          show _ = _
          rw [HI.out, hb]; rfl
        clear HI hb
        go_wp2
        go_ret
        exact ⟨ret_int HI2.out, HS2.out⟩
    · have HI : Hid ((-1 : Int) = idxI (fun s => inB s px py) l 0) := by
        show _ = _
        rw [← hi.out, List.drop_of_length_le (by omega)]; rfl
      clear hs hi
      go_wp2
      go_ret
      exact ⟨ret_int HI.out, HS.out⟩

theorem anySpot (l : List Spt) (g c : Nat) (px py : Int) (gp : Nat) (w : World) (hd : ∀ s ∈ l, spOk s) (hn : l.length ≤ 1000) (hx : px.natAbs ≤ 2097152) (hy : py.natAbs ≤ 2097152)
    (c0 : w.cell? ⟨gp, 0, none⟩ = some (.int .i64 px)) (c1 : w.cell? ⟨gp, 1, none⟩ = some (.int .i64 py))
    (hl : ∀ (i : Nat) (h : i < l.length), w.cell? ⟨g, i * 3, none⟩ = some (.int .i64 l[i].1) ∧ w.cell? ⟨g, i * 3 + 1, none⟩ = some (.int .i64 l[i].2.1) ∧ w.cell? ⟨g, i * 3 + 2, none⟩ = some (.int .i64 l[i].2.2)) :
    Calls Try.prog 63 #[.slice (some ⟨g, 0, none⟩) l.length c, .func (Fn.func 64) #[] #[.pointer (some ⟨gp, 0, none⟩)]] w
      fun e w' => e = .returned (.bool (l.any fun s => inB s px py)) ∧ Since w w' := by
  have HL := Lib.hid hl
  have HD := Lib.hid hd
  clear hl hd
  go_enter Try.func63, Try.ntmps63
  go_wp2_with fail
  refine (idxSpot l g c px py gp _ HD.out hn hx hy c0 c1 HL.out).mono ?_
  rintro e w' ⟨rfl, hs⟩
  have HS := Lib.hid hs
  clear hs
  go_wp2
  go_ret
  exact ⟨ret_bool (idxI_ge _ l 0), HS.out⟩

end Go.Proofs.Ytcckekdfeeghaaa
