/-
  Walks of cuts: that a line with one part in a box has it. Conditions: what clip.Line returns.
-/
import Derived.Test.YtcckekdfeeghaaaClipL
import Derived.Test.YtcckekdfeeghaaaClipM
namespace Go.Proofs.Ytcckekdfeeghaaa
set_option linter.unusedSimpArgs false
set_option linter.unusedVariables false
open Go.RowKit Go.BigFrame
attribute [local go_sem ↓] eqPt neqPt

theorem pts_three {w : World} {g : Nat} {a b c d e f : Int} (h : Blk w g 23 #[.int .i64 a, .int .i64 b, .int .i64 c, .int .i64 d, .int .i64 e, .int .i64 f]) : PtsS w (.slice (some ⟨g, 0, none⟩) 3 3) [(a, b), (c, d), (e, f)] :=
  ⟨_, _, rfl, fun i hi => ⟨g, 0, rfl, by
    have : i = 0 ∨ i = 1 ∨ i = 2 := by simp at hi; omega
    rcases this with rfl | rfl | rfl
    · exact ⟨h.cell 0, h.cell 1⟩
    · exact ⟨h.cell 2, h.cell 3⟩
    · exact ⟨h.cell 4, h.cell 5⟩⟩⟩
theorem lis_one {w : World} {g : Nat} {v : Value} {l : List Pt2} (h : Blk w g 32 #[v]) (hp : PtsS w v l) : LisS w (.slice (some ⟨g, 0, none⟩) 1 1) [l] :=
  ⟨_, _, rfl, fun i hi => by
    obtain rfl : i = 0 := by simp at hi; omega
    exact ⟨g, 0, rfl, v, h.cell 0, hp⟩⟩
theorem cut_line : clipLine [(-1, 0), (1, 0), (1, 3)] 0 0 2 2 = [[(0, 0), (1, 0), (1, 2)]] := by decide +kernel
theorem short_one {l : List Pt2} (h : l.length ≤ 1000000000000000) : shortL [l] := ⟨by simp, fun i hi => by
  obtain rfl : i = 0 := by simp at hi; omega
  exact h⟩

set_option maxHeartbeats 1000000 in
theorem cutsK_any (hLine : LineSpec) (w : World) : Calls Try.prog 19 #[] w fun e w' => e = .returned (.bool true) ∧ Since w w' := by
  go_enter Try.func19, Try.ntmps19
  go_wp2_with fail
  refine (ptK_any _ _ _).mono ?_
  rintro e w1 ⟨rfl, hs1⟩
  go_wp2_with fail
  refine (ptK_any _ _ _).mono ?_
  rintro e w2 ⟨rfl, hs2⟩
  go_wp2_with fail
  refine (ptK_any _ _ _).mono ?_
  rintro e w3 ⟨rfl, hs3⟩
  have HS3 := Lib.hid ((hs1.trans hs2).trans hs3)
  clear hs1 hs2 hs3
  go_wp2_with fail
  refine (ptK_any _ _ _).mono ?_
  rintro e w4 ⟨rfl, hs4⟩
  have HP := Lib.hid (pts_three (hs4.blk (Blk.new w3 23 #[.int .i64 (-1), .int .i64 0, .int .i64 1, .int .i64 0, .int .i64 1, .int .i64 3])))
  have HS4 := Lib.hid ((HS3.out.alloc _).trans hs4)
  clear hs4 HS3
  go_wp2_with fail
  refine (hLine _ [(-1, 0), (1, 0), (1, 3)] 0 0 2 2 _ (show 3 ≤ 1000000000000000 by decide) HP.out).mono ?_
  rintro e w5 ⟨v, rfl, hl, hs5⟩
  rw [cut_line] at hl
  have HL5 := Lib.hid hl
  have HS5 := Lib.hid (HS4.out.trans hs5)
  obtain ⟨av, cv, rfl⟩ : ∃ av cv, v = .slice av 1 cv := by obtain ⟨av, cv, hv, -⟩ := hl; exact ⟨av, cv, hv⟩
  clear hl hs5 HS4 HP
  go_wp2_with fail
  refine (ptK_any _ _ _).mono ?_
  rintro e w6 ⟨rfl, hs1⟩
  go_wp2_with fail
  refine (ptK_any _ _ _).mono ?_
  rintro e w7 ⟨rfl, hs2⟩
  go_wp2_with fail
  refine (ptK_any _ _ _).mono ?_
  rintro e w8 ⟨rfl, hs3⟩
  have hs := (hs1.trans hs2).trans hs3
  have HL8 := Lib.hid ((HL5.out.since hs))
  have HS8 := Lib.hid (HS5.out.trans hs)
  clear hs hs1 hs2 hs3 HS5 HL5
  go_wp2_with fail
  have hA := (Since.rfl_ w8).alloc (.cells #[.int .i64 0, .int .i64 0, .int .i64 1, .int .i64 0, .int .i64 1, .int .i64 2] 23)
  have hA2 := hA.alloc (.cells #[.slice (some ⟨w8.heap.size, 0, none⟩) 3 3] 32)
  refine (lists_any _ _ _ _ _ (short_one (l := [(0, 0), (1, 0), (1, 2)]) (show 3 ≤ 1000000000000000 by decide)) (short_one (l := [(0, 0), (1, 0), (1, 2)]) (show 3 ≤ 1000000000000000 by decide)) (HL8.out.since hA2) (lis_one (Blk.new' (by simp)) (pts_three ((Blk.new w8 _ _).alloc _)))).mono ?_
  rintro e w9 ⟨rfl, hs⟩
  have HS9 := Lib.hid ((HS8.out.trans hA2).trans hs)
  clear hA hA2 hs
  go_wp2
  go_ret
  exact ⟨ret_bool (by decide), HS9.out⟩

set_option maxHeartbeats 1000000 in
theorem cutsL_any (hLine : LineSpec) (w : World) : Calls Try.prog 31 #[] w fun e w' => e = .returned (.bool true) ∧ Since w w' := by
  go_enter Try.func31, Try.ntmps31
  go_wp2_with fail
  refine (ptL_any _ _ _).mono ?_
  rintro e w1 ⟨rfl, hs1⟩
  go_wp2_with fail
  refine (ptL_any _ _ _).mono ?_
  rintro e w2 ⟨rfl, hs2⟩
  go_wp2_with fail
  refine (ptL_any _ _ _).mono ?_
  rintro e w3 ⟨rfl, hs3⟩
  have HS3 := Lib.hid ((hs1.trans hs2).trans hs3)
  clear hs1 hs2 hs3
  go_wp2_with fail
  refine (ptL_any _ _ _).mono ?_
  rintro e w4 ⟨rfl, hs4⟩
  have HP := Lib.hid (pts_three (hs4.blk (Blk.new w3 23 #[.int .i64 (-1), .int .i64 0, .int .i64 1, .int .i64 0, .int .i64 1, .int .i64 3])))
  have HS4 := Lib.hid ((HS3.out.alloc _).trans hs4)
  clear hs4 HS3
  go_wp2_with fail
  refine (hLine _ [(-1, 0), (1, 0), (1, 3)] 0 0 2 2 _ (show 3 ≤ 1000000000000000 by decide) HP.out).mono ?_
  rintro e w5 ⟨v, rfl, hl, hs5⟩
  rw [cut_line] at hl
  have HL5 := Lib.hid hl
  have HS5 := Lib.hid (HS4.out.trans hs5)
  obtain ⟨av, cv, rfl⟩ : ∃ av cv, v = .slice av 1 cv := by obtain ⟨av, cv, hv, -⟩ := hl; exact ⟨av, cv, hv⟩
  clear hl hs5 HS4 HP
  go_wp2_with fail
  refine (ptL_any _ _ _).mono ?_
  rintro e w6 ⟨rfl, hs1⟩
  go_wp2_with fail
  refine (ptL_any _ _ _).mono ?_
  rintro e w7 ⟨rfl, hs2⟩
  go_wp2_with fail
  refine (ptL_any _ _ _).mono ?_
  rintro e w8 ⟨rfl, hs3⟩
  have hs := (hs1.trans hs2).trans hs3
  have HL8 := Lib.hid ((HL5.out.since hs))
  have HS8 := Lib.hid (HS5.out.trans hs)
  clear hs hs1 hs2 hs3 HS5 HL5
  go_wp2_with fail
  have hA := (Since.rfl_ w8).alloc (.cells #[.int .i64 0, .int .i64 0, .int .i64 1, .int .i64 0, .int .i64 1, .int .i64 2] 23)
  have hA2 := hA.alloc (.cells #[.slice (some ⟨w8.heap.size, 0, none⟩) 3 3] 32)
  refine (listsL_any _ _ _ _ _ (short_one (l := [(0, 0), (1, 0), (1, 2)]) (show 3 ≤ 1000000000000000 by decide)) (short_one (l := [(0, 0), (1, 0), (1, 2)]) (show 3 ≤ 1000000000000000 by decide)) (HL8.out.since hA2) (lis_one (Blk.new' (by simp)) (pts_three ((Blk.new w8 _ _).alloc _)))).mono ?_
  rintro e w9 ⟨rfl, hs⟩
  have HS9 := Lib.hid ((HS8.out.trans hA2).trans hs)
  clear hA hA2 hs
  go_wp2
  go_ret
  exact ⟨ret_bool (by decide), HS9.out⟩
end Go.Proofs.Ytcckekdfeeghaaa
