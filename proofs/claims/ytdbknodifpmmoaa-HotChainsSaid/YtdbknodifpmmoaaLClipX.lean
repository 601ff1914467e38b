/-
  Walks of slices.Grow from nil, Concat over lists of points, Index and Contains of a point. Conditions: bounds of the numbers; no list is empty.
-/
import Derived.Test.YtdbknodifpmmoaaK02
import Derived.Lib.AppendZeros
namespace Go.Proofs.Ytdbknodifpmmoaa
set_option linter.unusedSimpArgs false
set_option linter.unusedVariables false
open Go.RowKit Go.BigFrame
attribute [local go_sem ↓] eqPt neqPt

theorem zeroCells_size (z : Array Value) (n : Nat) : (Builtin.zeroCells z n).size = n * z.size := by simp [Builtin.zeroCells]
theorem flat_succ {ls : List (List Pt2)} {k : Nat} (h : k < ls.length) : (ls.take (k + 1)).flatten = (ls.take k).flatten ++ rAt ls k := by
  rw [List.take_succ_eq_append_getElem h, List.flatten_append]
  have : rAt ls k = ls[k] := by unfold rAt; simp [List.getD, h]
  rw [this]; simp
/-- The first k lists in one, and how long that is. -/
def flatK (ls : List (List Pt2)) (k : Nat) : List Pt2 := (ls.take k).flatten
def flen (ls : List (List Pt2)) (k : Nat) : Nat := (flatK ls k).length
theorem flatK_succ {ls : List (List Pt2)} {k : Nat} (h : k < ls.length) : flatK ls (k + 1) = flatK ls k ++ rAt ls k := flat_succ h
theorem flen_succ {ls : List (List Pt2)} {k : Nat} (h : k < ls.length) : flen ls (k + 1) = flen ls k + (rAt ls k).length := by unfold flen; rw [flatK_succ h, List.length_append]
theorem flatK_all (ls : List (List Pt2)) : flatK ls ls.length = ls.flatten := by unfold flatK; rw [List.take_length]
theorem flen_le {ls : List (List Pt2)} (k : Nat) : flen ls k ≤ ls.flatten.length := by
  unfold flen flatK
  have h : ls.flatten = (ls.take k).flatten ++ (ls.drop k).flatten := by rw [← List.flatten_append, List.take_append_drop]
  rw [h, List.length_append]; omega
theorem pts_cells {w : World} {g o : Nat} {l : List Pt2} (h : ∀ i, i < l.length → w.cell? ⟨g, o + i * 2, none⟩ = some (.int .i64 (pAt l i).1) ∧ w.cell? ⟨g, o + i * 2 + 1, none⟩ = some (.int .i64 (pAt l i).2)) :
    ∀ j u, (l.flatMap ptV)[j]? = some u → w.cell? ((⟨g, o, none⟩ : Addr).add j) = some u := by
  intro j u hu
  have hlen : (l.flatMap ptV).length = l.length * 2 := by
    rw [List.length_flatMap]
    have : l.map (fun x => (ptV x).length) = List.replicate l.length 2 := by
      rw [List.eq_replicate_iff]; exact ⟨by simp, fun b hb => by obtain ⟨x, -, rfl⟩ := List.mem_map.1 hb; rfl⟩
    rw [this]; simp
  have hj : j < l.length * 2 := by
    have := (List.getElem?_eq_some_iff.1 hu).1
    omega
  have hadd : (⟨g, o, none⟩ : Addr).add j = ⟨g, o + j, none⟩ := by unfold Addr.add; split <;> simp_all
  rw [hadd]
  obtain ⟨i, hi⟩ : ∃ i, j = i * 2 ∨ j = i * 2 + 1 := ⟨j / 2, by omega⟩
  have hil : i < l.length := by omega
  have hp : pAt l i = l[i] := by unfold pAt; simp [List.getD, hil]
  rcases hi with rfl | rfl
  · have h1 := flat_at ptV_len l i 0 hil (by decide)
    rw [Nat.add_zero] at h1
    rw [hu] at h1
    rw [(h i hil).1, hp]
    simpa [ptV] using h1.symm
  · have h1 := flat_at ptV_len l i 1 hil (by decide)
    rw [hu] at h1
    rw [← Nat.add_assoc, (h i hil).2, hp]
    simpa [ptV] using h1.symm
theorem flatV_len (l : List Pt2) : (l.flatMap ptV).length = l.length * 2 := by
  rw [List.length_flatMap]
  have : l.map (fun x => (ptV x).length) = List.replicate l.length 2 := by
    rw [List.eq_replicate_iff]; exact ⟨by simp, fun b hb => by obtain ⟨x, -, rfl⟩ := List.mem_map.1 hb; rfl⟩
  rw [this]; simp
theorem flatV_one (l : List Pt2) : ∀ u ∈ l.flatMap ptV, u.oneCell' = true := by
  intro u hu
  obtain ⟨p, -, hp⟩ := List.mem_flatMap.1 hu
  exact one2 _ _ _ _ u hp

set_option maxRecDepth 100000 in
set_option maxHeartbeats 2000000 in
theorem IndexP_any (v : Value) (l : List Pt2) (px py : Int) (w : World) (hl : l.length ≤ 1000000000000000) (hv : PtsS w v l) (hm : (px, py) ∈ l) :
    Calls Try.prog 40 #[v, .agg #[.int .i64 px, .int .i64 py]] w fun e w' => ∃ i : Nat, e = .returned (.int .i64 i) ∧ Since w w' := by
  obtain ⟨a, c, rfl, hv⟩ := hv
  have HV := Lib.hid hv
  have HM := Lib.hid hm
  clear hv hm
  go_enter Try.func40, Try.ntmps40
  go_wp2_with fail
  go_loopw [8] (fun v wr => ∃ k : Nat, k ≤ l.length ∧ v = .int .i64 k ∧ Hid (∀ i, i < k → pAt l i ≠ (px, py)) ∧ Blk wr w.heap.size 26 #[.int .i64 px, .int .i64 py] ∧ Since w wr) (fun v _ => l.length - (intOf v).toNat)
  case atStart => exact ⟨0, Nat.zero_le _, rfl, fun i hi => absurd hi (Nat.not_lt_zero _), Blk.new _ _ _, (Since.rfl_ w).alloc _⟩
  case round =>
    obtain ⟨k, hk, rfl, HG, hb, hs⟩ := hrel
    rcases Nat.lt_or_ge k l.length with hlt | hge
    · obtain ⟨g, o, ha, e0, e1⟩ := HV.out k hlt
      subst ha
      replace e0 := keepC hs _ _ e0
      replace e1 := keepC hs _ _ e1
      have d0 : wr.cell? ⟨w.heap.size, 0, none⟩ = some (.int .i64 px) := hb.cell 0
      have d1 : wr.cell? ⟨w.heap.size, 1, none⟩ = some (.int .i64 py) := hb.cell 1
      have HS := Lib.hid hs
      have HB := Lib.hid hb
      have HL := Lib.hid hlt
      clear hs hb
      cases hx : (px == (pAt l k).1) <;> cases hy : (py == (pAt l k).2)
      all_goals
        go_wp2
        refine region_cls (fun w' => w'.cell? ⟨g, o + k * 2, none⟩ = some (.int .i64 (pAt l k).1) ∧ w'.cell? ⟨g, o + k * 2 + 1, none⟩ = some (.int .i64 (pAt l k).2) ∧ w'.cell? ⟨w.heap.size, 0, none⟩ = some (.int .i64 px) ∧ w'.cell? ⟨w.heap.size, 1, none⟩ = some (.int .i64 py) ∧ Since wr w') (by kernel_rfl) (by kernel_rfl) (by (repeat' refine And.intro ?_ ?_) <;> first | (simp (maxDischargeDepth := 9) [e0, e1, d0, d1,  cSetS, cSetO, cellNew, World.cell?_alloc_some, cellDrew]; done) | (repeat (first | with_reducible assumption | with_reducible exact Since.rfl_ _ | refine Since.setCell ?_ (by (try dsimp only); omega) _ | refine Since.alloc ?_ _ | refine Since.drew ?_))) ?_
        repeat (go_big_quiet_step ((first | (intro hC; have hC := hC.out; (try simp only [hC, Result.andThen]); first | exact ⟨True.intro, rfl⟩ | exact ⟨rfl, rfl⟩ | rfl))))
        refine cls_end ?_
        clear e0 e1 d0 d1
        rintro w3 ⟨-, -, -, -, hs⟩
        have HS2 := Lib.hid (HS.out.trans hs)
        have HB2 := Lib.hid (hs.blk HB.out)
        clear hs
        go_wp2
        first
          | (go_ret; exact ⟨k, rfl, HS2.out⟩)
          | (go_roundw
             case rel => exact ⟨k + 1, by omega, by go_num, (fun i hi => by
               rcases Nat.lt_succ_iff_lt_or_eq.1 hi with h | h
               · exact HG.out i h
               · subst h
                 intro e
                 have ex : px = (pAt l i).1 := by rw [e]
                 have ey : py = (pAt l i).2 := by rw [e]
                 first
                   | (rw [beq_eq_false_iff_ne] at hx; exact hx ex)
                   | (rw [beq_eq_false_iff_ne] at hy; exact hy ey)), HB2.out, HS2.out⟩
             case measure => simp [intOf]; omega)
    · exfalso
      obtain ⟨i, hi, e⟩ := List.getElem_of_mem HM.out
      have := HG.out i (by omega)
      unfold pAt at this
      apply this
      simp [List.getD, hi, e]
theorem ContainsP_any (v : Value) (l : List Pt2) (px py : Int) (w : World) (hl : l.length ≤ 1000000000000000) (hv : PtsS w v l) (hm : (px, py) ∈ l) :
    Calls Try.prog 20 #[v, .agg #[.int .i64 px, .int .i64 py]] w fun e w' => e = .returned (.bool true) ∧ Since w w' := by
  have H := Lib.hid (And.intro hv hm)
  obtain ⟨a, c, rfl, -⟩ := hv
  clear hm
  go_enter Try.func20, Try.ntmps20
  go_wp2_with fail
  refine (IndexP_any _ l px py _ hl (H.out.1.since ((Since.rfl_ w).alloc _)) H.out.2).mono ?_
  rintro e w1 ⟨i, rfl, hs⟩
  have hi : decide ((0 : Int) ≤ (i : Int)) = true := by rw [decide_eq_true_eq]; omega
  have HS := Lib.hid (((Since.rfl_ w).alloc _).trans hs)
  clear hs
  go_wp2
  go_ret
  exact ⟨rfl, HS.out⟩
end Go.Proofs.Ytdbknodifpmmoaa
