/-
  Walks of terrmake.line, Line. Conditions: bounds of the numbers.
-/
import Derived.Test.YtcckekdfeeghaaaClipL
import Derived.Test.YtcckekdfeeghaaaClipM
import Derived.Test.YtcckekdfeeghaaaFacts
namespace Go.Proofs.Ytcckekdfeeghaaa
set_option linter.unusedSimpArgs false
set_option linter.unusedVariables false
open Go.RowKit Go.BigFrame
attribute [local go_sem ↓] eqPt neqPt

/-- The next point of a line: one beside the last one if it is the same. -/
def mNext (out : List Pt2) (p : Pt2) : Pt2 := if p = lastP out then (p.1 + 1, p.2) else p
def mlineGo : Nat → List Int → List Pt2 → List Pt2
  | 0, _, out => out
  | k + 1, l, out => mlineGo k (ptOf l).2 (out ++ [mNext out (ptOf l).1])
def mline (l : List Int) : List Pt2 := mlineGo (1 + l.length % 7) (ptOf l).2 [(ptOf l).1]

theorem sizeSet (w : World) (p : Addr) (u : Value) : (w.setCell p u).heap.size = w.heap.size := by simp [World.setCell]
theorem own_last' {w : World} {b : Nat} {v : Value} {l : List Pt2} {k : Nat} (h : w.ownsRow b 23 2 v l.length (l.flatMap ptV)) (hk : l.length = k + 1) :
    ∃ g c, v = .slice (some ⟨g, 0, none⟩) l.length c ∧ b ≤ g ∧ w.cell? ⟨g, k * 2, none⟩ = some (.int .i64 (lastP l).1) ∧ w.cell? ⟨g, k * 2 + 1, none⟩ = some (.int .i64 (lastP l).2) := by
  have h0 := h
  obtain ⟨-, ⟨rfl, hn⟩ | ⟨g, cap, cur, rfl, hb, -⟩⟩ := h
  · omega
  · have hlt : k < l.length := by omega
    have hp : lastP l = l[k] := by unfold lastP pAt; rw [hk, Nat.add_sub_cancel]; simp [List.getD, hlt]
    refine ⟨g, cap, rfl, hb, ?_, ?_⟩
    · have := row_at h0 ptV_len k hlt 0 (.int .i64 l[k].1) rfl
      rw [hp]; simpa using this
    · rw [hp]; exact row_at h0 ptV_len k hlt 1 (.int .i64 l[k].2) rfl
theorem own_only {w w' : World} {g b : Nat} {e : TypeId} {k n : Nat} {v : Value} {xs : List Value} (h : w.ownsRow b e k v n xs) (ho : Only g w w') (hg : g < b) : w'.ownsRow b e k v n xs :=
  h.kept ho (.inr (Ne.symm (own_ne h hg)))

set_option maxRecDepth 100000 in
set_option maxHeartbeats 4000000 in
theorem line_any (gs B : Nat) (l : List Int) (N : Nat) (w : World) (h1 : 1 ≤ N) (h2 : N ≤ 1000) (h : Strm w gs B l) :
    Calls Try.prog 69 #[.pointer (some ⟨gs, 0, none⟩), .int .i64 N] w fun e w' => ∃ v, e = .returned v ∧ PtsS w' v (mlineGo (N - 1) (ptOf l).2 [(ptOf l).1]) ∧ Only gs w w' := by
  have bp := ptOf_bd l
  have hgs : gs < w.heap.size := by obtain ⟨v, hb, -⟩ := h; exact hb.lt
  have H := Lib.hid h
  clear h
  go_enter Try.func69, Try.ntmps69
  go_wp2_with fail
  refine (Sp_any gs B l _ H.out).mono ?_
  rintro e w1 ⟨rfl, hs, ho⟩
  have hsz := ho.size
  have HR0 := Lib.hid ((Blk.new w1 23 #[.int .i64 (ptOf l).1.1, .int .i64 (ptOf l).1.2]).row (size := 2) (n := 1) (cap := 1) (xs := [(ptOf l).1].flatMap ptV) hsz (Nat.le_refl _) (by unfold maxLen; omega) rfl rfl)
  have HS0 := Lib.hid (hs.since ((Since.rfl_ w1).alloc (.cells #[.int .i64 (ptOf l).1.1, .int .i64 (ptOf l).1.2] 23)))
  have HO0 := Lib.hid (ho.alloc (.cells #[.int .i64 (ptOf l).1.1, .int .i64 (ptOf l).1.2] 23))
  clear hs ho
  go_wp2_with fail
  go_loopw [5] (fun v wr => ∃ (out : List Pt2) (l' : List Int), 1 ≤ out.length ∧ out.length ≤ N ∧ Hid (mlineGo (N - out.length) l' out = mlineGo (N - 1) (ptOf l).2 [(ptOf l).1]) ∧ Hid (Strm wr gs B l') ∧ Hid (wr.ownsRow w.heap.size 23 2 v out.length (out.flatMap ptV)) ∧ Hid (Only gs w wr)) (fun v _ => N - (match v with | .slice _ n _ => n | _ => 0))
  case atStart => exact ⟨[(ptOf l).1], (ptOf l).2, by simp, by simpa using h1, (by show _ = _; rfl), HS0, HR0, HO0⟩
  case round =>
    clear HS0 HR0 HO0 H
    obtain ⟨out, l', ho1, ho2, HM, HS, HR, HO⟩ := hrel
    obtain ⟨m, hm⟩ : ∃ m, out.length = m + 1 := ⟨out.length - 1, by omega⟩
    obtain ⟨g, c, rfl, hgb, z0, z1⟩ := own_last' HR.out hm
    have zl : g < wr.heap.size := World.block_lt_of_cell? wr _ z0
    rcases Nat.lt_or_ge out.length N with hlt | hge
    · have hz : decide ((out.length : Int) < (N : Int)) = true := by rw [decide_eq_true_eq]; omega
      have hng : g ≠ gs := by omega
      have hng2 : ¬ gs = g := by omega
      have mw : IntKind.i64.wrap ((out.length : Int) - 1) = (m : Int) := by
        rw [i64w, show (out.length : Int) - 1 = m by omega]
        exact wrap_id (by omega)
      have i1 : (0 : Int) ≤ (m : Int) := by omega
      have i2 : (m : Int) < (out.length : Int) := by omega
      have i3 : m < out.length := by omega
      have HM1 := Lib.hid hm
      have gn1 : ¬ wr.heap.size = gs := by have := HS.out; obtain ⟨v, hb, -⟩ := this; have := hb.lt; omega
      have gn2 : ¬ wr.heap.size + 1 = gs := by have := HS.out; obtain ⟨v, hb, -⟩ := this; have := hb.lt; omega
      have gn3 : ¬ wr.heap.size = g := by omega
      have gn4 : ¬ wr.heap.size + 1 = g := by omega
      clear hm
      have gsl : gs < wr.heap.size := by obtain ⟨v, hb, -⟩ := HS.out; exact hb.lt
      go_upto_region 3 with fail
      go_cut [6, 7] from 11 to 33 (fun v6 v7 w' => ∃ g6 g7 : Nat, v6 = .pointer (some ⟨g6, 0, none⟩) ∧ v7 = .pointer (some ⟨g7, 0, none⟩) ∧ Blk w' g6 23 #[.int .i64 (ptOf l').1.1, .int .i64 (ptOf l').1.2] ∧ Blk w' g7 23 #[.int .i64 (lastP out).1, .int .i64 (lastP out).2] ∧ g6 ≠ g7 ∧ wr.heap.size ≤ g6 ∧ wr.heap.size ≤ g7 ∧ Strm w' gs B (ptOf l').2 ∧ Only gs wr w')
      case first =>
        as_aux_lemma =>
        go_region_held3 (fun w' => w'.cell? ⟨g, m * 2, none⟩ = some (.int .i64 (lastP out).1) ∧ w'.cell? ⟨g, m * 2 + 1, none⟩ = some (.int .i64 (lastP out).2)) ((simp (maxDischargeDepth := 9) [*, World.cell?_alloc_some, cSetO, cellDrew])) (first
          | (go_at_call 76; (with_reducible refine (Sp_any gs B l' _ (HS.out.since (by first | exact (Since.rfl_ _).drew | exact ((Since.rfl_ _).alloc _).drew | exact (((Since.rfl_ _).alloc _).alloc _).drew))).mono ?_); rintro e w2 ⟨rfl, hs, ho⟩; have kk := fun (p : Addr) (hp : p.block < _) (hn : ¬ p.block = gs) => World.cell?_of_block (ho.block p.block hp (fun e => hn (by injection e))); have kf := fun (p : Addr) (hp : p.block < _) (hn : ¬ p.block = gs) => World.frozen?_of_block (ho.block p.block hp (fun e => hn (by injection e))); have kq := fun (b : Nat) (hb : b < _) => Nat.lt_of_lt_of_le hb ho.size; have k0 := keepOC ho; have kb := fun (k : Nat) (t : TypeId) (cs : Array Value) (hk : Blk _ k t cs) (hne : k ≠ gs) => ho.blk hk hne; have kz := ho.size; have HS2 := Lib.hid hs; have HO2 := Lib.hid (Only.trans (Since.only (a := wr) (by first | exact (Since.rfl_ _).drew | exact ((Since.rfl_ _).alloc _).drew | exact (((Since.rfl_ _).alloc _).alloc _).drew) gs) ho); clear hs ho))
        all_goals
          have kz2 := kz
          simp at kz2
          go_wp2_with fail
          go_meet
          refine ⟨_, _, rfl, rfl, ?_, ?_, ?_, ?_, ?_, ?_, ?_⟩
          all_goals
            first
              | omega
              | (with_reducible (repeat (first | exact HS2.out | refine Strm.far ?_ (by dsimp only; omega) _ | refine Strm.since ?_ ((Since.rfl_ _).alloc _))); done)
              | (with_reducible (repeat (first | exact HO2.out | refine Only.setCell ?_ (.inr (by dsimp only; omega)) _ | refine Only.alloc ?_ _)); done)
              | with_reducible exact (Blk.new' rfl).alloc _
              | ((with_reducible refine Blk.new' ?_); simp [sizeSet]; done)
              | ((with_reducible refine (Blk.pair (kb _ _ _ (Blk.new' ?_).drew ?_)).alloc _) <;> first | rfl | (simp; done) | (dsimp only; omega) | omega)
              | ((with_reducible refine ((Blk.pair (kb _ _ _ ((Blk.new' ?_).alloc _).drew ?_)).far ?_ _).far ?_ _) <;> first | rfl | (simp; done) | (dsimp only; omega) | omega)
              | ((with_reducible refine ((Blk.pair (kb _ _ _ (Blk.new' ?_).drew ?_)).far ?_ _).far ?_ _) <;> first | rfl | (simp; done) | (dsimp only; omega) | omega)
              | ((with_reducible refine Blk.pair (((kb _ _ _ ((Blk.new' ?_).alloc _).drew ?_).far ?_ _).far ?_ _)) <;> first | rfl | (simp; done) | (dsimp only; omega) | omega)
              | ((with_reducible refine Blk.pair (((kb _ _ _ (Blk.new' ?_).drew ?_).far ?_ _).far ?_ _)) <;> first | rfl | (simp; done) | (dsimp only; omega) | omega)
      case rest =>
        clear gn1 gn2 gn3 gn4 z0 z1 hng hng2 mw i1 i2 i3
        obtain ⟨g6, g7, rfl, rfl, h6, h7, hne, l6, l7, hst, hon⟩ := hcut
        obtain ⟨w3, rfl⟩ : ∃ w3, w3 = wc := ⟨_, rfl⟩
        have bq := ptOf_bd l'
        have HR3 := Lib.hid (own_only HR.out hon hgs)
        have HS3 := Lib.hid hst
        have HO3 := Lib.hid (HO.out.trans hon)
        have hw := HO.out.size
        have p_0 := h6.cell 0
        have p_1 := h6.cell 1
        have p_f0 := h6.frozen 0
        have p_f1 := h6.frozen 1
        simp only [List.getElem?_toArray, List.getElem?_cons_zero, List.getElem?_cons_succ] at p_0 p_1
        have q_0 := h7.cell 0
        have q_1 := h7.cell 1
        have q_f0 := h7.frozen 0
        have q_f1 := h7.frozen 1
        simp only [List.getElem?_toArray, List.getElem?_cons_zero, List.getElem?_cons_succ] at q_0 q_1
        have H6 := Lib.hid h6
        have k6 := h6.lt
        clear h6 h7 hst hon HS HR HO
        have HQ := Lib.hid (show mNext out (ptOf l').1 = if (((ptOf l').1.1 == (lastP out).1 && (ptOf l').1.2 == (lastP out).2)) = true then ((ptOf l').1.1 + 1, (ptOf l').1.2) else (ptOf l').1 from by
          unfold mNext
          by_cases h : (ptOf l').1 = lastP out
          · rw [if_pos h, if_pos (by rw [h]; simp)]
          · rw [if_neg h, if_neg (by
              intro k
              rw [Bool.and_eq_true, beq_iff_eq, beq_iff_eq] at k
              exact h (Prod.ext k.1 k.2))])
        obtain ⟨nx, HNX⟩ : ∃ nx : Pt2, Hid (nx = mNext out (ptOf l').1) := ⟨_, rfl⟩
        go_upto_if 25 with fail
        go_cut [] from 11 to 33 (fun w' => Blk w' g6 23 #[.int .i64 nx.1, .int .i64 nx.2] ∧ Strm w' gs B (ptOf l').2 ∧ w'.ownsRow w.heap.size 23 2 (.slice (some ⟨g, 0, none⟩) out.length c) out.length (out.flatMap ptV) ∧ Only gs w w')
        case first =>
          cases hx : ((ptOf l').1.1 == (lastP out).1) <;> cases hy : ((ptOf l').1.2 == (lastP out).2)
          case true.true =>
            have E : Hid (nx = ((ptOf l').1.1 + 1, (ptOf l').1.2)) := by show _ = _; rw [HNX.out, HQ.out, hx, hy]; rfl
            go_wp2_with fail
            go_meet
            rw [E.out]
            exact ⟨H6.out.set_ 0 _, HS3.out.far (by dsimp only; omega) _, own_far HR3.out (fun h => by simp [Value.ownBlock] at h; omega) _, HO3.out.setCell (.inr (by dsimp only; omega)) _⟩
          all_goals
            have E : Hid (nx = (ptOf l').1) := by show _ = _; rw [HNX.out, HQ.out, hx, hy]; rfl
            go_wp2_with fail
            go_meet
            rw [E.out]
            exact ⟨H6.out, HS3.out, HR3.out, HO3.out⟩
        case rest =>
          clear H6 HS3 HR3 HO3 p_0 p_1 p_f0 p_f1 q_0 q_1 q_f0 q_f1
          obtain ⟨h6, hst, hr, hon⟩ := hcut
          obtain ⟨w4, rfl⟩ : ∃ w4, w4 = wc := ⟨_, rfl⟩
          have p0 : w4.cell? ⟨g6, 0, none⟩ = some (.int .i64 nx.1) := h6.cell 0
          have p1 : w4.cell? ⟨g6, 1, none⟩ = some (.int .i64 nx.2) := h6.cell 1
          have hw4 := hon.size
          have HR4 := Lib.hid hr
          have HS4 := Lib.hid hst
          have HO4 := Lib.hid hon
          have HM2 : Hid (mlineGo (N - (out.length + 1)) (ptOf l').2 (out ++ [nx]) = mlineGo (N - 1) (ptOf l).2 [(ptOf l).1]) := by
            show _ = _
            rw [← HM.out, show N - out.length = (N - (out.length + 1)) + 1 by omega, mlineGo, HNX.out]
          clear h6 hst hr hon HM
          obtain ⟨i0, hi, hz0, hz1, hz2⟩ := info_parts infoPt
          have HI := Lib.hid hi
          have HZ := Lib.hid (And.intro hz0 (And.intro hz1 hz2))
          clear hi hz0 hz1 hz2
          obtain ⟨B2, HB2⟩ : ∃ B2, Hid (B2 = w.heap.size) := ⟨_, rfl⟩
          go_wp2_with (at_builtin; refine wpList_append_own _ rfl _ _ 32 rfl w.heap.size 23 i0 _ 2 16 Try.underlying32 HI.out HZ.out.1 HZ.out.2.1 HZ.out.2.2 rfl (by decide) _ _ _ rfl (own_since ((Since.rfl_ w4).alloc _) HR4.out) _ _ _ [.int .i64 nx.1, .int .i64 nx.2] rfl rfl (cell2_new _ _ _ _) (one2 _ _ _ _) (by unfold maxLen; omega) (by omega) (by simp only [World.size_alloc]; omega) ?_)
          intro v' w' hown hgrow _
          obtain ⟨ao', co', rfl⟩ := own_slice hown
          have hA := (Since.rfl_ w4).alloc (.cells #[.int .i64 nx.1, .int .i64 nx.2] 23)
          have hoA := own_since hA HR4.out
          have HS5 : Hid (Strm w' gs B (ptOf l').2) := by
            obtain ⟨v, hb, hi, hB⟩ := HS4.out.since hA
            exact ⟨v, hb.grown hgrow (own_ne hoA hgs), hi.keep (fun q x hq hc => by
              have hl := World.block_lt_of_cell? _ q hc
              rw [World.cell?_of_block (hgrow.block q.block hl (own_ne hoA (by omega)))]; exact hc), hB⟩
          have HO5 : Hid (Only gs w w') := by
            refine ⟨hgrow.os.trans (HO4.out.alloc _).os, hgrow.tape.trans (HO4.out.alloc _).tape, hgrow.output.trans (HO4.out.alloc _).output, Nat.le_trans (HO4.out.alloc _).size hgrow.size, fun i hi hne => ?_⟩
            have h1 := (HO4.out.alloc (.cells #[.int .i64 nx.1, .int .i64 nx.2] 23)).block i hi hne
            refine (hgrow.block i (Nat.lt_of_lt_of_le hi (HO4.out.alloc _).size) (own_ne hoA hi)).trans h1
          have HR5 := Lib.hid (own_snoc (f := ptV) (x := nx) hown)
          clear hA hoA hown hgrow
          go_wp2_with fail
          go_roundw
          case rel => exact ⟨out ++ [nx], (ptOf l').2, by simp, by simp; omega, by simpa using HM2, HS5, by simpa using HR5, HO5⟩
          case measure => simp; omega
    · obtain rfl : out.length = N := by omega
      have hE : mlineGo (out.length - out.length) l' out = out := by rw [Nat.sub_self, mlineGo]
      have hz : decide ((out.length : Int) < (out.length : Int)) = false := by rw [decide_eq_false_iff_not]; omega
      have HM2 : Hid (out = mlineGo (out.length - 1) (ptOf l).2 [(ptOf l).1]) := by
        show _ = _
        have := HM.out
        rwa [hE] at this
      clear hE HM
      go_wp2
      go_ret
      exact ⟨_, rfl, by rw [← HM2.out]; exact (own_pts HR.out (Nat.le_refl _)).pts, HO.out⟩

theorem line_int (gs B : Nat) (l : List Int) (n : Int) (N : Nat) (w : World) (hn : n = N) (h1 : 1 ≤ N) (h2 : N ≤ 1000) (h : Strm w gs B l) :
    Calls Try.prog 69 #[.pointer (some ⟨gs, 0, none⟩), .int .i64 n] w fun e w' => ∃ v, e = .returned v ∧ PtsS w' v (mlineGo (N - 1) (ptOf l).2 [(ptOf l).1]) ∧ Only gs w w' := by
  subst hn
  exact line_any gs B l N w h1 h2 h
theorem MLine_any (v : Value) (l : List Int) (w : World) (hi : IntsB w v l w.heap.size) :
    Calls Try.prog 18 #[v] w fun e w' => ∃ v', e = .returned v' ∧ PtsS w' v' (mline l) ∧ Since w w' := by
  have HI := Lib.hid hi
  obtain ⟨a, c, rfl, hc, hm, -⟩ := hi
  clear hm
  have hlt : l.length % 7 < 7 := Nat.mod_lt _ (by decide)
  have HL : Hid (mlineGo (2 + l.length % 7 - 1) (ptOf l).2 [(ptOf l).1] = mline l) := by
    show _ = _
    unfold mline; rw [show 2 + l.length % 7 - 1 = 1 + l.length % 7 by omega]
  have m0 : 0 ≤ (l.length : Int) % 7 := Int.emod_nonneg _ (by decide)
  have m1 : (l.length : Int) % 7 < 7 := Int.emod_lt_of_pos _ (by decide)
  go_enter Try.func18, Try.ntmps18
  go_wp2_with fail
  refine (Below_any _ 7 _ (by decide) (by decide)).mono ?_
  rintro e w1 ⟨rfl, rfl⟩
  go_wp2_with fail
  refine (line_int w.heap.size w.heap.size l _ (2 + l.length % 7) _ (by omega) (by omega) (by omega) (Strm.new HI.out rfl (Nat.le_refl _))).mono ?_
  rintro e w2 ⟨v, rfl, hv, ho⟩
  rw [HL.out] at hv
  have HV := Lib.hid hv
  have HS := Lib.hid (ho.since ((Since.rfl_ w).alloc _) (Nat.le_refl _))
  obtain ⟨av, cv, rfl⟩ : ∃ av cv, v = .slice av (mline l).length cv := by obtain ⟨av, cv, h, -⟩ := hv; exact ⟨av, cv, h⟩
  clear hv ho m0 m1
  go_wp2
  go_ret
  exact ⟨_, rfl, HV.out, HS.out⟩
end Go.Proofs.Ytcckekdfeeghaaa
