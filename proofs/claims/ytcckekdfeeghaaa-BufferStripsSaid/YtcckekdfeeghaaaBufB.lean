/-
  The walk of hull.chain. Conditions: bounds of the numbers.
-/
import Derived.Test.YtcckekdfeeghaaaBufA
import Derived.Test.YtcckekdfeeghaaaClipI
namespace Go.Proofs.Ytcckekdfeeghaaa
set_option linter.unusedSimpArgs false
set_option linter.unusedVariables false
open Go.RowKit Go.BigFrame
attribute [local go_sem ↓] eqPt neqPt

theorem flatP_len (l : List Pt2) : (l.flatMap ptV).length = l.length * 2 := by
  induction l with
  | nil => rfl
  | cons p l ih => rw [List.flatMap_cons, List.length_append, ih, ptV_len, List.length_cons]; omega
theorem own_cut {w : World} {B n m c : Nat} {e : TypeId} {k : Nat} {a : Option Addr} {xs ys zs : List Value} (h : w.ownsRow B e k (.slice a n c) n xs) (hm : m ≤ n) (hx : xs = ys ++ zs) (hy : ys.length = m * k) (hp : 0 < n) : w.ownsRow B e k (.slice a m c) m ys := by
  obtain ⟨hl, ⟨h1, hn⟩ | ⟨g, cap, cur, h1, hb, hg, hc, hmx, hs, ht⟩⟩ := h
  · omega
  · injection h1 with h1 h2 h3
    subst h1 h3
    refine ⟨hy, .inr ⟨g, c, cur, rfl, hb, hg, by omega, hmx, hs, ?_⟩⟩
    have : (cur.toList.take (n * k)).take (m * k) = ys := by rw [ht, hx, ← hy, List.take_left]
    rw [List.take_take, Nat.min_eq_left (Nat.mul_le_mul_right k hm)] at this
    exact this
theorem stk_cells {w : World} {B n c g : Nat} {lo s : List Pt2} {a b : Pt2} (h : w.ownsRow B 23 2 (.slice (some ⟨g, 0, none⟩) n c) n ((lo ++ (b :: a :: s).reverse).flatMap ptV)) {i : Nat} (hi : i = lo.length + s.length) :
    (w.cell? ⟨g, i * 2, none⟩ = some (.int .i64 a.1) ∧ w.cell? ⟨g, i * 2 + 1, none⟩ = some (.int .i64 a.2)) ∧ w.cell? ⟨g, (i + 1) * 2, none⟩ = some (.int .i64 b.1) ∧ w.cell? ⟨g, (i + 1) * 2 + 1, none⟩ = some (.int .i64 b.2) := by
  have e : lo ++ (b :: a :: s).reverse = (lo ++ s.reverse) ++ [a, b] := by simp
  have hl : (lo ++ s.reverse).length = i := by simp [hi]
  rw [e] at h
  have h1 : i < ((lo ++ s.reverse) ++ [a, b]).length := by simp [hi]
  have h2 : i + 1 < ((lo ++ s.reverse) ++ [a, b]).length := by simp [hi]; omega
  have e1 : ((lo ++ s.reverse) ++ [a, b])[i] = a := by rw [List.getElem_append_right (by omega)]; simp [hl]
  have e2 : ((lo ++ s.reverse) ++ [a, b])[i + 1] = b := by rw [List.getElem_append_right (by omega)]; simp [hl]
  refine ⟨⟨?_, ?_⟩, ?_, ?_⟩
  · have := row_at h ptV_len i h1 0 (.int .i64 a.1) (by rw [e1]; rfl)
    simpa using this
  · exact row_at h ptV_len i h1 1 (.int .i64 a.2) (by rw [e1]; rfl)
  · have := row_at h ptV_len (i + 1) h2 0 (.int .i64 b.1) (by rw [e2]; rfl)
    simpa using this
  · exact row_at h ptV_len (i + 1) h2 1 (.int .i64 b.2) (by rw [e2]; rfl)
theorem cmpI_le (x : Int) : decide (cmpI x 0 ≤ 0) = decide (x ≤ 0) := by
  unfold cmpI
  rw [Bool.eq_iff_iff, decide_eq_true_eq, decide_eq_true_eq]
  split <;> (try split) <;> omega
theorem cmpI_lt (x : Int) : decide (cmpI x 0 < 0) = decide (x < 0) := by
  unfold cmpI
  rw [Bool.eq_iff_iff, decide_eq_true_eq, decide_eq_true_eq]
  split <;> (try split) <;> omega
theorem turn_crs {a b c : Pt2} (ha : okP a.1 a.2 = true) (hb : okP b.1 b.2 = true) (hc : okP c.1 c.2 = true) : turnV a.1 a.2 b.1 b.2 c.1 c.2 = cmpI (crs a b c) 0 := by
  unfold turnV crs
  rw [(clamp_id ha).1, (clamp_id ha).2, (clamp_id hb).1, (clamp_id hb).2, (clamp_id hc).1, (clamp_id hc).2]
theorem popC_ok {p : Pt2} : ∀ {s : List Pt2}, (∀ q ∈ s, okP q.1 q.2 = true) → ∀ q ∈ popC p s, okP q.1 q.2 = true
  | [], h => h
  | [_], h => h
  | b :: a :: s, h => by
    rw [popC]
    split
    · exact popC_ok fun q hq => h q (List.mem_cons_of_mem _ hq)
    · exact h
theorem PtsB.below {w w' : World} {v : Value} {l : List Pt2} {B : Nat} (h : PtsB w v l B) (k : Below B w w') : PtsB w' v l B := h.keep (Nat.le_refl _) fun g cs hg hb => hb.below k hg

/-- The chain does not turn left at its last point on the way to p. -/
def topB (p : Pt2) : List Pt2 → Bool
  | b :: a :: _ => decide (crs a b p ≤ 0)
  | _ => false
theorem topB_no {p : Pt2} : ∀ {s : List Pt2}, topB p s = false → popC p s = s
  | [], _ => rfl
  | [_], _ => rfl
  | b :: a :: s, h => by
    rw [popC, if_neg]
    simpa [topB] using h
def lenV : Value → Nat
  | .slice _ n _ => n
  | _ => 0
set_option maxRecDepth 100000 in
set_option maxHeartbeats 4000000 in
theorem chain_any (vo vl : Value) (lo l : List Pt2) (B : Nat) (w : World) (ho : w.ownsRow B 23 2 vo lo.length (lo.flatMap ptV)) (hl : PtsB w vl l B) (hB : B ≤ w.heap.size) (hlen : lo.length + l.length ≤ 1000000000000) (hne : l ≠ [])
    (hok : ∀ q ∈ l, okP q.1 q.2 = true) :
    Calls Try.prog 96 #[vo, vl] w fun e w' => ∃ v, e = .returned v ∧ w'.ownsRow B 23 2 v (lo ++ (l.foldl pushC []).tail.reverse).length ((lo ++ (l.foldl pushC []).tail.reverse).flatMap ptV) ∧ Below B w w' := by
  have HL := Lib.hid hl
  obtain ⟨al, cl, rfl, -⟩ := hl
  obtain ⟨ao, co, rfl⟩ := own_slice ho
  have HO := Lib.hid ho
  have HK := Lib.hid hok
  have hne2 : 0 < l.length := List.length_pos_iff.2 hne
  clear ho hok
  go_enter Try.func96, Try.ntmps96
  go_wp2
  go_loopw [0, 12] (fun v0 v wr => ∃ (k : Nat) (stk : List Pt2), k ≤ l.length ∧ v = .int .i64 k ∧ stk.length ≤ k ∧ (0 < k → 0 < stk.length) ∧ Hid (stk = (l.take k).foldl pushC []) ∧ Hid (∀ q ∈ stk, okP q.1 q.2 = true) ∧ Hid (wr.ownsRow B 23 2 v0 (lo.length + stk.length) ((lo ++ stk.reverse).flatMap ptV)) ∧ Hid (Below B w wr)) (fun _ v _ => l.length - (intOf v).toNat)
  case atStart => exact ⟨0, [], by omega, rfl, by simp, by simp, by show _ = _; simp, by simp [Hid], by simpa [Hid] using HO, Below.refl _ _⟩
  case round =>
    clear HO
    obtain ⟨k, stk, hk, rfl, hsk, hk0, HS, HQ, HO, HF⟩ := hrel
    obtain ⟨ar, cr, rfl⟩ := own_slice HO.out
    rcases Nat.lt_or_ge k l.length with hlt | hge
    · have hz : decide ((k : Int) < (l.length : Int)) = true := by rw [decide_eq_true_eq]; omega
      obtain ⟨p, HP⟩ : ∃ p : Pt2, Hid (p = pAt l k) := ⟨_, rfl⟩
      have okp : okP p.1 p.2 = true := by rw [HP.out]; exact HK.out _ (pAt_mem hlt)
      have hpts := (HL.out.below HF.out).pts
      obtain ⟨a', c', hv, hpts⟩ := hpts
      injection hv with hv1 hv2 hv3
      subst hv1 hv3
      obtain ⟨g, o, ha, e0, e1⟩ := hpts k hlt
      subst ha
      rw [← HP.out] at e0 e1
      clear hpts
      have hBr : B ≤ wr.heap.size := Nat.le_trans hB HF.out.size
      go_upto_region 4 with fail
      go_wp2
      obtain ⟨gp, HG⟩ : ∃ gp, gp = wr.heap.size := ⟨_, rfl⟩
      refine atW (fun w' => Blk w' gp 23 #[.int .i64 p.1, .int .i64 p.2] ∧ w'.ownsRow B 23 2 (.slice ar (lo.length + stk.length) cr) (lo.length + stk.length) ((lo ++ stk.reverse).flatMap ptV) ∧ Below B w w') ⟨Blk.new' HG, own_since ((Since.rfl_ _).alloc _) HO.out, HF.out.alloc hBr _⟩ ?_
      rintro w2 ⟨h1, h2, h3⟩
      have hpg : some gp ≠ (Value.slice ar (lo.length + stk.length) cr).ownBlock := fun h => by have := HO.out.lt gp h.symm; omega
      have HP2 := Lib.hid h1
      have HO2 := Lib.hid h2
      have HF2 := Lib.hid h3
      have HG2 := Lib.hid hpg
      rw [← HG]
      have hBg : B ≤ gp := by omega
      clear h1 h2 h3 hpg HO e0 e1 HG hBr HF
      go_loopw [0] (fun v0 wr => ∃ s : List Pt2, s.length ≤ stk.length ∧ (0 < stk.length → 0 < s.length) ∧ Hid (popC p s = popC p stk) ∧ Hid (∀ q ∈ s, okP q.1 q.2 = true) ∧ Hid (wr.ownsRow B 23 2 v0 (lo.length + s.length) ((lo ++ s.reverse).flatMap ptV)) ∧ Hid (Below B w wr) ∧ Hid (Blk wr gp 23 #[.int .i64 p.1, .int .i64 p.2]) ∧ Hid (some gp ≠ v0.ownBlock)) (fun v _ => lenV v)
      case atStart => exact ⟨stk, Nat.le_refl _, id, rfl, HQ, HO2, HF2, HP2, HG2⟩
      case round =>
        clear HQ HO2 HF2 HP2 HG2
        obtain ⟨s, hs1, hs2, HE, HQ, HO, HF, HP2, HG2⟩ := hrel
        obtain ⟨ar, cr, rfl⟩ := own_slice HO.out
        obtain ⟨n, hn⟩ : ∃ n, n = lo.length + s.length := ⟨_, rfl⟩
        rw [← hn] at HO HG2 ⊢
        have p0 : wr.cell? ⟨gp, 0, none⟩ = some (.int .i64 p.1) := HP2.out.cell 0
        have p1 : wr.cell? ⟨gp, 1, none⟩ = some (.int .i64 p.2) := HP2.out.cell 1
        have HN := Lib.hid hn
        have hnb : n ≤ 1000000000000 := by omega
        clear hn
        go_upto_region 5 with fail
        go_cut [37] from 16 to 42 (fun v37 w' => v37 = .bool (topB p s) ∧ Since wr w')
        case first =>
          as_aux_lemma =>
          have hn := HN.out
          rcases s with _ | ⟨b, _ | ⟨a, s⟩⟩
          case cons.cons =>
            have hz2 : decide ((lo.length : Int) + 1 < (n : Int)) = true := by rw [decide_eq_true_eq, hn]; simp only [List.length_cons]; omega
            obtain ⟨i, hi⟩ : ∃ i, i = lo.length + s.length := ⟨_, rfl⟩
            have hni : n = i + 2 := by rw [hn, hi]; simp only [List.length_cons]; omega
            have hr : ∃ g : Nat, ar = some ⟨g, 0, none⟩ := by
              obtain ⟨-, ⟨h, h0⟩ | ⟨g, cap, cur, h, -⟩⟩ := HO.out
              · omega
              · injection h with h; exact ⟨g, h⟩
            obtain ⟨g, rfl⟩ := hr
            obtain ⟨⟨a0, a1⟩, b0, b1⟩ := stk_cells HO.out hi
            have iw2 : IntKind.i64.wrap ((n : Int) - 2) = (i : Int) := by
              rw [i64w, show (n : Int) - 2 = i by omega]; exact wrap_id (by omega)
            have iw1 : IntKind.i64.wrap ((n : Int) - 1) = ((i + 1 : Nat) : Int) := by
              rw [i64w, show (n : Int) - 1 = ((i + 1 : Nat) : Int) by omega]; exact wrap_id (by omega)
            have j1 : (0 : Int) ≤ (i : Int) := by omega
            have j2 : (i : Int) < (n : Int) := by omega
            have j3 : (0 : Int) ≤ ((i + 1 : Nat) : Int) := by omega
            have j4 : ((i + 1 : Nat) : Int) < (n : Int) := by omega
            have j5 : i < n := by omega
            have j6 : i + 1 < n := by omega
            have HT : Hid (decide (turnV a.1 a.2 b.1 b.2 p.1 p.2 ≤ 0) = topB p (b :: a :: s)) := by
              show _ = _
              rw [turn_crs (HQ.out a (by simp)) (HQ.out b (by simp)) okp, cmpI_le]; rfl
            generalize topB p (b :: a :: s) = tb at *
            clear hn hni
            refine region_cls (fun w' => w'.cell? ⟨g, i * 2, none⟩ = some (.int .i64 a.1) ∧ w'.cell? ⟨g, i * 2 + 1, none⟩ = some (.int .i64 a.2) ∧ w'.cell? ⟨g, (i + 1) * 2, none⟩ = some (.int .i64 b.1) ∧ w'.cell? ⟨g, (i + 1) * 2 + 1, none⟩ = some (.int .i64 b.2) ∧ w'.cell? ⟨gp, 0, none⟩ = some (.int .i64 p.1) ∧ w'.cell? ⟨gp, 1, none⟩ = some (.int .i64 p.2) ∧ Since wr w') (by kernel_rfl) (by kernel_rfl) (by (repeat' refine And.intro ?_ ?_) <;> first | (simp (maxDischargeDepth := 9) [a0, a1, b0, b1, p0, p1,  cSetS, cSetO, cellNew, World.cell?_alloc_some, cellDrew]; done) | (repeat (first | with_reducible assumption | with_reducible exact Since.rfl_ _ | refine Since.setCell ?_ (by (try dsimp only); omega) _ | refine Since.alloc ?_ _ | refine Since.drew ?_))) ?_
            repeat (go_big_quiet_step ((first | (intro hC; go_at_call 80; refine (Turn_any _ _ _ _ _ _ _).mono ?_; rintro e w' ⟨rfl, hb⟩; refine ⟨rfl, ?_⟩; have k1 := keepC hb; have k2 := keepS hb; have hC := hC.out; (try dsimp only at hC); simp [Cls, hC, k1, k2]) | (intro hC; have hC := hC.out; (try simp only [hC, Result.andThen]); first | exact ⟨True.intro, rfl⟩ | exact ⟨rfl, rfl⟩ | rfl))))
            refine cls_end ?_
            rintro w3 ⟨-, -, -, -, -, -, hs⟩
            have HS3 := Lib.hid hs
            clear hs a0 a1 b0 b1 p0 p1
            go_wp2_with fail
            go_meet
            exact ⟨by rw [HT.out], HS3.out⟩
          all_goals
            have hz2 : decide ((lo.length : Int) + 1 < (n : Int)) = false := by rw [decide_eq_false_iff_not, hn]; simp only [List.length_cons, List.length_nil]; omega
            clear hn
            refine region_cls (fun w' => Since wr w') (by kernel_rfl) (by kernel_rfl) (by (repeat' refine And.intro ?_ ?_) <;> first | (simp (maxDischargeDepth := 9) [ cSetS, cSetO, cellNew, World.cell?_alloc_some, cellDrew]; done) | (repeat (first | with_reducible assumption | with_reducible exact Since.rfl_ _ | refine Since.setCell ?_ (by (try dsimp only); omega) _ | refine Since.alloc ?_ _ | refine Since.drew ?_))) ?_
            repeat (go_big_quiet_step ((first | (intro hC; have hC := hC.out; (try simp only [hC, Result.andThen]); first | exact ⟨True.intro, rfl⟩ | exact ⟨rfl, rfl⟩ | rfl))))
            refine cls_end ?_
            rintro w3 hs
            have HS3 := Lib.hid hs
            clear hs p0 p1
            go_wp2_with fail
            go_meet
            exact ⟨rfl, HS3.out⟩
        case rest =>
          obtain ⟨rfl, hs⟩ := hcut
          obtain ⟨w3, rfl⟩ : ∃ w3, w3 = wc := ⟨_, rfl⟩
          have HO3 := Lib.hid (own_since hs HO.out)
          have HF3 := Lib.hid (HF.out.trans (Below.mono hs (Nat.le_trans hB HF.out.size)))
          have HP3 := Lib.hid (hs.blk HP2.out)
          have hB3 : B ≤ w3.heap.size := Nat.le_trans hB HF3.out.size
          clear hs HO HF HP2 p0 p1
          cases ht : topB p s
          · have HE2 : Hid (popC p stk = s) := by show _ = _; rw [← HE.out]; exact topB_no ht
            have q0 : w3.cell? ⟨gp, 0, none⟩ = some (.int .i64 p.1) := HP3.out.cell 0
            have q1 : w3.cell? ⟨gp, 1, none⟩ = some (.int .i64 p.2) := HP3.out.cell 1
            obtain ⟨i0, hi, hz0, hz1, hz2⟩ := info_parts infoPt
            have HI := Lib.hid hi
            have HZ := Lib.hid (And.intro hz0 (And.intro hz1 hz2))
            clear hi hz0 hz1 hz2 ht HE
            go_wp2_with (at_builtin; refine wpList_append_own _ rfl _ _ 32 rfl B 23 i0 _ 2 16 Try.underlying32 HI.out HZ.out.1 HZ.out.2.1 HZ.out.2.2 rfl (by decide) _ _ _ rfl (own_since ((Since.rfl_ w3).alloc _) HO3.out) _ _ _ [.int .i64 p.1, .int .i64 p.2] rfl rfl (cell2_new _ _ _ _) (one2 _ _ _ _) (by unfold maxLen; omega) (by omega) (by simp only [World.size_alloc]; omega) ?_)
            intro v' w' hown hgrow _
            obtain ⟨ao', co', rfl⟩ := own_slice hown
            have hA := (Since.rfl_ w3).alloc (.cells #[.int .i64 p.1, .int .i64 p.2] 23)
            have hoA := own_since hA HO3.out
            have HF4 := Lib.hid (((HF3.out.alloc hB3 (.cells #[.int .i64 p.1, .int .i64 p.2] 23))).grown hgrow (by simp only [World.size_alloc]; omega) fun k hk => (hoA.lt k hk).1)
            have HO4 : Hid (w'.ownsRow B 23 2 (.slice ao' (n + 1) co') (lo.length + (pushC stk p).length) ((lo ++ (pushC stk p).reverse).flatMap ptV)) := by
              show World.ownsRow _ _ _ _ _ _ _
              unfold pushC
              rw [HE2.out, List.length_cons, ← Nat.add_assoc, ← HN.out, List.reverse_cons, ← List.append_assoc, List.flatMap_append (ys := [p]), List.flatMap_append, List.append_assoc]
              exact hown
            have hlen4 : (pushC stk p).length = s.length + 1 := by unfold pushC; rw [HE2.out]; rfl
            have HQ4 : Hid (∀ q ∈ pushC stk p, okP q.1 q.2 = true) := by
              intro q hq
              unfold pushC at hq
              rw [HE2.out] at hq
              rcases List.mem_cons.1 hq with rfl | hq
              · exact okp
              · exact HQ.out q hq
            have HS4 : Hid (pushC stk p = (l.take (k + 1)).foldl pushC []) := by
              show _ = _
              rw [List.take_succ_eq_append_getElem hlt, List.foldl_append, ← HS.out, HP.out]
              simp [pAt, List.getD, hlt]
            clear hown hgrow hA hoA HO3 HF3 HP3 q0 q1
            go_wp2_with fail
            go_roundw
            case rel => exact ⟨k + 1, pushC stk p, by omega, by go_num, by omega, by omega, HS4, HQ4, HO4, HF4⟩
            case measure => simp [intOf]; omega
          · rcases s with _ | ⟨b, _ | ⟨a, s⟩⟩
            case nil => cases ht
            case cons.nil => cases ht
            case cons.cons =>
              have HE2 : Hid (popC p (a :: s) = popC p stk) := by
                show _ = _
                rw [← HE.out, popC, if_pos (by simpa [topB] using ht)]
              have hr : ∃ g : Nat, ar = some ⟨g, 0, none⟩ ∧ n ≤ cr := by
                obtain ⟨-, ⟨h, h0⟩ | ⟨g, cap, cur, h, -, -, hc, -⟩⟩ := HO3.out
                · have := HN.out; simp only [List.length_cons] at this; omega
                · injection h with h h1 h2; exact ⟨g, h, by omega⟩
              obtain ⟨g, rfl, hcr⟩ := hr
              obtain ⟨m, hm⟩ : ∃ m, n = m + 1 := ⟨n - 1, by have := HN.out; simp only [List.length_cons] at this; omega⟩
              have HM := Lib.hid hm
              have HO4 : Hid (w3.ownsRow B 23 2 (.slice (some ⟨g, 0, none⟩) m cr) (lo.length + (a :: s).length) ((lo ++ (a :: s).reverse).flatMap ptV)) := by
                show World.ownsRow _ _ _ _ _ _ _
                have hm2 : lo.length + (a :: s).length = m := by have := HN.out; simp only [List.length_cons] at this ⊢; omega
                rw [hm2]
                refine own_cut (zs := [b].flatMap ptV) HO3.out (by omega) (by rw [List.reverse_cons (a := b), ← List.append_assoc, List.flatMap_append]) ?_ (by omega)
                rw [flatP_len, ← hm2]; simp
              have iw1 : IntKind.i64.wrap ((n : Int) - 1) = (m : Int) := by
                rw [i64w, show (n : Int) - 1 = m by omega]; exact wrap_id (by omega)
              have j1 : (0 : Int) ≤ (m : Int) := by omega
              have j2 : (m : Int) ≤ (cr : Int) := by omega
              have j3 : m ≤ cr := by omega
              have j4 : ¬ cr = 0 := by omega
              have hne3 : Hid (some gp ≠ (Value.slice (some ⟨g, 0, none⟩) m cr).ownBlock) := HG2.out
              clear hm HO3 HG2
              go_wp2_with fail
              go_roundw
              case rel => exact ⟨a :: s, by simp only [List.length_cons] at hs1 ⊢; omega, by simp, HE2, fun q hq => HQ.out q (List.mem_cons_of_mem _ hq), HO4, HF3, HP3, hne3⟩
              case measure => have := HM.out; simp [lenV]; omega
    · obtain rfl : k = l.length := by omega
      have hz : decide ((l.length : Int) < (l.length : Int)) = false := by rw [decide_eq_false_iff_not]; omega
      have h0 := hk0 hne2
      obtain ⟨b, s, hbs⟩ : ∃ b s, stk = b :: s := by
        cases stk with
        | nil => simp at h0
        | cons b s => exact ⟨b, s, rfl⟩
      subst hbs
      have HE : Hid ((l.foldl pushC []).tail = s) := by
        show _ = _
        have := HS.out
        rw [List.take_length] at this
        rw [← this]; rfl
      obtain ⟨m, hm⟩ : ∃ m, m = lo.length + s.length := ⟨_, rfl⟩
      have hml : lo.length + (b :: s).length = m + 1 := by rw [hm]; simp only [List.length_cons]; omega
      have HO2 : Hid (wr.ownsRow B 23 2 (.slice ar (m + 1) cr) (m + 1) ((lo ++ (b :: s).reverse).flatMap ptV)) := by
        show World.ownsRow _ _ _ _ _ _ _
        have := HO.out
        rwa [hml] at this
      have hr : ∃ g : Nat, ar = some ⟨g, 0, none⟩ ∧ m + 1 ≤ cr := by
        obtain ⟨-, ⟨h, h0⟩ | ⟨g, cap, cur, h, -, -, hc, -⟩⟩ := HO2.out
        · omega
        · injection h with h h1 h2; exact ⟨g, h, by omega⟩
      obtain ⟨g, rfl, hcr⟩ := hr
      have HO4 : Hid (wr.ownsRow B 23 2 (.slice (some ⟨g, 0, none⟩) m cr) m ((lo ++ s.reverse).flatMap ptV)) := by
        show World.ownsRow _ _ _ _ _ _ _
        refine own_cut (zs := [b].flatMap ptV) HO2.out (by omega) (by rw [List.reverse_cons (a := b), ← List.append_assoc, List.flatMap_append]) ?_ (by omega)
        rw [flatP_len, hm]; simp
      rw [hml]
      have HM := Lib.hid hm
      have iw1 : IntKind.i64.wrap (((m + 1 : Nat) : Int) - 1) = (m : Int) := by
        rw [i64w, show ((m + 1 : Nat) : Int) - 1 = m by omega]; exact wrap_id (by omega)
      have iw2 : wrap64 (m : Int) = (m : Int) := wrap_id (by omega)
      have iw3 : ((m : Int)).toNat = m := by omega
      have j1 : (0 : Int) ≤ (m : Int) := by omega
      have j2 : (m : Int) ≤ (cr : Int) := by omega
      have j3 : m ≤ cr := by omega
      have j4 : ¬ cr = 0 := by omega
      clear hm hml HO HO2 hsk hk0 h0
      go_wp2
      go_ret
      refine ⟨_, rfl, ?_, HF.out⟩
      rw [HE.out, show (lo ++ s.reverse).length = m by rw [HM.out]; simp]
      exact HO4.out
end Go.Proofs.Ytcckekdfeeghaaa
