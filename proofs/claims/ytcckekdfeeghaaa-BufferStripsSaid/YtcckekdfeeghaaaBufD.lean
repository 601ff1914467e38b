/-
  The walk of hull.Of. Conditions: bounds of the numbers.
-/
import Derived.Test.YtcckekdfeeghaaaBufB
import Derived.Test.YtcckekdfeeghaaaClipCm
namespace Go.Proofs.Ytcckekdfeeghaaa
set_option linter.unusedSimpArgs false
set_option linter.unusedVariables false
open Go.RowKit Go.BigFrame
attribute [local go_sem ↓] eqPt neqPt

/-- Points in their order. -/
def srtL (l : List Pt2) : List Pt2 := l.mergeSort fun x y => !lxB y x
def SortSpec : Prop := ∀ (g c n B : Nat) (l : List Pt2) (w : World), w.ownsRow B 23 2 (.slice (some ⟨g, 0, none⟩) n c) n (l.flatMap ptV) → n = l.length → n ≤ 1000000000000 →
  Calls Try.prog 94 #[.slice (some ⟨g, 0, none⟩) n c, .func (.func 95) #[] #[]] w fun e w' => e = .returned (.tuple #[]) ∧ w'.ownsRow B 23 2 (.slice (some ⟨g, 0, none⟩) n c) n ((srtL l).flatMap ptV) ∧ Only g w w'
def RevSpec : Prop := ∀ (g c n B : Nat) (l : List Pt2) (w : World), w.ownsRow B 23 2 (.slice (some ⟨g, 0, none⟩) n c) n (l.flatMap ptV) → n = l.length → n ≤ 1000000000000 →
  Calls Try.prog 97 #[.slice (some ⟨g, 0, none⟩) n c] w fun e w' => e = .returned (.tuple #[]) ∧ w'.ownsRow B 23 2 (.slice (some ⟨g, 0, none⟩) n c) n (l.reverse.flatMap ptV) ∧ Only g w w'
theorem RowP.toOwn {w : World} {B g c : Nat} {l : List Pt2} (h : RowP w g l.length (c * 2) (pAt l)) (hc : l.length ≤ c) (hm : c ≤ maxLen) (hb : B ≤ g) : w.ownsRow B 23 2 (.slice (some ⟨g, 0, none⟩) l.length c) l.length (l.flatMap ptV) := by
  obtain ⟨cs, hg, hs, hn, hcl⟩ := h
  refine ⟨flatP_len l, .inr ⟨g, c, cs, rfl, hb, hg, hc, hm, hs, ?_⟩⟩
  apply List.ext_getElem?
  intro j
  by_cases hj : j < l.length * 2
  · obtain ⟨u, r, rfl, hr⟩ : ∃ u r, j = u * 2 + r ∧ r < 2 := ⟨j / 2, j % 2, by omega, by omega⟩
    have hi : u < l.length := by omega
    rw [List.getElem?_take_of_lt hj, Array.getElem?_toList, flat_at ptV_len l u r hi hr]
    have e : pAt l u = l[u] := by simp [pAt, List.getD, hi]
    have h2 := hcl u hi
    rw [e, Nat.mul_comm] at h2
    have : r = 0 ∨ r = 1 := by omega
    rcases this with h | h
    · rw [h]; exact h2.1
    · rw [h]; exact h2.2
  · rw [List.getElem?_take_eq_none (by omega), List.getElem?_eq_none (by rw [flatP_len]; omega)]
theorem CompactOwn (g c B : Nat) (l : List Pt2) (w : World) (hl : l.length ≤ 1000000000000) (h : w.ownsRow B 23 2 (.slice (some ⟨g, 0, none⟩) l.length c) l.length (l.flatMap ptV)) :
    Calls Try.prog 84 #[.slice (some ⟨g, 0, none⟩) l.length c] w fun e w' => e = .returned (.slice (some ⟨g, 0, none⟩) (cmpL l).length c) ∧
      w'.ownsRow B 23 2 (.slice (some ⟨g, 0, none⟩) (cmpL l).length c) (cmpL l).length ((cmpL l).flatMap ptV) ∧ Only g w w' := by
  obtain ⟨h1, h2, h3⟩ := RowP.own h
  have hm : c ≤ maxLen := by
    obtain ⟨-, ⟨h0, -⟩ | ⟨g', cap, cur, hv, -, -, -, hm, -⟩⟩ := h
    · cases h0
    · injection hv with e1 e2 e3; omega
  refine (Compact_any g c (c * 2) l w hl h2 h1).mono ?_
  rintro e w' ⟨rfl, hr, ho⟩
  exact ⟨rfl, hr.toOwn (Nat.le_trans (cmpL_le l) h2) hm h3, ho⟩

/-- A row of one's own reads as points, in a block below B. -/
theorem own_ptsB {w : World} {b B g n c : Nat} {l : List Pt2} (h : w.ownsRow b 23 2 (.slice (some ⟨g, 0, none⟩) n c) n (l.flatMap ptV)) (hn : n = l.length) (hB : g < B) : PtsB w (.slice (some ⟨g, 0, none⟩) n c) l B := by
  subst hn
  obtain ⟨a, c', hv, h⟩ := own_pts h (Nat.le_refl _)
  injection hv with h1 h2 h3
  subst h1 h3
  refine ⟨_, _, rfl, fun i hi => ?_⟩
  obtain ⟨g', o, cs, ha, -, r⟩ := h i hi
  injection ha with ha
  injection ha with ha1 ha2
  subst ha1 ha2
  exact ⟨g, 0, cs, rfl, hB, r⟩
/-- The points of a hull, sorted, each one once. -/
def hullS (l : List Pt2) : List Pt2 := cmpL (srtL l)
theorem popC_len (p : Pt2) : ∀ s, (popC p s).length ≤ s.length
  | [] => Nat.le_refl _
  | [_] => Nat.le_refl _
  | b :: a :: s => by
    rw [popC]
    split
    · have := popC_len p (a :: s); simp only [List.length_cons] at this ⊢; omega
    · exact Nat.le_refl _
theorem fold_len : ∀ (l s : List Pt2), (l.foldl pushC s).length ≤ s.length + l.length
  | [], s => Nat.le_refl _
  | p :: l, s => by
    rw [List.foldl_cons]
    have h1 := fold_len l (pushC s p)
    have h2 := popC_len p s
    have h3 : (pushC s p).length = (popC p s).length + 1 := rfl
    simp only [List.length_cons]; omega
theorem chain_len (l : List Pt2) : (l.foldl pushC []).length ≤ l.length := by have := fold_len l []; simpa using this
theorem snocC_mem {acc : List Pt2} {p q : Pt2} (h : q ∈ snocC acc p) : q ∈ acc ∨ q = p := by
  unfold snocC at h
  split at h
  · exact .inr (by simpa using h)
  · split at h
    · exact .inl h
    · rcases List.mem_append.1 h with h | h
      · exact .inl h
      · exact .inr (by simpa using h)
theorem cmpL_mem {l : List Pt2} {q : Pt2} (h : q ∈ cmpL l) : q ∈ l := by
  have key : ∀ (l acc : List Pt2), q ∈ l.foldl snocC acc → q ∈ acc ∨ q ∈ l := by
    intro l
    induction l with
    | nil => exact fun acc h => .inl h
    | cons p l ih =>
      intro acc h
      rcases ih _ h with h | h
      · rcases snocC_mem h with h | h
        · exact .inl h
        · exact .inr (by simp [h])
      · exact .inr (by simp [h])
  rcases key l [] h with h | h
  · cases h
  · exact h
def hullV (l : List Pt2) : List Pt2 := hullX (hullS l)

set_option maxRecDepth 100000 in
set_option maxHeartbeats 4000000 in
theorem OfH_any (hSort : SortSpec) (hRev : RevSpec) (v : Value) (l : List Pt2) (w : World) (hv : PtsB w v l w.heap.size) (hne : l ≠ []) (hlen : l.length ≤ 1000000) (hok : ∀ q ∈ l, okP q.1 q.2 = true) :
    Calls Try.prog 49 #[v] w fun e w' => ∃ v', e = .returned v' ∧ w'.ownsRow w.heap.size 23 2 v' (hullV l).length ((hullV l).flatMap ptV) ∧ Since w w' := by
  have HV := Lib.hid hv
  obtain ⟨al, cl, rfl, -⟩ := hv
  have hpos : 0 < l.length := List.length_pos_iff.2 hne
  have HK := Lib.hid hok
  obtain ⟨i0, hi, hz0, hz1, hz2⟩ := info_parts infoPt
  have HI := Lib.hid hi
  have HZ := Lib.hid (And.intro hz0 (And.intro hz1 hz2))
  clear hi hz0 hz1 hz2 hok hne
  go_enter Try.func49, Try.ntmps49
  go_wp2_with (at_make; refine wpList_make_own _ rfl _ _ 32 rfl w.heap.size 23 i0 _ 2 Try.underlying32 HI.out HZ.out.1 HZ.out.2.1 .i64 .i64 _ l.length rfl rfl rfl (by rw [HZ.out.2.2]; omega) (by unfold maxLen; omega) (Nat.le_refl _) ?_; intro w0 hown0 hgrow0)
  have hs0 : Since w w0 := ⟨hgrow0.os, hgrow0.tape, hgrow0.output, hgrow0.size, fun k hk => hgrow0.block k hk (by simp)⟩
  have HS0 := Lib.hid hs0
  have HO0 := Lib.hid hown0
  clear hgrow0 hown0 hs0
  go_loopw [3, 12] (fun v3 v wr => ∃ k : Nat, k ≤ l.length ∧ v = .int .i64 k ∧ Hid (wr.ownsRow w.heap.size 23 2 v3 k ((l.take k).flatMap ptV)) ∧ Hid (Since w wr)) (fun _ v _ => l.length - (intOf v).toNat)
  case atStart => exact ⟨0, by omega, rfl, by simpa [Hid] using HO0, HS0⟩
  case round =>
    clear HS0 HO0
    obtain ⟨k, hk, rfl, HO, HS⟩ := hrel
    obtain ⟨ar, cr, rfl⟩ := own_slice HO.out
    rcases Nat.lt_or_ge k l.length with hlt | hge
    · have hz : decide ((k : Int) < (l.length : Int)) = true := by rw [decide_eq_true_eq]; omega
      obtain ⟨p, HP⟩ : ∃ p : Pt2, Hid (p = pAt l k) := ⟨_, rfl⟩
      have okp : okP p.1 p.2 = true := by rw [HP.out]; exact HK.out _ (pAt_mem hlt)
      have hpts := (HV.out.pts.since HS.out)
      obtain ⟨a', c', hv, hpts⟩ := hpts
      injection hv with hv1 hv2 hv3
      subst hv1 hv3
      obtain ⟨g, o, ha, e0, e1⟩ := hpts k hlt
      subst ha
      rw [← HP.out] at e0 e1
      clear hpts
      have hws := HS.out.size
      go_wp2_with fail
      refine (Clamp_val okp _).mono ?_
      rintro e w2 ⟨rfl, hs⟩
      have hA : Since wr w2 := Since.trans ((Since.rfl_ wr).alloc _) hs
      have HO2 := Lib.hid (own_since hA HO.out)
      have HS2 := Lib.hid (HS.out.trans hA)
      have hws2 := HS2.out.size
      have HE : Hid ((l.take (k + 1)).flatMap ptV = (l.take k).flatMap ptV ++ [.int .i64 p.1, .int .i64 p.2]) := by
        show _ = _
        rw [List.take_succ_eq_append_getElem hlt, List.flatMap_append, HP.out]
        simp [pAt, List.getD, hlt, ptV]
      clear hA hs HO HS e0 e1 hws
      go_wp2_with (at_builtin; refine wpList_append_own _ rfl _ _ 32 rfl w.heap.size 23 i0 _ 2 16 Try.underlying32 HI.out HZ.out.1 HZ.out.2.1 HZ.out.2.2 rfl (by decide) _ _ _ rfl (own_since ((Since.rfl_ w2).alloc _) HO2.out) _ _ _ [.int .i64 p.1, .int .i64 p.2] rfl rfl (cell2_new _ _ _ _) (one2 _ _ _ _) (by unfold maxLen; omega) (by omega) (by simp only [World.size_alloc]; omega) ?_)
      intro v' w' hown hgrow _
      have hA := (Since.rfl_ w2).alloc (.cells #[.int .i64 p.1, .int .i64 p.2] 23)
      have hoA := own_since hA HO2.out
      have HS3 := Lib.hid ((HS2.out.trans hA).app hoA hgrow)
      have HO3 : Hid (w'.ownsRow w.heap.size 23 2 v' (k + 1) ((l.take (k + 1)).flatMap ptV)) := by
        show World.ownsRow _ _ _ _ _ _ _
        rw [HE.out]; exact hown
      clear hown hgrow hA hoA HO2 HS2 HE
      go_wp2_with fail
      go_roundw
      case rel => exact ⟨k + 1, by omega, by go_num, HO3, HS3⟩
      case measure => simp [intOf]; omega
    · obtain rfl : k = l.length := by omega
      have hz : decide ((l.length : Int) < (l.length : Int)) = false := by rw [decide_eq_false_iff_not]; omega
      have HO1 : Hid (wr.ownsRow w.heap.size 23 2 (.slice ar l.length cr) l.length (l.flatMap ptV)) := by
        show World.ownsRow _ _ _ _ _ _ _
        have := HO.out
        rwa [List.take_length] at this
      have hr : ∃ g : Nat, ar = some ⟨g, 0, none⟩ ∧ w.heap.size ≤ g := by
        obtain ⟨-, ⟨h, h0⟩ | ⟨g, cap, cur, h, hb, -⟩⟩ := HO1.out
        · omega
        · injection h with h h1 h2; exact ⟨g, h, hb⟩
      obtain ⟨g, rfl, hgb⟩ := hr
      clear HO
      go_wp2_with fail
      refine (hSort g cr l.length w.heap.size l _ HO1.out rfl (by omega)).mono ?_
      rintro e w1 ⟨rfl, ho, hon⟩
      have HO2 := Lib.hid ho
      have HS2 := Lib.hid (hon.since HS.out hgb)
      clear ho hon HO1 HS
      have hsl : (srtL l).length = l.length := by unfold srtL; simp
      have hC := CompactOwn g cr w.heap.size (srtL l) w1 (by omega) (by rw [hsl]; exact HO2.out)
      rw [hsl] at hC
      have hX : ∀ q ∈ cmpL (srtL l), okP q.1 q.2 = true := fun q hq => by
        have := cmpL_mem hq
        unfold srtL at this
        exact HK.out q (List.mem_mergeSort.1 this)
      have hXl := cmpL_le (srtL l)
      rw [hsl] at hXl
      obtain ⟨X, HX⟩ : ∃ X, Hid (X = cmpL (srtL l)) := ⟨_, rfl⟩
      have hXX := HX.out
      rw [← hXX] at hC hX hXl
      have HXK := Lib.hid hX
      have HE : Hid (hullV l = hullX X) := by show _ = _; rw [hXX]; rfl
      have HCC := Lib.hid hC
      clear hXX hC hX HX
      go_wp2_with fail
      refine (HCC.out).mono ?_
      rintro e w2 ⟨rfl, ho, hon⟩
      have HO3 := Lib.hid ho
      have HS3 := Lib.hid (hon.since HS2.out hgb)
      clear ho hon HO2 HS2
      by_cases hX2 : X.length < 2
      · have hz2 : decide ((X.length : Int) < 2) = true := by rw [decide_eq_true_eq]; omega
        have HE2 : Hid (hullV l = X) := by show _ = _; rw [HE.out, hullX, if_pos hX2]
        go_wp2_with fail
        go_ret
        exact ⟨_, rfl, by rw [HE2.out]; exact HO3.out, HS3.out⟩
      · have hz2 : decide ((X.length : Int) < 2) = false := by rw [decide_eq_false_iff_not]; omega
        have HE2 : Hid (hullV l = (X.foldl pushC []).tail.reverse ++ (X.reverse.foldl pushC []).tail.reverse) := by show _ = _; rw [HE.out, hullX, if_neg hX2]; rfl
        have hXne : X ≠ [] := by intro h; rw [h] at hX2; simp at hX2
        have hg2 : g < w2.heap.size := (HO3.out.lt g rfl).2
        have hw2 := HS3.out.size
        have hnil : w2.ownsRow w2.heap.size 23 2 (.slice none 0 0) ([] : List Pt2).length (([] : List Pt2).flatMap ptV) := by
          rw [List.flatMap_nil, List.length_nil]; exact World.ownsRow_nil _ _ _ _
        have hl0 : ([] : List Pt2).length + X.length ≤ 1000000000000 := by rw [List.length_nil]; omega
        have hch := chain_any (.slice none 0 0) (.slice (some ⟨g, 0, none⟩) X.length cr) [] X w2.heap.size w2 hnil (own_ptsB HO3.out rfl hg2) (Nat.le_refl _) hl0 hXne HXK.out
        obtain ⟨L, HLx⟩ : ∃ L, Hid (L = (X.foldl pushC []).tail.reverse) := ⟨_, rfl⟩
        rw [List.nil_append, ← HLx.out] at hch
        have HCH := Lib.hid hch
        clear hch hnil hl0
        go_wp2_with fail
        refine (HCH.out).mono ?_
        rintro e w3 ⟨v1, rfl, ho, hb⟩
        obtain ⟨a1, c1, rfl⟩ := own_slice ho
        have HO4 := Lib.hid (own_since hb HO3.out)
        have HS4 := Lib.hid (HS3.out.trans hb)
        have HR4 := Lib.hid ho
        have hw3 := hb.size
        clear ho hb HO3 HS3
        go_wp2_with fail
        refine (hRev g cr X.length w.heap.size X w3 HO4.out rfl (by omega)).mono ?_
        rintro e w4 ⟨rfl, ho, hon⟩
        have HO5 := Lib.hid ho
        have HS5 := Lib.hid (hon.since HS4.out hgb)
        have HR5 := Lib.hid (own_only HR4.out hon hg2)
        have hw4 := hon.size
        clear ho hon HO4 HS4 HR4
        have hl1 : L.length ≤ X.length := by
          rw [HLx.out, List.length_reverse, List.length_tail]
          have := chain_len X
          omega
        have hrl : X.length = X.reverse.length := by rw [List.length_reverse]
        have hl0 : L.length + X.reverse.length ≤ 1000000000000 := by rw [List.length_reverse]; omega
        have hch := chain_any _ (.slice (some ⟨g, 0, none⟩) X.length cr) L X.reverse w2.heap.size w4 HR5.out (own_ptsB HO5.out hrl hg2) (by omega) hl0 (by simpa using hXne) (fun q hq => HXK.out q (by simpa using hq))
        obtain ⟨M, HM⟩ : ∃ M, Hid (M = hullV l) := ⟨_, rfl⟩
        rw [HLx.out, ← HE2.out, ← HM.out] at hch
        have HCH := Lib.hid hch
        clear hch hl0 hrl
        go_wp2_with fail
        have hch := HCH.out
        rw [← HLx.out] at hch
        refine hch.mono ?_
        clear hch
        rintro e w5 ⟨v2, rfl, ho, hb⟩
        obtain ⟨a2, c2, rfl⟩ := own_slice ho
        have HR6 := Lib.hid (ho.mono (base' := w.heap.size) hw2)
        have HS6 := Lib.hid (show Since w w5 from Below.trans (B := w.heap.size) HS5.out (Below.mono hb hw2))
        clear ho hb HO5 HS5 HR5
        go_wp2_with fail
        go_ret
        exact ⟨_, rfl, by rw [← HM.out]; exact HR6.out, HS6.out⟩
end Go.Proofs.Ytcckekdfeeghaaa
