/-
  The walk of hot.edges; The walk of hot.through; What hot.Chains computes; an append to a slice that is full; The walk of hot.Chains; Plain law: snap rounding. Pieces of two segments that do not meet, and in whose pixels no end of the other lies, do not meet when they are rounded. Conditions: those that each lemma names.
-/
import Derived.Test.YtdnccjdlmepafaaGreatK15
import Derived.Test.YtdnccjdlmepafaaGreatK05
import Derived.Test.YtdnccjdlmepafaaGreatK14
set_option linter.unusedSimpArgs false
set_option linter.unusedVariables false
set_option linter.constructorNameAsVariable false
namespace Go.Proofs.YtdnccjdlmepafaaGreat
section
open Go.RowKit Go.BigFrame
attribute [local go_sem ↓] eqPt neqPt
def chAt (cs : List (List Pt2)) (i : Nat) : List Pt2 := cs.getD i []
def ChS (w : World) (v : Value) (cs : List (List Pt2)) : Prop :=
 ∃ (g : Nat) (c : Nat), v = .slice (some ⟨g, 0, none⟩) cs.length c ∧ ∀ i, i < cs.length → ∃ v', w.cell? ⟨g, i, none⟩ = some v' ∧ PtsS w v' (chAt cs i)
theorem ChS.since {w w' : World} {v : Value} {cs : List (List Pt2)} (h : ChS w v cs) (k : Since w w') : ChS w' v cs := by
 obtain ⟨g, c, hv, h⟩ := h
 refine ⟨g, c, hv, fun i hi => ?_⟩
 obtain ⟨v', h1, h2⟩ := h i hi
 exact ⟨v', keepC k _ _ h1, h2.since k⟩
def ordE (p q : Pt2) : Sg := if 0 < cmpP p q then (q, p) else (p, q)
def edgC (c : List Pt2) (n : Nat) : List Sg := (List.range n).map fun i => ordE (pAt c i) (pAt c (i + 1))
def edgA (cs : List (List Pt2)) (k : Nat) : List Sg := (List.range k).flatMap fun i => edgC (chAt cs i) ((chAt cs i).length - 1)
def edgL (cs : List (List Pt2)) : List Sg := cmpG (srtG (edgA cs cs.length))
theorem edgC_succ (c : List Pt2) (n : Nat) : edgC c (n + 1) = edgC c n ++ [ordE (pAt c n) (pAt c (n + 1))] := by unfold edgC; rw [List.range_succ, List.map_append]; rfl
theorem edgA_succ (cs : List (List Pt2)) (k : Nat) : edgA cs (k + 1) = edgA cs k ++ edgC (chAt cs k) ((chAt cs k).length - 1) := by unfold edgA; rw [List.range_succ, List.flatMap_append]; simp
theorem edgC_len (c : List Pt2) (n : Nat) : (edgC c n).length = n := by simp [edgC]
theorem edgA_len {cs : List (List Pt2)} {M : Nat} (hM : ∀ i, i < cs.length → (chAt cs i).length ≤ M + 1) : ∀ k, k ≤ cs.length → (edgA cs k).length ≤ k * M
 | 0, _ => by simp [edgA]
 | k + 1, h => by
  rw [edgA_succ, List.length_append, edgC_len, Nat.succ_mul]
  have := edgA_len hM k (by omega)
  have := hM k (by omega)
  omega
theorem cell4_new (w : World) (x y z u : Value) (t : TypeId) : ∀ j v, [x, y, z, u][j]? = some v → (w.alloc (.cells #[x, y, z, u] t)).cell? ((⟨w.heap.size, 0, none⟩ : Addr).add j) = some v := by
 intro j v hv
 rcases j with _ | _ | _ | _ | j
 ·rw [← hv]; exact (Blk.new w t #[x, y, z, u]).cell 0
 ·rw [← hv]; exact (Blk.new w t #[x, y, z, u]).cell 1
 ·rw [← hv]; exact (Blk.new w t #[x, y, z, u]).cell 2
 ·rw [← hv]; exact (Blk.new w t #[x, y, z, u]).cell 3
 ·simp at hv
theorem one4 (k k' k'' k3 : IntKind) (a b c d : Int) : ∀ u ∈ [Value.int k a, .int k' b, .int k'' c, .int k3 d], u.oneCell' = true := by
 intro u hu
 simp only [List.mem_cons, List.not_mem_nil, or_false] at hu
 rcases hu with rfl | rfl | rfl | rfl <;> rfl
theorem RowG.own {w : World} {b g c : Nat} {l : List Sg} (h : w.ownsRow b 37 4 (.slice (some ⟨g, 0, none⟩) l.length c) l.length (l.flatMap sgV)) : RowG w g l.length (c * 4) (sgAt l) ∧ l.length ≤ c ∧ b ≤ g ∧ c ≤ maxLen := by
 obtain ⟨-, ⟨h0, -⟩ | ⟨g', cap, cur, hv, hb, hg, hn, hm, hs, ht⟩⟩ := h
 ·cases h0
 ·injection hv with e1 e2 e3
  injection e1 with e1
  injection e1 with e1 _ _
  subst e1 e3
  refine ⟨⟨cur, hg, hs, by omega, fun i hi => ?_⟩, hn, hb, hm⟩
  have key : ∀ j, j < 4 → cur[4 * i + j]? = (sgV l[i])[j]? := fun j hj => by
   rw [← flat_at (f := sgV) (k := 4) (fun x => rfl) l i j hi hj, ← ht, List.getElem?_take_of_lt (by omega), Array.getElem?_toList, Nat.mul_comm i 4]
  have e : sgAt l i = l[i] := by simp [sgAt, List.getD, hi]
  rw [e]
  exact ⟨key 0 (by omega), key 1 (by omega), key 2 (by omega), key 3 (by omega)⟩
theorem RowG.toOwn {w : World} {B g c : Nat} {l : List Sg} (h : RowG w g l.length (c * 4) (sgAt l)) (hc : l.length ≤ c) (hm : c ≤ maxLen) (hb : B ≤ g) : w.ownsRow B 37 4 (.slice (some ⟨g, 0, none⟩) l.length c) l.length (l.flatMap sgV) := by
 obtain ⟨cs, hg, hs, hn, hcl⟩ := h
 refine ⟨flatG_len l, .inr ⟨g, c, cs, rfl, hb, hg, hc, hm, hs, ?_⟩⟩
 apply List.ext_getElem?
 intro j
 by_cases hj : j < l.length * 4
 ·obtain ⟨u, r, rfl, hr⟩ : ∃ u r, j = u * 4 + r ∧ r < 4 := ⟨j / 4, j % 4, by omega, by omega⟩
  have hi : u < l.length := by omega
  rw [List.getElem?_take_of_lt hj, Array.getElem?_toList, flat_at sgV_len l u r hi hr]
  have e : sgAt l u = l[u] := by simp [sgAt, List.getD, hi]
  have h2 := hcl u hi
  rw [e, Nat.mul_comm] at h2
  have : r = 0 ∨ r = 1 ∨ r = 2 ∨ r = 3 := by omega
  rcases this with h | h | h | h
  ·rw [h]; exact h2.1
  ·rw [h]; exact h2.2.1
  ·rw [h]; exact h2.2.2.1
  ·rw [h]; exact h2.2.2.2
 ·rw [List.getElem?_take_eq_none (by omega), List.getElem?_eq_none (by rw [flatG_len]; omega)]
theorem CompactOwnG (g c B : Nat) (l : List Sg) (w : World) (hl : l.length ≤ 1000000000000) (h : w.ownsRow B 37 4 (.slice (some ⟨g, 0, none⟩) l.length c) l.length (l.flatMap sgV)) :
  Calls Tryz.prog 83 #[.slice (some ⟨g, 0, none⟩) l.length c] w fun e w' => e = .returned (.slice (some ⟨g, 0, none⟩) (cmpG l).length c) ∧
   w'.ownsRow B 37 4 (.slice (some ⟨g, 0, none⟩) (cmpG l).length c) (cmpG l).length ((cmpG l).flatMap sgV) ∧ Only g w w' := by
 obtain ⟨h1, h2, h3, hm⟩ := RowG.own h
 refine (CompactS_any g c (c * 4) l w hl h2 h1).mono ?_
 rintro e w' ⟨rfl, hr, ho⟩
 exact ⟨rfl, hr.toOwn (Nat.le_trans (cmpG_le l) h2) hm h3, ho⟩
set_option maxRecDepth 100000 in
set_option maxHeartbeats 4000000 in
theorem edges_any (v : Value) (cs : List (List Pt2)) (w : World) (hv : ChS w v cs) (hlen : cs.length ≤ 1000) (hM : ∀ i, i < cs.length → (chAt cs i).length ≤ 1000001) (hne : edgA cs cs.length ≠ []) :
  Calls Tryz.prog 61 #[v] w fun e w' => ∃ x, e = .returned x ∧ w'.ownsRow w.heap.size 37 4 x (edgL cs).length ((edgL cs).flatMap sgV) ∧ Since w w' := by
 obtain ⟨gv, cv, rfl, hv⟩ := hv
 have HV := Lib.hid hv
 have HNE := Lib.hid hne
 have HLA := Lib.hid (fun k (hk : k ≤ cs.length) => edgA_len hM k hk)
 have HM := Lib.hid hM
 obtain ⟨n, hn⟩ : ∃ n, n = cs.length := ⟨_, rfl⟩
 have HN := Lib.hid hn
 rw [← hn] at HV hlen HLA HM ⊢
 clear hv hne hM hn
 obtain ⟨i0, hi0, hz0, hz1, hz3⟩ := info_parts infoSg
 have HI := Lib.hid hi0
 have HZ := Lib.hid (And.intro hz0 (And.intro hz1 hz3))
 clear hi0 hz0 hz1 hz3
 go_enter Tryz.func61, Tryz.ntmps61
 go_upto_region 3 with fail
 go_loopw [10, 3] (fun v v3 wr => ∃ k : Nat, k ≤ n ∧ v = .int .i64 k ∧ Hid (Since w wr) ∧ Hid (wr.ownsRow w.heap.size 37 4 v3 (edgA cs k).length ((edgA cs k).flatMap sgV))) (fun v _ _ => n - (intOf v).toNat)
 case atStart => exact ⟨0, by omega, rfl, Since.rfl_ w, World.ownsRow_nil _ _ _ _⟩
 case round =>
  obtain ⟨k, hk, rfl, HS, HO⟩ := hrel
  obtain ⟨ar, cr, rfl⟩ := own_slice HO.out
  have hla := HLA.out k (by omega)
  rcases Nat.lt_or_ge k n with hlt | hge
  ·have hz : decide ((k : Int) < (n : Int)) = true := by rw [decide_eq_true_eq]; omega
   obtain ⟨v', hc, ac, cc, rfl, hp⟩ := HV.out k hlt
   have hc := keepC HS.out _ _ hc
   have hcl := HM.out k hlt
   have HSU : Hid (edgA cs (k + 1) = edgA cs k ++ edgC (chAt cs k) ((chAt cs k).length - 1)) := edgA_succ cs k
   obtain ⟨C, HC⟩ : ∃ C, Hid (C = chAt cs k) := ⟨_, rfl⟩
   rw [← HC.out] at hp hcl HSU hc
   have HP := Lib.hid hp
   have i1 : (0 : Int) ≤ (k : Int) := by omega
   have i2 : (k : Int) < (n : Int) := by omega
   obtain ⟨m, hm⟩ : ∃ m, m = C.length := ⟨_, rfl⟩
   have HMM := Lib.hid hm
   rw [← hm] at HP hcl HSU hc
   obtain ⟨A, HA⟩ : ∃ A, Hid (A = edgA cs k) := ⟨_, rfl⟩
   rw [← HA.out] at HSU HO hla ⊢
   have hla2 : A.length ≤ 1000 * 1000000 := Nat.le_trans hla (Nat.mul_le_mul_right _ (by omega))
   have HO0 : Hid (wr.ownsRow w.heap.size 37 4 (.slice ar A.length cr) (A ++ edgC C 0).length ((A ++ edgC C 0).flatMap sgV)) := by
    show World.ownsRow _ _ _ _ _ _ _
    have e : A ++ edgC C 0 = A := by simp [edgC]
    rw [e]; exact HO.out
   clear hp hm HO hla
   go_upto_region 6 with fail
   obtain ⟨wo, HWO⟩ : ∃ wo, wo = wr := ⟨_, rfl⟩
   go_loopw [6, 3] (fun v v3 wr => ∃ i : Nat, 1 ≤ i ∧ (i ≤ m ∨ i = 1) ∧ v = .int .i64 i ∧ Hid (Since w wr) ∧ Hid (wr.ownsRow w.heap.size 37 4 v3 (A ++ edgC C (i - 1)).length ((A ++ edgC C (i - 1)).flatMap sgV))) (fun v _ _ => m - (intOf v).toNat)
   case atStart => exact ⟨1, by omega, .inr rfl, by go_num, HS, by simpa using HO0⟩
   case round =>
    clear HS HO0 HWO
    obtain ⟨i, h1, h2, rfl, HS, HO⟩ := hrel
    obtain ⟨ar, cr, rfl⟩ := own_slice HO.out
    have hil : (A ++ edgC C (i - 1)).length = A.length + (i - 1) := by rw [List.length_append, edgC_len]
    rw [hil] at HO ⊢
    rcases Nat.lt_or_ge i m with hlt2 | hge2
    ·have hz2 : decide ((i : Int) < (m : Int)) = true := by rw [decide_eq_true_eq]; omega
     obtain ⟨j, hj⟩ : ∃ j, i = j + 1 := ⟨i - 1, by omega⟩
     have iw : IntKind.i64.wrap ((i : Int) - 1) = (j : Int) := by
      rw [i64wc, show (i : Int) - 1 = j by omega]
      exact wrap_id (by omega)
     obtain ⟨gc, oc, rfl, p0, p1⟩ := HP.out j (by omega)
     obtain ⟨gc', oc', hgo, q0, q1⟩ := HP.out i hlt2
     injection hgo with hgo
     injection hgo with hg1 hg2
     subst hg1 hg2
     have HES : Hid (edgC C i = edgC C j ++ [ordE (pAt C j) (pAt C i)]) := by show _ = _; rw [hj, edgC_succ]
     obtain ⟨p, hp⟩ : ∃ p, p = pAt C j := ⟨_, rfl⟩
     obtain ⟨q, hq⟩ : ∃ q, q = pAt C i := ⟨_, rfl⟩
     rw [← hp] at p0 p1 HES
     rw [← hq] at q0 q1 HES
     rw [show i - 1 = j by omega] at HO ⊢
     have p0 := keepC HS.out _ _ p0
     have p1 := keepC HS.out _ _ p1
     have q0 := keepC HS.out _ _ q0
     have q1 := keepC HS.out _ _ q1
     have KF := Lib.hid (fun w' (h : Since wr w') => (show w'.cell? ⟨gc, oc + j * 2, none⟩ = some (.int .i64 p.1) ∧ w'.cell? ⟨gc, oc + j * 2 + 1, none⟩ = some (.int .i64 p.2) ∧ w'.cell? ⟨gc, oc + i * 2, none⟩ = some (.int .i64 q.1) ∧ w'.cell? ⟨gc, oc + i * 2 + 1, none⟩ = some (.int .i64 q.2) from ⟨keepC h _ _ p0, keepC h _ _ p1, keepC h _ _ q0, keepC h _ _ q1⟩))
     have j1 : (0 : Int) ≤ (j : Int) := by omega
     have j2 : (j : Int) < (m : Int) := by omega
     have j3 : (0 : Int) ≤ (i : Int) := by omega
     have j4 : (i : Int) < (m : Int) := by omega
     have HIJ := Lib.hid hj
     have HCM := Lib.hid (fun w => Cmp_any p q w)
     clear hp hq p0 p1 q0 q1 hj hc
     obtain ⟨L, HL⟩ : ∃ L, Hid (L = A ++ edgC C j) := ⟨_, rfl⟩
     have HES2 : Hid (A ++ edgC C i = L ++ [ordE p q]) := by show _ = _; rw [HES.out, HL.out, List.append_assoc]
     have hLL : L.length = A.length + j := by rw [HL.out, List.length_append, edgC_len]
     rw [← HL.out, ← hLL] at HO
     rw [← hLL]
     have hLb : L.length ≤ 1000000000 + 1000001 := by omega
     clear hLL hil
     go_upto_region 8 with fail
     apply region_facts 11 (fun w' => Since wr w')
     case hm => kernel_rfl
     case hB => kernel_rfl
     case hS => exact (Since.rfl_ wr).drew
     case h =>
     simp only [List.take_succ_cons, List.take_zero, List.drop_succ_cons, List.drop_zero]
     iterate 10 (apply wpO_det; (case hw => rfl); (case h => intro hFm wx hS_ hF_ K hK; go_big_quiet_op; first | exact hK _ rfl | (apply Exists.intro; refine ⟨fun _ => ?_, ?_⟩; (focus (first | (intro hC; have hC := KF.out _ hC.out.1; (try simp only [hC, Result.andThen]); first | exact ⟨True.intro, rfl⟩ | exact ⟨rfl, rfl⟩ | rfl))); exact hK _ rfl)); (case' k => simp only [Act.put, List.setIfInBounds_toArray, List.set_cons_succ, List.set_cons_zero, List.cons_append, List.nil_append]))
     apply wpO_mk (f := fun g => .pointer (some ⟨g, 0, none⟩)) (t := 37) (cs := #[.int .i64 0, .int .i64 0, .int .i64 0, .int .i64 0])
     case hi => (intro g g' h; simpa using h)
     case hw => rfl
     case h => (intro w; simp [go_sem])
     case k =>
     intro gs
     simp only [Act.put, List.setIfInBounds_toArray, List.set_cons_succ, List.set_cons_zero, List.cons_append, List.nil_append]
     refine wpO_nil ?_
     intro w1 hS hF hB
     (try simp [allF] at hF)
     (try simp [List.pairwise_cons] at hB)
     have hb := hF.1
     have hgs : w.heap.size ≤ gs := Nat.le_trans HS.out.size hF.2
     have HS1 := Lib.hid (HS.out.trans hS)
     have HO1 := Lib.hid (own_since hS HO.out)
     have hng : (Value.slice ar L.length cr).ownBlock ≠ some gs := fun e => by have := (HO.out.lt gs e).2; have := hF.2; omega
     have z_0 := hb.cell 0
     have z_1 := hb.cell 1
     have z_2 := hb.cell 2
     have z_3 := hb.cell 3
     simp only [List.getElem?_toArray, List.getElem?_cons_zero, List.getElem?_cons_succ] at z_0 z_1 z_2 z_3
     have f0 := hb.frozen 0
     have f1 := hb.frozen 1
     have f2 := hb.frozen 2
     have f3 := hb.frozen 3
     have HB1 := Lib.hid hb
     clear hb hF hS hB HS HO KF
     go_upto_region 9 with fail
     refine atW (fun w' => Hid (Since w w') ∧ Hid (w'.ownsRow w.heap.size 37 4 (.slice ar L.length cr) L.length (L.flatMap sgV)) ∧ Blk w' gs 37 #[.int .i64 p.1, .int .i64 p.2, .int .i64 q.1, .int .i64 q.2]) ⟨(((HS1.out.setCell (p := ⟨gs, 0, none⟩) hgs _).setCell (p := ⟨gs, 1, none⟩) hgs _).setCell (p := ⟨gs, 2, none⟩) hgs _).setCell (p := ⟨gs, 3, none⟩) hgs _,
      own_far (p := ⟨gs, 3, none⟩) (own_far (p := ⟨gs, 2, none⟩) (own_far (p := ⟨gs, 1, none⟩) (own_far (p := ⟨gs, 0, none⟩) HO1.out (Ne.symm hng) _) (Ne.symm hng) _) (Ne.symm hng) _) (Ne.symm hng) _, (((HB1.out.set_ 0 (.int .i64 p.1)).set_ 1 (.int .i64 p.2)).set_ 2 (.int .i64 q.1)).set_ 3 (.int .i64 q.2)⟩ ?_
     clear HS1 HO1 HB1 z_0 z_1 z_2 z_3 f0 f1 f2 f3
     rintro w2 ⟨HS2, HO2, hb⟩
     have c_0 := hb.cell 0
     have c_1 := hb.cell 1
     have c_2 := hb.cell 2
     have c_3 := hb.cell 3
     simp only [List.getElem?_toArray, List.getElem?_cons_zero, List.getElem?_cons_succ] at c_0 c_1 c_2 c_3
     have HB2 := Lib.hid hb
     clear hb
     go_wp2_with fail
     refine (HCM.out _).mono ?_
     rintro e w3 ⟨rfl, hq⟩
     have hs : Since w2 w3 := by
      obtain ⟨n1, os, rfl⟩ := hq
      exact grown_since _ _ _
     have HS3 := Lib.hid (HS2.out.trans hs)
     have HO3 := Lib.hid (own_since hs HO2.out)
     have hb := hs.blk HB2.out
     have d_0 := hb.cell 0
     have d_1 := hb.cell 1
     have d_2 := hb.cell 2
     have d_3 := hb.cell 3
     simp only [List.getElem?_toArray, List.getElem?_cons_zero, List.getElem?_cons_succ] at d_0 d_1 d_2 d_3
     have f0 := hb.frozen 0
     have f1 := hb.frozen 1
     have f2 := hb.frozen 2
     have f3 := hb.frozen 3
     have HB3 := Lib.hid hb
     obtain ⟨cv1, HCV⟩ : ∃ c, Hid (c = cmpP p q) := ⟨_, rfl⟩
     rw [← HCV.out]
     clear hb hs hq HS2 HO2 HB2 c_0 c_1 c_2 c_3
     by_cases hsw : 0 < cv1
     ·have hd : decide (0 < cv1) = true := by rw [decide_eq_true_eq]; exact hsw
      have HE : Hid (ordE p q = (q, p)) := by show _ = _; unfold ordE; rw [← HCV.out, if_pos hsw]
      clear hsw
      rw [HE.out] at HES2
      go_upto_region 11 with fail
      refine atW (fun w' => Hid (Since w w') ∧ Hid (w'.ownsRow w.heap.size 37 4 (.slice ar L.length cr) L.length (L.flatMap sgV)) ∧ Blk w' gs 37 #[.int .i64 q.1, .int .i64 q.2, .int .i64 p.1, .int .i64 p.2]) ⟨(((HS3.out.setCell (p := ⟨gs, 0, none⟩) hgs _).setCell (p := ⟨gs, 1, none⟩) hgs _).setCell (p := ⟨gs, 2, none⟩) hgs _).setCell (p := ⟨gs, 3, none⟩) hgs _,
       own_far (p := ⟨gs, 3, none⟩) (own_far (p := ⟨gs, 2, none⟩) (own_far (p := ⟨gs, 1, none⟩) (own_far (p := ⟨gs, 0, none⟩) HO3.out (Ne.symm hng) _) (Ne.symm hng) _) (Ne.symm hng) _) (Ne.symm hng) _, (((HB3.out.set_ 0 (.int .i64 q.1)).set_ 1 (.int .i64 q.2)).set_ 2 (.int .i64 p.1)).set_ 3 (.int .i64 p.2)⟩ ?_
      clear HS3 HO3 HB3 d_0 d_1 d_2 d_3 f0 f1 f2 f3
      rintro w4 ⟨HS4, HO4, hb⟩
      have e_0 := hb.cell 0
      have e_1 := hb.cell 1
      have e_2 := hb.cell 2
      have e_3 := hb.cell 3
      simp only [List.getElem?_toArray, List.getElem?_cons_zero, List.getElem?_cons_succ] at e_0 e_1 e_2 e_3
      clear hb
      go_wp2_with (at_builtin; refine wpList_append_own _ rfl _ _ 27 rfl w.heap.size 37 i0 _ 4 32 Tryz.underlying27 HI.out HZ.out.1 HZ.out.2.1 HZ.out.2.2 rfl (by decide) _ _ _ rfl (own_since ((Since.rfl_ w4).alloc _) HO4.out) _ _ _ [.int .i64 q.1, .int .i64 q.2, .int .i64 p.1, .int .i64 p.2] rfl rfl (cell4_new _ _ _ _ _ _) (one4 _ _ _ _ _ _ _ _) (by unfold maxLen; omega) (by omega) (by simp only [World.size_alloc]; have := HS4.out.size; omega) ?_)
      intro v' w' hown hgrow _
      obtain ⟨ao', co', rfl⟩ := own_slice hown
      have hA := (Since.rfl_ w4).alloc (.cells #[.int .i64 q.1, .int .i64 q.2, .int .i64 p.1, .int .i64 p.2] 37)
      have hoA := own_since hA HO4.out
      have HS5 : Hid (Since w w') := ((HS4.out.alloc (.cells #[.int .i64 q.1, .int .i64 q.2, .int .i64 p.1, .int .i64 p.2] 37))).grown hgrow (by simp only [World.size_alloc]; have := HS4.out.size; omega) fun k hk => (hoA.lt k hk).1
      have HO5 : Hid (w'.ownsRow w.heap.size 37 4 (.slice ao' (L.length + 1) co') (A ++ edgC C (i + 1 - 1)).length ((A ++ edgC C (i + 1 - 1)).flatMap sgV)) := by
       show World.ownsRow _ _ _ _ _ _ _
       rw [Nat.add_sub_cancel, HES2.out, List.flatMap_append, List.length_append]
       exact hown
      clear hown hgrow hA hoA HS4 HO4 e_0 e_1 e_2 e_3
      go_wp2_with fail
      go_roundw
      case rel => exact ⟨i + 1, by omega, .inl (by omega), by go_num, HS5, HO5⟩
      case measure => simp [intOf]; omega
     ·have hd : decide (0 < cv1) = false := by rw [decide_eq_false_iff_not]; exact hsw
      have HE : Hid (ordE p q = (p, q)) := by show _ = _; unfold ordE; rw [← HCV.out, if_neg hsw]
      clear hsw
      rw [HE.out] at HES2
      go_upto_region 11 with fail
      have HS4 := HS3
      have HO4 := HO3
      have hb := HB3.out
      clear HS3 HO3 HB3 d_0 d_1 d_2 d_3 f0 f1 f2 f3
      have e_0 := hb.cell 0
      have e_1 := hb.cell 1
      have e_2 := hb.cell 2
      have e_3 := hb.cell 3
      simp only [List.getElem?_toArray, List.getElem?_cons_zero, List.getElem?_cons_succ] at e_0 e_1 e_2 e_3
      clear hb
      go_wp2_with (at_builtin; refine wpList_append_own _ rfl _ _ 27 rfl w.heap.size 37 i0 _ 4 32 Tryz.underlying27 HI.out HZ.out.1 HZ.out.2.1 HZ.out.2.2 rfl (by decide) _ _ _ rfl (own_since ((Since.rfl_ w3).alloc _) HO4.out) _ _ _ [.int .i64 p.1, .int .i64 p.2, .int .i64 q.1, .int .i64 q.2] rfl rfl (cell4_new _ _ _ _ _ _) (one4 _ _ _ _ _ _ _ _) (by unfold maxLen; omega) (by omega) (by simp only [World.size_alloc]; have := HS4.out.size; omega) ?_)
      intro v' w' hown hgrow _
      obtain ⟨ao', co', rfl⟩ := own_slice hown
      have hA := (Since.rfl_ w3).alloc (.cells #[.int .i64 p.1, .int .i64 p.2, .int .i64 q.1, .int .i64 q.2] 37)
      have hoA := own_since hA HO4.out
      have HS5 : Hid (Since w w') := ((HS4.out.alloc (.cells #[.int .i64 p.1, .int .i64 p.2, .int .i64 q.1, .int .i64 q.2] 37))).grown hgrow (by simp only [World.size_alloc]; have := HS4.out.size; omega) fun k hk => (hoA.lt k hk).1
      have HO5 : Hid (w'.ownsRow w.heap.size 37 4 (.slice ao' (L.length + 1) co') (A ++ edgC C (i + 1 - 1)).length ((A ++ edgC C (i + 1 - 1)).flatMap sgV)) := by
       show World.ownsRow _ _ _ _ _ _ _
       rw [Nat.add_sub_cancel, HES2.out, List.flatMap_append, List.length_append]
       exact hown
      clear hown hgrow hA hoA HS4 HO4 e_0 e_1 e_2 e_3
      go_wp2_with fail
      go_roundw
      case rel => exact ⟨i + 1, by omega, .inl (by omega), by go_num, HS5, HO5⟩
      case measure => simp [intOf]; omega
    ·have hz2 : decide ((i : Int) < (m : Int)) = false := by rw [decide_eq_false_iff_not]; omega
     have HIL := Lib.hid hil
     have HR9 : Hid (wr.ownsRow w.heap.size 37 4 (.slice ar (A.length + (i - 1)) cr) (edgA cs (k + 1)).length ((edgA cs (k + 1)).flatMap sgV)) := by
      show World.ownsRow _ _ _ _ _ _ _
      have e : i - 1 = m - 1 := by omega
      rw [HSU.out, ← e, hil]; exact HO.out
     have hle : (edgA cs (k + 1)).length = A.length + (i - 1) := by
      have e : i - 1 = m - 1 := by omega
      rw [HSU.out, ← e, hil]
     have HLEE := Lib.hid hle
     clear HO hle hil
     go_wp2_with fail
     go_roundw
     case rel => exact ⟨k + 1, by omega, by go_num, HS, HR9⟩
     case measure => simp [intOf]; omega
  ·obtain rfl : k = n := by omega
   have hz : decide ((k : Int) < (k : Int)) = false := by rw [decide_eq_false_iff_not]; omega
   obtain ⟨A, HA⟩ : ∃ A, Hid (A = edgA cs k) := ⟨_, rfl⟩
   rw [← HA.out] at HO hla ⊢
   have HNA : Hid (A = edgA cs cs.length) := by show _ = _; rw [HA.out, HN.out]
   have h0 : 0 < A.length := by rw [HNA.out]; exact List.length_pos_iff.2 HNE.out
   have hla2 : A.length ≤ 1000 * 1000000 := Nat.le_trans hla (Nat.mul_le_mul_right _ (by omega))
   have HLE : Hid (edgL cs = cmpG (srtG A)) := by show _ = _; unfold edgL; rw [HNA.out]
   have hsl : (srtG A).length = A.length := by unfold srtG; simp
   obtain ⟨gg, cc, hgc⟩ := own_some HO.out h0
   injection hgc with h1 _ h2
   subst h1 h2
   have HSO := Lib.hid (sortG_any gg cr A.length w.heap.size A wr HO.out rfl (by omega))
   have hB := (HO.out.lt gg rfl).1
   clear HO hla
   go_wp2_with fail
   refine (HSO.out).mono ?_
   rintro e w3 ⟨rfl, ho, hs⟩
   have HS3 := Lib.hid (Only.since HS.out hs hB)
   have HC := Lib.hid (CompactOwnG gg cr w.heap.size (srtG A) w3 (by omega) (by rw [hsl]; exact ho))
   rw [hsl, ← HLE.out] at HC
   clear ho hs HSO HS hsl
   go_wp2_with fail
   refine (HC.out).mono ?_
   rintro e w4 ⟨rfl, ho, hs⟩
   have HS4 := Lib.hid (Only.since HS3.out hs hB)
   have HO4 := Lib.hid ho
   clear ho hs HC HS3
   go_wp2_with fail
   go_ret
   exact ⟨_, rfl, HO4.out, HS4.out⟩
end
section
open Go.RowKit Go.BigFrame
attribute [local go_sem ↓] eqPt neqPt
def metB (a b p : Pt2) : Bool := meetsV a.1 a.2 b.1 b.2 p.1 p.2
def metL (a b : Pt2) (H : List Pt2) (k : Nat) : List Pt2 := (H.take k).filter (metB a b)
theorem metL_succ {a b : Pt2} {H : List Pt2} {k : Nat} (hk : k < H.length) : metL a b H (k + 1) = if metB a b (pAt H k) = true then metL a b H k ++ [pAt H k] else metL a b H k := by
 unfold metL
 have e : pAt H k = H[k] := by simp [pAt, List.getD, hk]
 rw [List.take_succ_eq_append_getElem hk, List.filter_append, e]
 cases h : metB a b H[k] <;> simp [h]
theorem metL_len (a b : Pt2) (H : List Pt2) (k : Nat) : (metL a b H k).length ≤ H.length := by
 unfold metL
 have := List.length_filter_le (metB a b) (H.take k)
 have := List.length_take_le' k H
 omega
def Thru (a b : Pt2) (H l : List Pt2) : Prop := l.Perm (H.filter (metB a b)) ∧ l.Pairwise fun x y => 0 ≤ dirV a b y x
set_option maxRecDepth 100000 in
set_option maxHeartbeats 4000000 in
theorem through_any {a b : Pt2} (ha : okP a.1 a.2 = true) (hb : okP b.1 b.2 = true) (v : Value) (H : List Pt2) (w : World) (hv : PtsS w v H) (hH : ∀ p ∈ H, okP p.1 p.2 = true) (hlen : H.length ≤ 1000) (hne : H.filter (metB a b) ≠ []) :
  Calls Tryz.prog 81 #[.agg #[.int .i64 a.1, .int .i64 a.2], .agg #[.int .i64 b.1, .int .i64 b.2], v] w fun e w' => ∃ x l, e = .returned x ∧ Thru a b H l ∧ w'.ownsRow w.heap.size 36 2 x l.length (l.flatMap ptV) ∧ Since w w' := by
 obtain ⟨av, cv, rfl, hv⟩ := hv
 have HV := Lib.hid hv
 have HH := Lib.hid hH
 have HNE := Lib.hid hne
 have HA := Lib.hid (And.intro ha hb)
 obtain ⟨n, hn⟩ : ∃ n, n = H.length := ⟨_, rfl⟩
 have HN := Lib.hid hn
 rw [← hn] at HV hlen ⊢
 clear hv hH hne ha hb hn
 go_enter Tryz.func81, Tryz.ntmps81
 go_upto_region 3 with fail
 obtain ⟨G, HG⟩ : ∃ G, G = w.heap.size := ⟨_, rfl⟩
 rw [← HG]
 refine atW (fun w' => Hid (Since w w' ∧ Blk w' G 36 #[.int .i64 a.1, .int .i64 a.2] ∧ Blk w' (G + 1) 36 #[.int .i64 b.1, .int .i64 b.2]) ∧ G + 2 ≤ w'.heap.size) ⟨⟨((Since.rfl_ w).alloc _).alloc _, (Blk.new' HG).alloc _, Blk.new' (by simp [HG])⟩, by simp [HG]⟩ ?_
 have HGG := Lib.hid HG
 clear HG
 rintro w1 ⟨HS1, hs1⟩
 go_loopw [12, 7] (fun v v7 wr => ∃ k : Nat, k ≤ n ∧ v = .int .i64 k ∧ Hid (Since w wr ∧ Blk wr G 36 #[.int .i64 a.1, .int .i64 a.2] ∧ Blk wr (G + 1) 36 #[.int .i64 b.1, .int .i64 b.2]) ∧ Hid (wr.ownsRow (G + 2) 36 2 v7 (metL a b H k).length ((metL a b H k).flatMap ptV)) ∧ G + 2 ≤ wr.heap.size) (fun v _ _ => n - (intOf v).toNat)
 case atStart => exact ⟨0, by omega, rfl, HS1, World.ownsRow_nil _ _ _ _, hs1⟩
 case round =>
  clear HS1 hs1
  obtain ⟨k, hk, rfl, HS, HO, hs⟩ := hrel
  obtain ⟨ar, cr, rfl⟩ := own_slice HO.out
  have hml := metL_len a b H k
  rw [← HN.out] at hml
  rcases Nat.lt_or_ge k n with hlt | hge
  ·have hz : decide ((k : Int) < (n : Int)) = true := by rw [decide_eq_true_eq]; omega
   obtain ⟨g, o, rfl, e0, e1⟩ := HV.out k hlt
   obtain ⟨p, hp⟩ : ∃ p, p = pAt H k := ⟨_, rfl⟩
   have HPE := Lib.hid hp
   have hsucc := metL_succ (a := a) (b := b) (H := H) (k := k) (by rw [← HN.out]; exact hlt)
   rw [← hp] at e0 e1 hsucc
   have HSU := Lib.hid hsucc
   have e0 := keepC HS.out.1 _ _ e0
   have e1 := keepC HS.out.1 _ _ e1
   have i1 : (0 : Int) ≤ (k : Int) := by omega
   have i2 : (k : Int) < (n : Int) := by omega
   clear hp hsucc
   obtain ⟨M, HM⟩ : ∃ M, Hid (M = metL a b H k) := ⟨_, rfl⟩
   rw [← HM.out] at HO HSU hml ⊢
   go_upto_region 5 with fail
   obtain ⟨gp, HG⟩ : ∃ gp, gp = wr.heap.size := ⟨_, rfl⟩
   rw [← HG]
   refine atW (fun w' => Hid (Since w w' ∧ Blk w' G 36 #[.int .i64 a.1, .int .i64 a.2] ∧ Blk w' (G + 1) 36 #[.int .i64 b.1, .int .i64 b.2]) ∧ Hid (w'.ownsRow (G + 2) 36 2 (.slice ar M.length cr) M.length (M.flatMap ptV)) ∧ Blk w' gp 36 #[.int .i64 p.1, .int .i64 p.2] ∧ G + 2 ≤ w'.heap.size) ⟨⟨HS.out.1.alloc _, HS.out.2.1.alloc _, HS.out.2.2.alloc _⟩, HO.out.alloc _, Blk.new' HG, by simp only [World.size_alloc]; omega⟩ ?_
   clear HS HO hs e0 e1 HG
   rintro w2 ⟨HS2, HO2, hb2, hs2⟩
   have a0 : w2.cell? ⟨G, 0, none⟩ = some (.int .i64 a.1) := HS2.out.2.1.cell 0
   have a1 : w2.cell? ⟨G, 1, none⟩ = some (.int .i64 a.2) := HS2.out.2.1.cell 1
   have b0 : w2.cell? ⟨G + 1, 0, none⟩ = some (.int .i64 b.1) := HS2.out.2.2.cell 0
   have b1 : w2.cell? ⟨G + 1, 1, none⟩ = some (.int .i64 b.2) := HS2.out.2.2.cell 1
   have p0 : w2.cell? ⟨gp, 0, none⟩ = some (.int .i64 p.1) := hb2.cell 0
   have p1 : w2.cell? ⟨gp, 1, none⟩ = some (.int .i64 p.2) := hb2.cell 1
   have HP2 := Lib.hid hb2
   clear hb2
   have HMT : Hid (∀ w, Calls Tryz.prog 102 #[.agg #[.int .i64 a.1, .int .i64 a.2], .agg #[.int .i64 b.1, .int .i64 b.2], .agg #[.int .i64 p.1, .int .i64 p.2]] w fun e w' => e = .returned (.bool (metB a b p)) ∧ Since w w') := fun w => by
    have h := Meets_any a.1 a.2 b.1 b.2 p.1 p.2 w
    have hpo : okP p.1 p.2 = true := by rw [HPE.out]; exact HH.out _ (pAt_mem (by rw [← HN.out]; exact hlt))
    rw [(clamp_id HA.out.1).1, (clamp_id HA.out.1).2, (clamp_id HA.out.2).1, (clamp_id HA.out.2).2, (clamp_id hpo).1, (clamp_id hpo).2] at h
    exact h
   go_wp2_with fail
   refine (HMT.out _).mono ?_
   rintro e w3 ⟨rfl, hs⟩
   have HS3 := Lib.hid (And.intro (HS2.out.1.trans hs) (And.intro (hs.blk HS2.out.2.1) (hs.blk HS2.out.2.2)))
   have HO3 := Lib.hid (own_since hs HO2.out)
   have hs3 : G + 2 ≤ w3.heap.size := Nat.le_trans hs2 hs.size
   have c0 : w3.cell? ⟨gp, 0, none⟩ = some (.int .i64 p.1) := keepC hs _ _ p0
   have c1 : w3.cell? ⟨gp, 1, none⟩ = some (.int .i64 p.2) := keepC hs _ _ p1
   clear hs HS2 HO2 hs2 HP2 a0 a1 b0 b1 p0 p1 HMT
   cases hm : metB a b p
   ·have HE : Hid (metL a b H (k + 1) = M) := by show _ = _; rw [HSU.out, if_neg (by rw [hm]; simp)]
    clear hm
    rw [← HE.out] at HO3
    go_wp2_with fail
    go_roundw
    case rel => exact ⟨k + 1, by omega, by go_num, HS3, by rw [HE.out] at HO3 ⊢; exact HO3, hs3⟩
    case measure => simp [intOf]; omega
   ·have HE : Hid (metL a b H (k + 1) = M ++ [p]) := by show _ = _; rw [HSU.out, if_pos hm]
    clear hm
    obtain ⟨i0, hi0, hz0, hz1, hz3⟩ := info_parts infoPt
    have HI := Lib.hid hi0
    have HZ := Lib.hid (And.intro hz0 (And.intro hz1 hz3))
    clear hi0 hz0 hz1 hz3
    go_wp2_with (at_builtin; refine wpList_append_own _ rfl _ _ 23 rfl (G + 2) 36 i0 _ 2 16 Tryz.underlying23 HI.out HZ.out.1 HZ.out.2.1 HZ.out.2.2 rfl (by decide) _ _ _ rfl (own_since ((Since.rfl_ w3).alloc _) HO3.out) _ _ _ [.int .i64 p.1, .int .i64 p.2] rfl rfl (cell2_new _ _ _ _) (one2 _ _ _ _) (by unfold maxLen; omega) (by omega) (by simp only [World.size_alloc]; omega) ?_)
    intro v' w' hown hgrow _
    obtain ⟨ao', co', rfl⟩ := own_slice hown
    have hA := (Since.rfl_ w3).alloc (.cells #[.int .i64 p.1, .int .i64 p.2] 36)
    have hoA := own_since hA HO3.out
    have hS4 : Since w w' := ((HS3.out.1.alloc (.cells #[.int .i64 p.1, .int .i64 p.2] 36))).grown hgrow (by simp only [World.size_alloc]; have := HS3.out.1.size; omega) fun k hk => by have := (hoA.lt k hk).1; have := HGG.out; omega
    have HS4 := Lib.hid (And.intro hS4 (And.intro ((hgrow.block _ (hA.blk HS3.out.2.1).lt (own_ne hoA (by omega))).trans (hA.blk HS3.out.2.1)) ((hgrow.block _ (hA.blk HS3.out.2.2).lt (own_ne hoA (by omega))).trans (hA.blk HS3.out.2.2))))
    have HLE : (M ++ [p]).length = M.length + 1 := by simp
    have HO4 : Hid (w'.ownsRow (G + 2) 36 2 (.slice ao' (M.length + 1) co') (metL a b H (k + 1)).length ((metL a b H (k + 1)).flatMap ptV)) := by
     show World.ownsRow _ _ _ _ _ _ _
     rw [HE.out, List.flatMap_append, List.length_append]
     exact hown
    have hs4 : G + 2 ≤ w'.heap.size := Nat.le_trans hs3 (Nat.le_trans hA.size hgrow.size)
    clear hown hgrow hA hoA HS3 HO3 hs3 c0 c1 HI HZ hS4
    go_wp2_with fail
    go_roundw
    case rel => exact ⟨k + 1, by omega, by go_num, HS4, HO4, hs4⟩
    case measure => simp [intOf]; omega
  ·obtain rfl : k = n := by omega
   have hz : decide ((k : Int) < (k : Int)) = false := by rw [decide_eq_false_iff_not]; omega
   have HE : Hid (metL a b H k = H.filter (metB a b)) := by show _ = _; unfold metL; rw [HN.out, List.take_length]
   obtain ⟨m, HM⟩ : ∃ m, Hid (m = (metL a b H k).length) := ⟨_, rfl⟩
   have hm0 : 0 < m := by rw [HM.out, HE.out]; exact List.length_pos_iff.2 HNE.out
   rw [← HM.out] at HO hml ⊢
   obtain ⟨gg, cc, hgc⟩ := own_some HO.out hm0
   injection hgc with h1 _ h2
   subst h1 h2
   have hB := (HO.out.lt gg rfl).1
   have HSO := Lib.hid (dir_sort HA.out.1 HA.out.2 G (G + 1) gg cr m (G + 2) (metL a b H k) wr HO.out HM.out (by omega) (fun p hp => by rw [HE.out] at hp; exact HH.out p (List.mem_filter.1 hp).1) HS.out.2.1 HS.out.2.2 (by omega) (by omega))
   clear HO
   go_wp2_with fail
   refine (HSO.out).mono ?_
   rintro e w3 ⟨rfl, hso, l, hpl, hsl, ho⟩
   have HS3 := Lib.hid (Only.since HS.out.1 hso (by have := HGG.out; omega))
   have HT : Hid (Thru a b H l) := ⟨by rw [← HE.out]; exact hpl, hsl⟩
   have HLL : Hid (l.length = m) := hpl.length_eq.trans HM.out.symm
   have HO3 := Lib.hid ho
   clear ho hso hsl hpl HSO HS
   go_wp2_with fail
   go_ret
   refine ⟨_, l, rfl, HT.out, ?_, HS3.out⟩
   rw [HLL.out]
   exact HO3.out.mono (by have := HGG.out; omega)
end
section
open Go.RowKit Go.BigFrame
def thrL (a b : Pt2) (H : List Pt2) : List Pt2 := (H.filter (metB a b)).mergeSort fun x y => !decide (dirV a b y x < 0)
def nextG (H c : List Pt2) (n : Nat) : List Pt2 := (List.range n).flatMap fun i => (thrL (pAt c i) (pAt c (i + 1)) H).tail
def nextC (H c : List Pt2) : List Pt2 := pAt c 0 :: nextG H c (c.length - 1)
def stepC (cs : List (List Pt2)) : List (List Pt2) := cs.map (nextC (hotL (edgL cs)))
def iterC : Nat → List (List Pt2) → List (List Pt2)
 | 0, cs => cs
 | n + 1, cs => stepC (iterC n cs)
theorem nextG_succ (H c : List Pt2) (n : Nat) : nextG H c (n + 1) = nextG H c n ++ (thrL (pAt c n) (pAt c (n + 1)) H).tail := by unfold nextG; rw [List.range_succ, List.flatMap_append]; simp
structure StepOk (cs : List (List Pt2)) : Prop where
 ne : cs ≠ []
 n : cs.length ≤ 1000
 len : ∀ i, i < cs.length → 2 ≤ (chAt cs i).length ∧ (chAt cs i).length ≤ 10000
 ok : ∀ i, i < cs.length → ∀ p ∈ chAt cs i, okP p.1 p.2 = true
 el : (edgL cs).length ≤ 100000
 ene : edgL cs ≠ []
 eok : ∀ s ∈ edgL cs, SgOk s
 cap : (hotL (edgL cs)).length ≤ 1000
 hok : ∀ p ∈ hotL (edgL cs), okP p.1 p.2 = true
 two : ∀ i, i < cs.length → ∀ k, k + 1 < (chAt cs i).length → 2 ≤ (thrL (pAt (chAt cs i) k) (pAt (chAt cs i) (k + 1)) (hotL (edgL cs))).length
 one : ∀ i, i < cs.length → ∀ k, k + 1 < (chAt cs i).length → ∀ l, Thru (pAt (chAt cs i) k) (pAt (chAt cs i) (k + 1)) (hotL (edgL cs)) l → l = thrL (pAt (chAt cs i) k) (pAt (chAt cs i) (k + 1)) (hotL (edgL cs))
 nx : ∀ i, i < cs.length → ∀ k, k < (chAt cs i).length → (nextG (hotL (edgL cs)) (chAt cs i) k).length ≤ 100000
def lensC (cs : List (List Pt2)) : List Nat := cs.map List.length
structure RunC (cs : List (List Pt2)) (N : Nat) : Prop where
 good : ∀ k, k ≤ N → StepOk (iterC k cs)
 more : ∀ k, k < N → lensC (iterC (k + 1) cs) ≠ lensC (iterC k cs)
 last : lensC (iterC (N + 1) cs) = lensC (iterC N cs)
def NxS (w : World) (B : Nat) (v : Value) (l : List Pt2) : Prop :=
 (∃ g p, v = .slice (some ⟨g, 0, none⟩) 1 1 ∧ l = [p] ∧ g < B ∧ w.cell? ⟨g, 0, none⟩ = some (.int .i64 p.1) ∧ w.cell? ⟨g, 1, none⟩ = some (.int .i64 p.2)) ∨ w.ownsRow B 36 2 v l.length (l.flatMap ptV)
theorem NxS.slice {w : World} {B : Nat} {v : Value} {l : List Pt2} (h : NxS w B v l) : ∃ a c, v = .slice a l.length c := by
 rcases h with ⟨g, p, hv, hl, -⟩ | h
 ·exact ⟨_, 1, by rw [hv, hl]; rfl⟩
 ·exact own_slice h
theorem NxS.since {w w' : World} {B : Nat} {v : Value} {l : List Pt2} (h : NxS w B v l) (hs : Since w w') : NxS w' B v l := by
 rcases h with ⟨g, p, hv, hl, hg, h1, h2⟩ | h
 ·exact .inl ⟨g, p, hv, hl, hg, keepC hs _ _ h1, keepC hs _ _ h2⟩
 ·exact .inr (own_since hs h)
theorem ptV_onec (l : List Pt2) : ∀ u ∈ l.flatMap ptV, u.oneCell' = true := by
 intro u hu
 obtain ⟨p, -, hp⟩ := List.mem_flatMap.1 hu
 exact ptV_one p u hp
theorem run_append_next {w : World} {B : Nat} {v : Value} {l m : List Pt2} (ty : TypeId) (h : NxS w B v l) (hB : B ≤ w.heap.size) (a : Addr) (c : Nat) (hm : 0 < m.length) (hml : l.length + m.length ≤ 1000000000) (hnews : ∀ j u, (m.flatMap ptV)[j]? = some u → w.cell? (a.add j) = some u) :
  ∃ v' w', (Builtin.append_ #[23, 23] ty #[v, .slice (some a) m.length c]).run Tryz.prog w = .ok v' w' ∧ w'.ownsRow B 36 2 v' (l.length + m.length) ((l ++ m).flatMap ptV) ∧ ∀ w0, Since w0 w → w0.heap.size ≤ B → Since w0 w' := by
 obtain ⟨i0, hi, hz, hz1, hz2⟩ := info_parts infoPt
 rcases h with ⟨g, p, rfl, rfl, hg, h1, h2⟩ | h
 ·have hr := run_append_grow (P := Tryz.prog) w 23 ty 36 i0 _ Tryz.underlying23 hi hz ⟨g, 0, none⟩ 1 1 (ptV p) (by rw [hz1]; rfl) (fun j u hj => by
   rcases j with _ | _ | j
   ·simp [ptV] at hj; rw [← hj]; exact h1
   ·simp [ptV] at hj; rw [← hj]; exact h2
   ·simp [ptV] at hj) a m.length c (m.flatMap ptV) (by rw [hz1, flatP_len]) hnews (by omega) (by simp only [List.length_singleton] at hml; omega) (by
    rw [hz2]
    refine growslice_fits (by omega) ?_
    simp only [List.length_singleton] at hml; omega)
  refine ⟨_, _, hr, ?_, fun w0 hs hb => ?_⟩
  ·have hge := grownCap_ge w (1 + m.length) 1 36
   have hcm : grownCap w (1 + m.length) 1 36 ≤ maxLen := grownCap_le_maxLen w (1 + m.length) 1 36 (by simp only [List.length_singleton] at hml; unfold maxLen; omega)
   refine ⟨by rw [flatP_len, List.length_append], .inr ⟨w.heap.size, _, _, rfl, hB, heap_alloc_new w.drew _, hge, hcm, ?_, ?_⟩⟩
   ·simp only [Array.size_append, List.size_toArray, size_zeroCells, flatP_len, ptV_len, show (Value.agg #[Value.int IntKind.i64 0, Value.int IntKind.i64 0]).cells.size = 2 from rfl]
    omega
   ·rw [List.flatMap_append]
    have e : (ptV p) = [p].flatMap ptV := by simp
    rw [e]
    simp only [Array.toList_append, List.append_assoc]
    rw [← List.append_assoc]
    refine List.take_left' ?_
    rw [List.length_append, flatP_len, flatP_len]
    simp only [List.length_singleton]; omega
  ·exact ((hs.drew).alloc _)
 ·obtain ⟨v', w', hr, h1, h2, -⟩ := run_append_own (P := Tryz.prog) w B 23 ty 36 i0 _ 2 16 Tryz.underlying23 hi hz hz1 hz2 rfl (by decide) v l.length (l.flatMap ptV) h a m.length c (m.flatMap ptV) (flatP_len m) hnews (ptV_onec m) (by unfold maxLen; omega) (by omega) hB
  exact ⟨v', w', hr, by rw [List.flatMap_append]; exact h1, fun w0 hs hb => hs.grown h2 (by have := hs.size; omega) fun k hk => by have := (h.lt k hk).1; omega⟩
theorem wpList_append_eq {w w' : World} {ops : Array Oper} {rest : List Oper} {o : Oper} {a : Act} {Q : Exit → Act → World → Prop} (hgd : o.guard = none) (s x : Operand)
  (ho : o.op = .call { callee := .builtin .append, args := #[s, x], argTypes := #[23, 23] }) {v u v' : Value} (hs : a.eval s = v) (hx : a.eval x = u)
  (hr : (Builtin.append_ #[23, 23] o.type #[v, u]).run Tryz.prog w = .ok v' w') (h : wpList Tryz.prog ops Q rest (a.put o.dst v') w') : wpList Tryz.prog ops Q (o :: rest) a w := by
 refine wpList_plain hgd fun _ hK => ?_
 unfold Oper.wp execOp
 simp only [ho, resolve, invoke, builtin, Sem.run_bind, Sem.run_pure, Result.andThen_ok, List.map_toArray, List.map_cons, List.map_nil, hs, hx, hr]
 exact hK _ _ h
end
section
open Go.RowKit Go.BigFrame
attribute [local go_sem ↓] eqPt neqPt
def SlP (w : World) (v : Value) (c : List Pt2) (g5 : Nat) : Prop :=
 ∃ g cap, v = .slice (some ⟨g, 0, none⟩) c.length cap ∧ c.length ≤ cap ∧ g5 < g ∧ g < w.heap.size ∧ ∀ j, j < c.length → w.cell? ⟨g, j * 2, none⟩ = some (.int .i64 (pAt c j).1) ∧ w.cell? ⟨g, j * 2 + 1, none⟩ = some (.int .i64 (pAt c j).2)
theorem SlP.pts {w : World} {v : Value} {c : List Pt2} {g5 : Nat} (h : SlP w v c g5) : PtsS w v c := by
 obtain ⟨g, cap, rfl, -, -, -, h⟩ := h
 exact ⟨_, _, rfl, fun i hi => ⟨g, 0, rfl, by rw [Nat.zero_add]; exact (h i hi).1, by rw [Nat.zero_add]; exact (h i hi).2⟩⟩
theorem SlP.since {w w' : World} {v : Value} {c : List Pt2} {g5 : Nat} (h : SlP w v c g5) (k : Since w w') : SlP w' v c g5 := by
 obtain ⟨g, cap, hv, hc, hg, hl, h⟩ := h
 exact ⟨g, cap, hv, hc, hg, Nat.lt_of_lt_of_le hl k.size, fun j hj => ⟨keepC k _ _ (h j hj).1, keepC k _ _ (h j hj).2⟩⟩
theorem SlP.only {w w' : World} {v : Value} {c : List Pt2} {g5 : Nat} (h : SlP w v c g5) (k : Only g5 w w') : SlP w' v c g5 := by
 obtain ⟨g, cap, hv, hc, hg, hl, h⟩ := h
 exact ⟨g, cap, hv, hc, hg, Nat.lt_of_lt_of_le hl k.size, fun j hj => ⟨keepOC k _ _ (by dsimp only; omega) (h j hj).1, keepOC k _ _ (by dsimp only; omega) (h j hj).2⟩⟩
def VG (w : World) (g5 : Nat) (cs : List (List Pt2)) (k : Nat) : Prop :=
 ∃ vals : List Value, Blk w g5 23 vals.toArray ∧ vals.length = cs.length ∧ ∀ i, i < k → SlP w (vals.getD i undef) (chAt cs i) g5
theorem VG.since {w w' : World} {g5 : Nat} {cs : List (List Pt2)} {k : Nat} (h : VG w g5 cs k) (s : Since w w') : VG w' g5 cs k := by
 obtain ⟨vals, hb, hl, h⟩ := h
 exact ⟨vals, s.blk hb, hl, fun i hi => (h i hi).since s⟩
theorem VG.ch {w : World} {g5 : Nat} {cs : List (List Pt2)} {c : Nat} (h : VG w g5 cs cs.length) : ChS w (.slice (some ⟨g5, 0, none⟩) cs.length c) cs := by
 obtain ⟨vals, hb, hl, h⟩ := h
 refine ⟨g5, c, rfl, fun i hi => ⟨vals.getD i undef, ?_, (h i hi).pts⟩⟩
 rw [hb.cell]
 simp [List.getD, show i < vals.length by omega]
theorem VG.set {w w' : World} {g5 : Nat} {cs cs' : List (List Pt2)} {n i : Nat} {v : Value} (h : VG w g5 cs n) (hs : Since w w') (hn : cs'.length = cs.length) (hi : i < cs.length) (hv : SlP w' v (chAt cs' i) g5) (hne : ∀ j, j < n → j ≠ i → chAt cs' j = chAt cs j) (m : Nat) (hm : ∀ j, j < m → j < n ∨ j = i) :
  VG (w'.setCell ⟨g5, i, none⟩ v) g5 cs' m ∧ Only g5 w' (w'.setCell ⟨g5, i, none⟩ v) := by
 obtain ⟨vals, hb, hl, h⟩ := h
 have ho : Only g5 w' (w'.setCell ⟨g5, i, none⟩ v) := ((Since.rfl_ w').only g5).setCell (.inl rfl) v
 refine ⟨⟨vals.set i v, ?_, by rw [List.length_set, hl, hn], fun j hj => ?_⟩, ho⟩
 ·have := (hs.blk hb).set_ i v
  simpa using this
 ·by_cases e : j = i
  ·subst e
   have : (vals.set j v).getD j undef = v := by simp [List.getD, show j < vals.length by omega]
   rw [this]; exact hv.only ho
  ·have hj' : j < n := by rcases hm j hj with h | h <;> first | exact h | exact absurd h e
   have : (vals.set i v).getD j undef = vals.getD j undef := by simp [List.getD, List.getElem?_set, Ne.symm e]
   rw [this, hne j hj' e]; exact ((h j hj').since hs).only ho
def cs0 (l : List Sg) : List (List Pt2) := l.map fun s => [s.1, s.2]
theorem cs0_at {l : List Sg} {i : Nat} (h : i < l.length) : chAt (cs0 l) i = [(sgAt l i).1, (sgAt l i).2] := by simp [chAt, cs0, sgAt, List.getD, h]
def midC (H : List Pt2) (cs : List (List Pt2)) (k : Nat) : List (List Pt2) := (List.range cs.length).map fun i => if i < k then nextC H (chAt cs i) else chAt cs i
theorem midC_len (H : List Pt2) (cs : List (List Pt2)) (k : Nat) : (midC H cs k).length = cs.length := by simp [midC]
theorem midC_at {H : List Pt2} {cs : List (List Pt2)} {k i : Nat} (h : i < cs.length) : chAt (midC H cs k) i = if i < k then nextC H (chAt cs i) else chAt cs i := by simp [chAt, midC, List.getD, h]
theorem ch_ext {a b : List (List Pt2)} (h : a.length = b.length) (k : ∀ i, i < a.length → chAt a i = chAt b i) : a = b := by
 refine List.ext_getElem h fun i h1 h2 => ?_
 have := k i h1
 simpa [chAt, List.getD, h1, h2] using this
theorem midC_zero (H : List Pt2) (cs : List (List Pt2)) : midC H cs 0 = cs := ch_ext (midC_len _ _ _) fun i hi => by rw [midC_at (by rw [midC_len] at hi; exact hi)]; simp
theorem midC_all (cs : List (List Pt2)) : midC (hotL (edgL cs)) cs cs.length = stepC cs := ch_ext (by rw [midC_len]; simp [stepC]) fun i hi => by
 rw [midC_len] at hi
 rw [midC_at hi, if_pos hi]
 simp [stepC, chAt, List.getD, hi]
theorem stepC_len (cs : List (List Pt2)) : (stepC cs).length = cs.length := by simp [stepC]
theorem iterC_len (cs : List (List Pt2)) : ∀ n, (iterC n cs).length = cs.length
 | 0 => rfl
 | n + 1 => by rw [iterC, stepC_len, iterC_len cs n]
def moreB (H : List Pt2) (cs : List (List Pt2)) (k : Nat) : Bool := (List.range k).any fun i => (nextC H (chAt cs i)).length != (chAt cs i).length
theorem moreB_succ (H : List Pt2) (cs : List (List Pt2)) (k : Nat) : moreB H cs (k + 1) = (moreB H cs k || ((nextC H (chAt cs k)).length != (chAt cs k).length)) := by unfold moreB; rw [List.range_succ, List.any_append]; simp
theorem moreB_all (cs : List (List Pt2)) : moreB (hotL (edgL cs)) cs cs.length = true ↔ lensC (stepC cs) ≠ lensC cs := by
 unfold moreB lensC stepC
 rw [List.any_eq_true]
 constructor
 ·rintro ⟨i, hi, h⟩ e
  rw [List.mem_range] at hi
  have := congrArg (fun l => l[i]?) e
  simp [hi] at this
  simp [chAt, List.getD, hi] at h
  exact h this
 ·intro h
  refine Classical.byContradiction fun hn => h ?_
  refine List.ext_getElem (by simp) fun i h1 h2 => ?_
  have hi : i < cs.length := by simpa using h2
  refine Classical.byContradiction fun hc => hn ⟨i, List.mem_range.2 hi, ?_⟩
  simp at hc
  simpa [chAt, List.getD, hi] using hc
end
section
abbrev Q2 := Rat × Rat
theorem quo {d x : Rat} (hd : 0 < d) (hx : 0 ≤ x) : ∃ t, 0 ≤ t ∧ t * d = x := by
 have hi : d * d⁻¹ = 1 := Rat.mul_inv_cancel _ (by grind)
 have hp : 0 < d⁻¹ := Rat.inv_pos.2 hd
 exact ⟨x * d⁻¹, Rat.mul_nonneg hx (Rat.le_of_lt hp), by grind⟩
theorem root_ {f g : Rat} (h : f ≤ 0) (h2 : 0 < g) : ∃ t : Rat, 0 ≤ t ∧ t ≤ 1 ∧ (1 - t) * f + t * g = 0 := by
 obtain ⟨t, h0, h1⟩ := quo (d := g - f) (x := -f) (by grind) (by grind)
 refine ⟨t, h0, ?_, by grind⟩
 rcases Rat.le_total (a := t) (b := 1) with k | k
 ·exact k
 ·have := Rat.mul_nonneg (a := t - 1) (b := g - f) (by grind) (by grind)
  have : t = 1 := by
   have h3 : (t - 1) * (g - f) = -g := by grind
   grind
  grind
def lerp (P Q : Q2) (l : Rat) : Q2 := (P.1 + l * (Q.1 - P.1), P.2 + l * (Q.2 - P.2))
def I01 (l : Rat) : Prop := 0 ≤ l ∧ l ≤ 1
def segI (P Q R S : Q2) : Prop := ∃ l m, I01 l ∧ I01 m ∧ lerp P Q l = lerp R S m
def endp (l m : Rat) : Prop := l = 0 ∨ l = 1 ∨ m = 0 ∨ m = 1
theorem one_ {l dl : Rat} (hl : I01 l) (hd : dl ≠ 0) : ∃ t, 0 ≤ t ∧ (l + t * dl = 0 ∨ l + t * dl = 1) ∧ ∀ u, 0 ≤ u → u ≤ t → I01 (l + u * dl) := by
 unfold I01 at *
 have hc : dl < 0 ∨ 0 < dl := by grind
 rcases hc with hn | hp
 ·obtain ⟨t, h0, h1⟩ := quo (d := -dl) (x := l) (by grind) hl.1
  refine ⟨t, h0, .inl (by grind), fun u hu hut => ?_⟩
  have a1 := Rat.mul_nonneg (a := u) (b := -dl) hu (by grind)
  have a2 := Rat.mul_nonneg (a := t - u) (b := -dl) (by grind) (by grind)
  grind
 ·obtain ⟨t, h0, h1⟩ := quo (d := dl) (x := 1 - l) (by grind) (by grind)
  refine ⟨t, h0, .inr (by grind), fun u hu hut => ?_⟩
  have a1 := Rat.mul_nonneg (a := u) (b := dl) hu (by grind)
  have a2 := Rat.mul_nonneg (a := t - u) (b := dl) (by grind) (by grind)
  grind
theorem exit_ {l m dl dm : Rat} (hl : I01 l) (hm : I01 m) (h : dl ≠ 0 ∨ dm ≠ 0) : ∃ t, 0 ≤ t ∧ I01 (l + t * dl) ∧ I01 (m + t * dm) ∧ endp (l + t * dl) (m + t * dm) := by
 unfold endp
 by_cases h1 : dl = 0
 ·subst h1
  obtain ⟨t, h0, he, hu⟩ := one_ hm (h.resolve_left (by simp))
  refine ⟨t, h0, by rw [show l + t * 0 = l by grind]; exact hl, hu t h0 (Rat.le_refl), ?_⟩
  rcases he with he | he
  ·exact .inr (.inr (.inl he))
  ·exact .inr (.inr (.inr he))
 ·obtain ⟨t, h0, he, hu⟩ := one_ hl h1
  by_cases h2 : dm = 0
  ·subst h2
   refine ⟨t, h0, hu t h0 Rat.le_refl, by rw [show m + t * 0 = m by grind]; exact hm, ?_⟩
   rcases he with he | he
   ·exact .inl he
   ·exact .inr (.inl he)
  ·obtain ⟨t', h0', he', hu'⟩ := one_ hm h2
   rcases Rat.le_total (a := t) (b := t') with k | k
   ·refine ⟨t, h0, hu t h0 Rat.le_refl, hu' t h0 k, ?_⟩
    rcases he with he | he
    ·exact .inl he
    ·exact .inr (.inl he)
   ·refine ⟨t', h0', hu t' h0' k, hu' t' h0' Rat.le_refl, ?_⟩
    rcases he' with he | he
    ·exact .inr (.inr (.inl he))
    ·exact .inr (.inr (.inr he))
theorem mix {a b c : Rat} {f g : Rat → Rat → Rat} {f0 f1 f2 g0 g1 g2 : Rat} (hf : ∀ l m, f l m = f0 + l * f1 + m * f2) (hg : ∀ l m, g l m = g0 + l * g1 + m * g2)
  {l m : Rat} (hl : I01 l) (hm : I01 m) (he : a + l * b = m * c) (h0 : f l m = 0) (h1 : ∀ l m, I01 l → I01 m → a + l * b = m * c → g l m ≠ 0) :
  ∃ l m t, I01 l ∧ I01 m ∧ I01 t ∧ endp l m ∧ a + l * b = m * c ∧ (1 - t) * f l m + t * g l m = 0 := by
 -- the sign of g on the whole
 have key : ∀ (f g : Rat → Rat → Rat) (f0 f1 f2 g0 g1 g2 : Rat), (∀ l m, f l m = f0 + l * f1 + m * f2) → (∀ l m, g l m = g0 + l * g1 + m * g2) → f l m = 0 → (∀ l m, I01 l → I01 m → a + l * b = m * c → 0 < g l m) →
   ∃ l m t, I01 l ∧ I01 m ∧ I01 t ∧ endp l m ∧ a + l * b = m * c ∧ (1 - t) * f l m + t * g l m = 0 := by
  intro f g f0 f1 f2 g0 g1 g2 hf hg h0 h1
  -- a direction that keeps the equation
  obtain ⟨dl, dm, hd, hk⟩ : ∃ dl dm : Rat, (dl ≠ 0 ∨ dm ≠ 0) ∧ dl * b = dm * c := by
   by_cases hb : b = 0
   ·exact ⟨1, 0, .inl (by grind), by rw [hb]; grind⟩
   ·exact ⟨c, b, .inr hb, by grind⟩
  have go : ∀ dl dm : Rat, (dl ≠ 0 ∨ dm ≠ 0) → dl * b = dm * c → dl * f1 + dm * f2 ≤ 0 → ∃ l m t, I01 l ∧ I01 m ∧ I01 t ∧ endp l m ∧ a + l * b = m * c ∧ (1 - t) * f l m + t * g l m = 0 := by
   intro dl dm hd hk hs
   obtain ⟨t, ht, e1, e2, e3⟩ := exit_ hl hm hd
   have q1 : a + (l + t * dl) * b = (m + t * dm) * c := by
    have : t * (dl * b) = t * (dm * c) := by rw [hk]
    grind
   have q2 : f (l + t * dl) (m + t * dm) ≤ 0 := by
    have := Rat.mul_nonneg (a := t) (b := -(dl * f1 + dm * f2)) ht (by grind)
    rw [hf] at h0 ⊢
    grind
   obtain ⟨u, u0, u1, u2⟩ := root_ q2 (h1 _ _ e1 e2 q1)
   exact ⟨_, _, u, e1, e2, ⟨u0, u1⟩, e3, q1, u2⟩
  by_cases hs : dl * f1 + dm * f2 ≤ 0
  ·exact go dl dm hd hk hs
  ·exact go (-dl) (-dm) (by grind) (by grind) (by grind)
 have sgn : (∀ l m, I01 l → I01 m → a + l * b = m * c → 0 < g l m) ∨ (∀ l m, I01 l → I01 m → a + l * b = m * c → g l m < 0) := by
  have hne := h1 l m hl hm he
  have hc : 0 < g l m ∨ g l m < 0 := by grind
  rcases hc with hp | hn
  ·left
   intro l' m' hl' hm' he'
   refine Classical.byContradiction fun hno => ?_
   have hle : g l' m' ≤ 0 := by grind
   obtain ⟨t, t0, t1, t2⟩ := root_ hle hp
   refine h1 ((1 - t) * l' + t * l) ((1 - t) * m' + t * m) ?_ ?_ (by grind) ?_
   ·unfold I01 at *
    have a1 := Rat.mul_nonneg (a := 1 - t) (b := l') (by grind) hl'.1
    have a2 := Rat.mul_nonneg (a := t) (b := l) t0 hl.1
    have a3 := Rat.mul_nonneg (a := 1 - t) (b := 1 - l') (by grind) (by grind)
    have a4 := Rat.mul_nonneg (a := t) (b := 1 - l) t0 (by grind)
    grind
   ·unfold I01 at *
    have a1 := Rat.mul_nonneg (a := 1 - t) (b := m') (by grind) hm'.1
    have a2 := Rat.mul_nonneg (a := t) (b := m) t0 hm.1
    have a3 := Rat.mul_nonneg (a := 1 - t) (b := 1 - m') (by grind) (by grind)
    have a4 := Rat.mul_nonneg (a := t) (b := 1 - m) t0 (by grind)
    grind
   ·rw [hg] at t2 ⊢
    rw [hg] at t2
    grind
  ·right
   intro l' m' hl' hm' he'
   refine Classical.byContradiction fun hno => ?_
   have hle : -(g l' m') ≤ 0 := by grind
   obtain ⟨t, t0, t1, t2⟩ := root_ hle (show 0 < -(g l m) by grind)
   refine h1 ((1 - t) * l' + t * l) ((1 - t) * m' + t * m) ?_ ?_ (by grind) ?_
   ·unfold I01 at *
    have a1 := Rat.mul_nonneg (a := 1 - t) (b := l') (by grind) hl'.1
    have a2 := Rat.mul_nonneg (a := t) (b := l) t0 hl.1
    have a3 := Rat.mul_nonneg (a := 1 - t) (b := 1 - l') (by grind) (by grind)
    have a4 := Rat.mul_nonneg (a := t) (b := 1 - l) t0 (by grind)
    grind
   ·unfold I01 at *
    have a1 := Rat.mul_nonneg (a := 1 - t) (b := m') (by grind) hm'.1
    have a2 := Rat.mul_nonneg (a := t) (b := m) t0 hm.1
    have a3 := Rat.mul_nonneg (a := 1 - t) (b := 1 - m') (by grind) (by grind)
    have a4 := Rat.mul_nonneg (a := t) (b := 1 - m) t0 (by grind)
    grind
   ·rw [hg] at t2 ⊢
    rw [hg] at t2
    grind
 rcases sgn with hp | hn
 ·exact key f g f0 f1 f2 g0 g1 g2 hf hg h0 hp
 ·obtain ⟨l', m', t, e1, e2, e3, e4, e5, e6⟩ := key (fun l m => -(f l m)) (fun l m => -(g l m)) (-f0) (-f1) (-f2) (-g0) (-g1) (-g2) (fun l m => by rw [hf]; grind) (fun l m => by rw [hg]; grind) (by grind) (fun l m h1 h2 h3 => by have := hn l m h1 h2 h3; grind)
  exact ⟨l', m', t, e1, e2, e3, e4, e5, by grind⟩
def Box (d : Rat) : Prop := -1 / 2 ≤ d ∧ d < 1 / 2
def inP (h X : Q2) : Prop := Box (X.1 - h.1) ∧ Box (X.2 - h.2)
theorem box_mix {d e t : Rat} (hd : Box d) (he : Box e) (ht : I01 t) : Box ((1 - t) * d + t * e) := by
 unfold Box I01 at *
 have a1 := Rat.mul_nonneg (a := 1 - t) (b := d + 1 / 2) (by grind) (by grind)
 have a2 := Rat.mul_nonneg (a := t) (b := e + 1 / 2) ht.1 (by grind)
 have a3 := Rat.mul_nonneg (a := 1 - t) (b := 1 / 2 - d) (by grind) (by grind)
 have a4 := Rat.mul_nonneg (a := t) (b := 1 / 2 - e) ht.1 (by grind)
 refine ⟨by grind, ?_⟩
 by_cases h : t = 0
 ·subst h; grind
 ·have : 0 < t := by grind
  have := Rat.mul_pos (a := t) (b := 1 / 2 - e) this (by grind)
  grind
theorem snap_apart {p q r s P Q R S : Q2} (hp : inP p P) (hq : inP q Q) (hr : inP r R) (hs : inP s S)
  (nr : ∀ l, I01 l → ¬ inP r (lerp P Q l)) (ns : ∀ l, I01 l → ¬ inP s (lerp P Q l)) (np : ∀ m, I01 m → ¬ inP p (lerp R S m)) (nq : ∀ m, I01 m → ¬ inP q (lerp R S m))
  (hno : ¬ segI P Q R S) : ¬ segI p q r s := by
 -- the x move with the y of the pieces
 have st1 : ¬ segI (p.1, P.2) (q.1, Q.2) (r.1, R.2) (s.1, S.2) := by
  rintro ⟨l, m, hl, hm, he⟩
  unfold lerp at he
  injection he with h1 h2
  dsimp only at h1 h2
  obtain ⟨l', m', t, il, im, it, hen, heq, hz⟩ := mix (a := P.2 - R.2) (b := Q.2 - P.2) (c := S.2 - R.2) (f := fun l m => (p.1 + l * (q.1 - p.1)) - (r.1 + m * (s.1 - r.1))) (g := fun l m => (P.1 + l * (Q.1 - P.1)) - (R.1 + m * (S.1 - R.1)))
   (f0 := p.1 - r.1) (f1 := q.1 - p.1) (f2 := -(s.1 - r.1)) (g0 := P.1 - R.1) (g1 := Q.1 - P.1) (g2 := -(S.1 - R.1)) (fun l m => by grind) (fun l m => by grind) hl hm (by grind) (by grind) (by
    intro l m hl hm he h0
    refine hno ⟨l, m, hl, hm, ?_⟩
    unfold lerp
    apply Prod.ext <;> dsimp only <;> grind)
  have bl : Box ((1 - l') * (P.1 - p.1) + l' * (Q.1 - q.1)) := box_mix hp.1 hq.1 il
  have bm : Box ((1 - m') * (R.1 - r.1) + m' * (S.1 - s.1)) := box_mix hr.1 hs.1 im
  rcases hen with h | h | h | h
  ·subst h
   refine np m' im ⟨?_, ?_⟩
   ·have := box_mix bm hp.1 it
    unfold lerp Box at *; grind
   ·have := hp.2
    unfold lerp Box at *; grind
  ·subst h
   refine nq m' im ⟨?_, ?_⟩
   ·have := box_mix bm hq.1 it
    unfold lerp Box at *; grind
   ·have := hq.2
    unfold lerp Box at *; grind
  ·subst h
   refine nr l' il ⟨?_, ?_⟩
   ·have := box_mix bl hr.1 it
    unfold lerp Box at *; grind
   ·have := hr.2
    unfold lerp Box at *; grind
  ·subst h
   refine ns l' il ⟨?_, ?_⟩
   ·have := box_mix bl hs.1 it
    unfold lerp Box at *; grind
   ·have := hs.2
    unfold lerp Box at *; grind
 rintro ⟨l, m, hl, hm, he⟩
 unfold lerp at he
 injection he with h1 h2
 obtain ⟨l', m', t, il, im, it, hen, heq, hz⟩ := mix (a := p.1 - r.1) (b := q.1 - p.1) (c := s.1 - r.1) (f := fun l m => (p.2 + l * (q.2 - p.2)) - (r.2 + m * (s.2 - r.2))) (g := fun l m => (P.2 + l * (Q.2 - P.2)) - (R.2 + m * (S.2 - R.2)))
  (f0 := p.2 - r.2) (f1 := q.2 - p.2) (f2 := -(s.2 - r.2)) (g0 := P.2 - R.2) (g1 := Q.2 - P.2) (g2 := -(S.2 - R.2)) (fun l m => by grind) (fun l m => by grind) hl hm (by grind) (by grind) (by
   intro l m hl hm he h0
   refine st1 ⟨l, m, hl, hm, ?_⟩
   unfold lerp
   apply Prod.ext <;> dsimp only <;> grind)
 have bl : Box ((1 - l') * (P.2 - p.2) + l' * (Q.2 - q.2)) := box_mix hp.2 hq.2 il
 have bm : Box ((1 - m') * (R.2 - r.2) + m' * (S.2 - s.2)) := box_mix hr.2 hs.2 im
 have bl1 : Box ((1 - l') * (P.1 - p.1) + l' * (Q.1 - q.1)) := box_mix hp.1 hq.1 il
 have bm1 : Box ((1 - m') * (R.1 - r.1) + m' * (S.1 - s.1)) := box_mix hr.1 hs.1 im
 rcases hen with h | h | h | h
 ·subst h
  refine np m' im ⟨?_, ?_⟩
  ·unfold lerp Box at *; grind
  ·have := box_mix bm hp.2 it
   unfold lerp Box at *; grind
 ·subst h
  refine nq m' im ⟨?_, ?_⟩
  ·unfold lerp Box at *; grind
  ·have := box_mix bm hq.2 it
   unfold lerp Box at *; grind
 ·subst h
  refine nr l' il ⟨?_, ?_⟩
  ·unfold lerp Box at *; grind
  ·have := box_mix bl hr.2 it
   unfold lerp Box at *; grind
 ·subst h
  refine ns l' il ⟨?_, ?_⟩
  ·unfold lerp Box at *; grind
  ·have := box_mix bl hs.2 it
   unfold lerp Box at *; grind
end
end Go.Proofs.YtdnccjdlmepafaaGreat
