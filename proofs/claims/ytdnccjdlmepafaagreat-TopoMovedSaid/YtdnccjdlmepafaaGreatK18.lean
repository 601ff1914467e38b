/-
  arr.check where two segments are not apart; Regions that append to rows of one's own while they load: what such a region may do to memory, and the append's law there; Rows of one's own, side by side in different blocks: what a store, an append, a new row leave of them; The memory of arr's maker; a map from points to numbers. Conditions: those that each lemma names.
-/
import Derived.Test.YtdnccjdlmepafaaGreatK17
import Derived.Test.YtdnccjdlmepafaaGreatK15
import Derived.Test.YtdnccjdlmepafaaGreatK10
import Derived.Test.YtdnccjdlmepafaaGreatK11
import Derived.Test.YtdnccjdlmepafaaGreatK02
import Derived.Maps.AppendAt
import Derived.Deep.Onto
import Derived.Test.YtdnccjdlmepafaaGreatK04
set_option linter.unusedSimpArgs false
set_option linter.unusedVariables false
set_option linter.constructorNameAsVariable false
namespace Go.Proofs.YtdnccjdlmepafaaGreat
section
open Go.RowKit Go.BigFrame
attribute [local go_sem ↓] eqPt neqPt
theorem shared_in{a b c d x:Pt2}(h:(x=a∧onV c d a=true)∨(x=b∧onV c d b=true)∨(x=c∧onV a b c=true)∨(x=d∧onV a b d=true)):x∈sharedL a b c d:=by
 unfold sharedL
 rcases h with⟨rfl,h⟩ | ⟨rfl,h⟩ | ⟨rfl,h⟩ | ⟨rfl,h⟩
 ·exact addS_sub (addS_sub (addS_sub (addS_self h)))
 ·exact addS_sub (addS_sub (addS_self h))
 ·exact addS_sub (addS_self h)
 ·exact addS_self h
theorem shared_sw{a b c d x:Pt2}(h:x∈sharedL a b c d):x∈sharedL c d a b:=by
 rcases sharedL_mem h with h | h | h | h
 ·exact shared_in (.inr (.inr (.inl h)))
 ·exact shared_in (.inr (.inr (.inr h)))
 ·exact shared_in (.inl h)
 ·exact shared_in (.inr (.inl h))
theorem shared_swap(a b c d:Pt2):(sharedL a b c d).length=(sharedL c d a b).length :=
 ((List.perm_ext_iff_of_nodup (sharedL_nodup a b c d) (sharedL_nodup c d a b)).2 fun x=>⟨shared_sw,shared_sw⟩).length_eq
theorem smeet_swap(a b c d:Pt2):smeetV a b c d=smeetV c d a b:=by
 unfold smeetV
 by_cases h:turnV a.1 a.2 b.1 b.2 c.1 c.2*turnV a.1 a.2 b.1 b.2 d.1 d.2<0∧turnV c.1 c.2 d.1 d.2 a.1 a.2*turnV c.1 c.2 d.1 d.2 b.1 b.2<0
 ·rw[if_pos h,if_pos ⟨h.2,h.1⟩]
 ·rw[if_neg h,if_neg (fun k=>h ⟨k.2,k.1⟩),shared_swap]
def ApP(s t:Sg):Prop:=smeetV s.1 s.2 t.1 t.2≤1∧(smeetV s.1 s.2 t.1 t.2=1→t.1=s.1∨t.1=s.2∨t.2=s.1∨t.2=s.2)
theorem ApP.symm{s t:Sg}(h:ApP s t):ApP t s:=by
 unfold ApP at *
 rw[smeet_swap t.1 t.2 s.1 s.2]
 refine⟨h.1,fun k=>?_⟩
 rcases h.2 k with e | e | e | e
 ·exact .inl e.symm
 ·exact .inr (.inr (.inl e.symm))
 ·exact .inr (.inl e.symm)
 ·exact .inr (.inr (.inr e.symm))
structure PreOk(E:List Sg):Prop where
 ok:∀ s∈E,SgOk s
 srt:SrtG E
 lt:∀ s∈E,lx s.1 s.2
theorem PreOk.rnd{E:List Sg}(h:PreOk E)(hp:∀ i j,i<j→j<E.length→ApP (sgAt E j) (sgAt E i)):RndOk E:=by
 refine⟨h.ok,h.srt,h.lt,fun s hs t ht hne=>?_⟩
 obtain⟨i,hi,rfl⟩:=List.getElem_of_mem hs
 obtain⟨j,hj,rfl⟩:=List.getElem_of_mem ht
 have e1:sgAt E i=E[i]:=by simp[sgAt,List.getD,hi]
 have e2:sgAt E j=E[j]:=by simp[sgAt,List.getD,hj]
 rw[← e1,← e2]
 rcases Nat.lt_trichotomy i j with q | q | q
 ·exact(hp i j q hj).symm
 ·subst q;exact absurd rfl hne
 ·exact hp j i q hi
set_option maxRecDepth 100000 in
set_option maxHeartbeats 2000000 in
theorem ApartN_any{s t:Sg}(hs:SgOk s)(ht:SgOk t)(hm:¬ ApP s t)(w:World) :
  Calls Tryz.prog 85 #[.agg #[.int .i64 s.1.1,.int .i64 s.1.2,.int .i64 s.2.1,.int .i64 s.2.2],.agg #[.int .i64 t.1.1,.int .i64 t.1.2,.int .i64 t.2.1,.int .i64 t.2.2]] w fun e w' => e=.returned (.bool false)∧Since w w' := by
 have HM:=Lib.hid (fun w=>SMeetG_any hs.1 hs.2.1 ht.1 ht.2.1 w)
 obtain⟨mv,HMV⟩:∃ mv,Hid (mv=smeetV s.1 s.2 t.1 t.2):=⟨_,rfl⟩
 have h0:=smeet_nn s.1 s.2 t.1 t.2
 unfold ApP at hm
 rw[← HMV.out] at HM hm h0
 have hm0:mv≠0:=fun e=>hm ⟨by omega,fun k=>by omega⟩
 have HC:Hid (mv=1→(((eqB s.1 t.1 || eqB s.1 t.2) || eqB s.2 t.1) || eqB s.2 t.2)=false):=fun e=>by
  have hn:¬ (t.1=s.1∨t.1=s.2∨t.2=s.1∨t.2=s.2):=fun k=>hm ⟨by omega,fun _=>k⟩
  have f:∀ p q:Pt2,p≠q→eqB p q=false:=fun p q h=>by
   cases k:eqB p q
   ·rfl
   ·exact absurd (eqB_iff.1 k) h
  rw[f s.1 t.1 (fun k=>hn (.inl k.symm)),f s.1 t.2 (fun k=>hn (.inr (.inr (.inl k.symm)))),f s.2 t.1 (fun k=>hn (.inr (.inl k.symm))),f s.2 t.2 (fun k=>hn (.inr (.inr (.inr k.symm))))]
  rfl
 clear hm hs ht
 have e1:(mv == 0)=false:=by rw[beq_eq_false_iff_ne];exact hm0
 go_enter Tryz.func85,Tryz.ntmps85
 go_upto_region 1 with fail
 obtain⟨G,HG⟩:∃ G,G=w.heap.size:=⟨_,rfl⟩
 rw[← HG]
 refine atW (fun w' => Hid (Since w w')∧Blk w' G 37 #[.int .i64 s.1.1,.int .i64 s.1.2,.int .i64 s.2.1,.int .i64 s.2.2]∧Blk w' (G+1) 37 #[.int .i64 t.1.1,.int .i64 t.1.2,.int .i64 t.2.1,.int .i64 t.2.2]) ⟨((Since.rfl_ w).alloc _).alloc _,(Blk.new' HG).alloc _,Blk.new' (by simp[HG])⟩ ?_
 clear HG
 rintro w1 ⟨HW,hs,ht⟩
 have a_0:=hs.cell 0
 have a_1:=hs.cell 1
 have a_2:=hs.cell 2
 have a_3:=hs.cell 3
 simp only[List.getElem?_toArray,List.getElem?_cons_zero,List.getElem?_cons_succ] at a_0 a_1 a_2 a_3
 have b_0:=ht.cell 0
 have b_1:=ht.cell 1
 have b_2:=ht.cell 2
 have b_3:=ht.cell 3
 simp only[List.getElem?_toArray,List.getElem?_cons_zero,List.getElem?_cons_succ] at b_0 b_1 b_2 b_3
 have HBB:=Lib.hid (And.intro hs ht)
 clear hs ht
 go_wp2_with fail
 refine(HM.out _).mono ?_
 rintro e w2 ⟨rfl,hs⟩
 have HW2:=Lib.hid (HW.out.trans hs)
 have HB2:=Lib.hid (And.intro (hs.blk HBB.out.1) (hs.blk HBB.out.2))
 clear hs HW HBB HM a_0 a_1 a_2 a_3 b_0 b_1 b_2 b_3
 by_cases h:mv=1
 ·have e2:(mv == 1)=true:=by rw[beq_iff_eq];exact h
  have HQ:=Lib.hid (HC.out h)
  clear h
  obtain⟨hs,ht⟩:=HB2.out
  have a_0:=hs.cell 0
  have a_1:=hs.cell 1
  have a_2:=hs.cell 2
  have a_3:=hs.cell 3
  simp only[List.getElem?_toArray,List.getElem?_cons_zero,List.getElem?_cons_succ] at a_0 a_1 a_2 a_3
  have b_0:=ht.cell 0
  have b_1:=ht.cell 1
  have b_2:=ht.cell 2
  have b_3:=ht.cell 3
  simp only[List.getElem?_toArray,List.getElem?_cons_zero,List.getElem?_cons_succ] at b_0 b_1 b_2 b_3
  clear hs ht
  obtain⟨q1,H1⟩:∃ q1,Hid (q1=eqB s.1 t.1):=⟨_,rfl⟩
  obtain⟨q2,H2⟩:∃ q2,Hid (q2=eqB s.1 t.2):=⟨_,rfl⟩
  obtain⟨q3,H3⟩:∃ q3,Hid (q3=eqB s.2 t.1):=⟨_,rfl⟩
  obtain⟨q4,H4⟩:∃ q4,Hid (q4=eqB s.2 t.2):=⟨_,rfl⟩
  rw[← H1.out,← H2.out,← H3.out,← H4.out] at HQ
  have e3:(s.1.1 == t.1.1 && s.1.2 == t.1.2)=q1:=H1.out.symm
  have e4:(s.1.1 == t.2.1 && s.1.2 == t.2.2)=q2:=H2.out.symm
  have e5:(s.2.1 == t.1.1 && s.2.2 == t.1.2)=q3:=H3.out.symm
  have e6:(s.2.1 == t.2.1 && s.2.2 == t.2.2)=q4:=H4.out.symm
  clear H1 H2 H3 H4
  have hq:=HQ.out
  simp only[Bool.or_eq_false_iff] at hq
  obtain⟨⟨⟨z1,z2⟩,z3⟩,z4⟩:=hq
  subst z1 z2 z3 z4
  go_wp2_with fail
  go_ret
  exact⟨rfl,HW2.out⟩
 ·have e2:(mv == 1)=false:=by rw[beq_eq_false_iff_ne];exact h
  clear h
  go_wp2_with fail
  go_ret
  exact⟨rfl,HW2.out⟩
set_option maxRecDepth 100000 in
set_option maxHeartbeats 4000000 in
theorem CheckN_any (v:Value) (E:List Sg) (w:World) (hv:SegsN w v E) (hE:PreOk E) (hnE:¬ RndOk E) (hl:E.length≤3000) :
  Calls Tryz.prog 63 #[v] w fun e w' => e=.returned (.int .i64 10)∧Since w w' := by
 obtain⟨a,c,rfl⟩:=hv.slice
 have hcap:=hv.cap
 have HV:=Lib.hid hv
 have HE:=Lib.hid hE
 obtain⟨n,hnn⟩:∃ n,n=E.length:=⟨_,rfl⟩
 have HN:=Lib.hid hnn
 rw[← hnn] at hl hcap HV ⊢
 have HSEG:=Lib.hid (fun k (hk:k<n)=>(show sgAt E k∈E from sgAt_mem (by rw[← HN.out];exact hk)))
 have HSR:=Lib.hid (fun j k (hjk:j<k) (hk:k<n)=>(show lxG (sgAt E j) (sgAt E k)=true from by
  have hp:=List.pairwise_iff_getElem.1 HE.out.srt j k (by rw[← HN.out];omega) (by rw[← HN.out];omega) hjk
  have e1:sgAt E j=E[j]'(by rw[← HN.out];omega):=by simp[sgAt,List.getD,show j<E.length by rw[← HN.out];omega]
  have e2:sgAt E k=E[k]'(by rw[← HN.out];omega):=by simp[sgAt,List.getD,show k<E.length by rw[← HN.out];omega]
  rw[e1,e2];exact hp))
 have HNP:Hid (¬ ∀ i j,i<j→j<n→ApP (sgAt E j) (sgAt E i)):=fun h=>hnE (hE.rnd (by rw[← HN.out];exact h))
 clear hv hE hnn hnE
 have g1:decide ((3000:Int)<(n:Int))=false:=by rw[decide_eq_false_iff_not];omega
 go_enter Tryz.func63,Tryz.ntmps63
 go_upto_region 4 with fail
 go_loopw [14] (fun v wr=>∃ k:Nat,k≤n∧v=.int .i64 k∧Hid (Since w wr)) (fun v _=>n-(intOf v).toNat)
 case atStart=>exact⟨0,by omega,rfl,Since.rfl_ w⟩
 case round =>
  obtain⟨k,hk,rfl,HR⟩:=hrel
  rcases Nat.lt_or_ge k n with hlt | hge
  ·have hz:decide ((k:Int)<(n:Int))=true:=by rw[decide_eq_true_eq];omega
   obtain⟨g,o,rfl,h1,h2,h3,h4⟩:=HV.out.cells (k:=k) (by rw[← HN.out];exact hlt)
   obtain⟨s,hs⟩:∃ s,s=sgAt E k:=⟨_,rfl⟩
   have HS:Hid (s∈E):=by show s∈E;rw[hs];exact HSEG.out k hlt
   rw[← hs] at h1 h2 h3 h4
   have h1:=keepC HR.out _ _ h1
   have h2:=keepC HR.out _ _ h2
   have h3:=keepC HR.out _ _ h3
   have h4:=keepC HR.out _ _ h4
   have HSE:=Lib.hid hs
   have O1:=Lib.hid (HE.out.ok s HS.out).1
   have O2:=Lib.hid (HE.out.ok s HS.out).2.1
   have HC:=Lib.hid (fun w=>Cmp_any s.1 s.2 w)
   obtain⟨x,HX⟩:∃ x,Hid (x=cmpP s.1 s.2):=⟨_,rfl⟩
   rw[← HX.out] at HC
   have hx:decide ((0:Int)≤x)=false:=by
    rw[decide_eq_false_iff_not,HX.out]
    have:=cmpP_neg.2 (HE.out.lt s HS.out)
    omega
   have i1:(0:Int)≤(k:Int):=by omega
   have i2:(k:Int)<(n:Int):=by omega
   clear hs
   go_upto_region 6 with fail
   obtain⟨G,HG⟩:∃ G,G=wr.heap.size:=⟨_,rfl⟩
   rw[← HG]
   refine atW (fun w' => Since wr w' ∧ Blk w' G 37 #[.int .i64 s.1.1,.int .i64 s.1.2,.int .i64 s.2.1,.int .i64 s.2.2]) ⟨(Since.rfl_ wr).alloc _,Blk.new' HG⟩ ?_
   rintro w1 ⟨hs,hb⟩
   have r_0:=hb.cell 0
   have r_1:=hb.cell 1
   have r_2:=hb.cell 2
   have r_3:=hb.cell 3
   simp only[List.getElem?_toArray,List.getElem?_cons_zero,List.getElem?_cons_succ] at r_0 r_1 r_2 r_3
   have HS1:=Lib.hid (HR.out.trans hs)
   have HB1:=Lib.hid hb
   clear hs hb HG h1 h2 h3 h4 HR
   go_wp2_with fail
   refine(Ok_val O1.out _).mono ?_
   rintro e w2 ⟨rfl,hs⟩
   have HS2:=Lib.hid (HS1.out.trans hs)
   have HB2:=Lib.hid (hs.blk HB1.out)
   have r_0:=keepC hs _ _ r_0
   have r_1:=keepC hs _ _ r_1
   have r_2:=keepC hs _ _ r_2
   have r_3:=keepC hs _ _ r_3
   clear hs HS1 HB1
   go_wp2_with fail
   refine(Ok_val O2.out _).mono ?_
   rintro e w3 ⟨rfl,hs⟩
   have HS3:=Lib.hid (HS2.out.trans hs)
   have HB3:=Lib.hid (hs.blk HB2.out)
   have r_0:=keepC hs _ _ r_0
   have r_1:=keepC hs _ _ r_1
   have r_2:=keepC hs _ _ r_2
   have r_3:=keepC hs _ _ r_3
   clear hs HS2 HB2
   go_wp2_with fail
   refine(HC.out _).mono ?_
   rintro e w4 ⟨rfl,hq⟩
   have hs:Since w3 w4:=by
    obtain⟨q,os,rfl⟩:=hq
    exact grown_since _ _ _
   have HS4:=Lib.hid (HS3.out.trans hs)
   have HB4:=Lib.hid (hs.blk HB3.out)
   clear hs hq HS3 HB3 HC r_0 r_1 r_2 r_3
   by_cases hk0:k=0
   ·subst hk0
    have z1:decide ((0:Int)<((0:Nat):Int))=false:=by decide
    go_upto_region 10 with fail
    apply region_facts 12 (fun w' => Since w4 w')
    case hm=>kernel_rfl
    case hB=>kernel_rfl
    case hS=>exact(Since.rfl_ w4).drew
    case h =>
    simp only[List.take_succ_cons,List.take_zero,List.drop_succ_cons,List.drop_zero]
    iterate 3 (apply wpO_det;(case hw=>rfl);(case h=>intro hFm wx hS_ hF_ K hK;go_big_quiet_op;first | exact hK _ rfl | (apply Exists.intro;refine⟨fun _=>?_,?_⟩;(focus (first | (intro hC;have hC:=hC.out;(try simp only[hC,Result.andThen]);first | exact⟨True.intro,rfl⟩ | exact⟨rfl,rfl⟩ | rfl)));exact hK _ rfl));(case' k=>simp only[Act.put,List.setIfInBounds_toArray,List.set_cons_succ,List.set_cons_zero,List.cons_append,List.nil_append]))
    apply wpO_skip
    case hw=>rfl
    case k =>
    simp only[Act.put,List.setIfInBounds_toArray,List.set_cons_succ,List.set_cons_zero,List.cons_append,List.nil_append]
    apply wpO_skip
    case hw=>rfl
    case k =>
    simp only[Act.put,List.setIfInBounds_toArray,List.set_cons_succ,List.set_cons_zero,List.cons_append,List.nil_append]
    apply wpO_skip
    case hw=>rfl
    case k =>
    simp only[Act.put,List.setIfInBounds_toArray,List.set_cons_succ,List.set_cons_zero,List.cons_append,List.nil_append]
    apply wpO_skip
    case hw=>rfl
    case k =>
    simp only[Act.put,List.setIfInBounds_toArray,List.set_cons_succ,List.set_cons_zero,List.cons_append,List.nil_append]
    apply wpO_skip
    case hw=>rfl
    case k =>
    simp only[Act.put,List.setIfInBounds_toArray,List.set_cons_succ,List.set_cons_zero,List.cons_append,List.nil_append]
    apply wpO_skip
    case hw=>rfl
    case k =>
    simp only[Act.put,List.setIfInBounds_toArray,List.set_cons_succ,List.set_cons_zero,List.cons_append,List.nil_append]
    apply wpO_skip
    case hw=>rfl
    case k =>
    simp only[Act.put,List.setIfInBounds_toArray,List.set_cons_succ,List.set_cons_zero,List.cons_append,List.nil_append]
    apply wpO_skip
    case hw=>rfl
    case k =>
    simp only[Act.put,List.setIfInBounds_toArray,List.set_cons_succ,List.set_cons_zero,List.cons_append,List.nil_append]
    (apply wpO_det;(case hw=>rfl);(case h=>intro hFm wx hS_ hF_ K hK;go_big_quiet_op;first | exact hK _ rfl | (apply Exists.intro;refine⟨fun _=>?_,?_⟩;(focus (first | (intro hC;have hC:=hC.out;(try simp only[hC,Result.andThen]);first | exact⟨True.intro,rfl⟩ | exact⟨rfl,rfl⟩ | rfl)));exact hK _ rfl));(case' k=>simp only[Act.put,List.setIfInBounds_toArray,List.set_cons_succ,List.set_cons_zero,List.cons_append,List.nil_append]))
    refine wpO_nil ?_
    intro w5 hS hF hB
    (try simp[allF] at hF)
    (try simp[List.pairwise_cons] at hB)
    have HS5:=Lib.hid (HS4.out.trans hS)
    clear hS hF hB HS4 HB4
    go_wp2_with fail
    go_roundw
    case rel=>exact⟨0+1,by omega,by go_num,HS5⟩
    case measure=>simp[intOf];omega
   ·obtain⟨i,hki⟩:∃ i,k=i+1:=⟨k-1,by omega⟩
    obtain⟨g',o',hgo,h1,h2,h3,h4⟩:=HV.out.cells (k:=i) (by rw[← HN.out];omega)
    injection hgo with hgo
    injection hgo with hg1 hg2
    subst hg1 hg2
    obtain⟨t,ht⟩:∃ t,t=sgAt E i:=⟨_,rfl⟩
    rw[← ht] at h1 h2 h3 h4
    have HOR:=Lib.hid (fun w=>Order_any t s w)
    obtain⟨y,HY⟩:∃ y,Hid (y=cmpS t s):=⟨_,rfl⟩
    rw[← HY.out] at HOR
    have hy:decide ((0:Int)≤y)=false:=by
     rw[decide_eq_false_iff_not,HY.out,ht,HSE.out]
     have:=cmpS_neg.2 (HSR.out i k (by omega) hlt)
     omega
    have iw:IntKind.i64.wrap ((k:Int)-1)=(i:Int):=by
     rw[i64wc,show(k:Int)-1=i by omega]
     exact wrap_id (by omega)
    have z1:decide ((0:Int)<(k:Int))=true:=by rw[decide_eq_true_eq];omega
    have z2:decide (0<k)=true:=by rw[decide_eq_true_eq];omega
    have z3:0<k:=by omega
    have i3:(0:Int)≤(i:Int):=by omega
    have i4:(i:Int)<(n:Int):=by omega
    have KF:=Lib.hid (fun w' (h:Since w4 w')=>(show w'.cell? ⟨g,o+i*4,none⟩=some (.int .i64 t.1.1)∧w'.cell? ⟨g,o+i*4+1,none⟩=some (.int .i64 t.1.2)∧w'.cell? ⟨g,o+i*4+2,none⟩=some (.int .i64 t.2.1)∧w'.cell? ⟨g,o+i*4+3,none⟩=some (.int .i64 t.2.2)∧w'.cell? ⟨G,0,none⟩=some (.int .i64 s.1.1)∧w'.cell? ⟨G,1,none⟩=some (.int .i64 s.1.2)∧w'.cell? ⟨G,2,none⟩=some (.int .i64 s.2.1)∧w'.cell? ⟨G,3,none⟩=some (.int .i64 s.2.2) from
     ⟨keepC (HS4.out.trans h) _ _ h1,keepC (HS4.out.trans h) _ _ h2,keepC (HS4.out.trans h) _ _ h3,keepC (HS4.out.trans h) _ _ h4,(h.blk HB4.out).cell 0,(h.blk HB4.out).cell 1,(h.blk HB4.out).cell 2,(h.blk HB4.out).cell 3⟩))
    clear hki ht h1 h2 h3 h4 hk0
    go_upto_region 10 with fail
    apply region_facts 12 (fun w' => Since w4 w')
    case hm=>kernel_rfl
    case hB=>kernel_rfl
    case hS=>exact(Since.rfl_ w4).drew
    case h =>
    simp only[List.take_succ_cons,List.take_zero,List.drop_succ_cons,List.drop_zero]
    iterate 9 (apply wpO_det;(case hw=>rfl);(case h=>intro hFm wx hS_ hF_ K hK;go_big_quiet_op;first | exact hK _ rfl | (apply Exists.intro;refine⟨fun _=>?_,?_⟩;(focus (first | (intro hC;have hC:=KF.out _ hC.out.1;(try simp only[hC,Result.andThen]);first | exact⟨True.intro,rfl⟩ | exact⟨rfl,rfl⟩ | rfl)));exact hK _ rfl));(case' k=>simp only[Act.put,List.setIfInBounds_toArray,List.set_cons_succ,List.set_cons_zero,List.cons_append,List.nil_append]))
    (apply wpO_det;(case hw=>rfl);(case h=>intro hFm wx hS_ hF_ K hK;go_big_quiet_op;first | exact hK _ rfl | (apply Exists.intro;refine⟨fun _=>?_,?_⟩;(focus (first | (intro hC;go_at_call 84;refine(HOR.out _).mono ?_;rintro e w' ⟨rfl,hb⟩;refine⟨rfl,?_⟩;exact cls_call hFm hC hb)));exact hK _ rfl));(case' k=>simp only[Act.put,List.setIfInBounds_toArray,List.set_cons_succ,List.set_cons_zero,List.cons_append,List.nil_append]))
    iterate 2 (apply wpO_det;(case hw=>rfl);(case h=>intro hFm wx hS_ hF_ K hK;go_big_quiet_op;first | exact hK _ rfl | (apply Exists.intro;refine⟨fun _=>?_,?_⟩;(focus (first | (intro hC;have hC:=KF.out _ hC.out.1;(try simp only[hC,Result.andThen]);first | exact⟨True.intro,rfl⟩ | exact⟨rfl,rfl⟩ | rfl)));exact hK _ rfl));(case' k=>simp only[Act.put,List.setIfInBounds_toArray,List.set_cons_succ,List.set_cons_zero,List.cons_append,List.nil_append]))
    refine wpO_nil ?_
    intro w5 hS hF hB
    (try simp[allF] at hF)
    (try simp[List.pairwise_cons] at hB)
    have HS5:=Lib.hid (HS4.out.trans hS)
    clear hS hF hB HS4 HB4 KF iw HOR
    go_wp2_with fail
    go_roundw
    case rel=>exact⟨k+1,by omega,by go_num,HS5⟩
    case measure=>simp[intOf];omega
  ·obtain rfl:k=n:=by omega
   have hz:decide ((k:Int)<(k:Int))=false:=by rw[decide_eq_false_iff_not];omega
   go_upto_region 14 with fail
   obtain⟨wz,rfl⟩:∃ wz,wz=wr:=⟨_,rfl⟩
   clear hz
   go_loopw [50] (fun v wr=>∃ j:Nat,j≤k∧v=.int .i64 j∧Hid (Since w wr)∧Hid (∀ i1 j1,i1<j1→j1<j→ApP (sgAt E j1) (sgAt E i1))) (fun v _=>k-(intOf v).toNat)
   case atStart=>exact⟨0,by omega,by go_num,HR,fun i1 j1 _ h=>absurd h (Nat.not_lt_zero _)⟩
   case round =>
    clear HR
    obtain⟨j,hj,rfl,HR,HJ⟩:=hrel
    rcases Nat.lt_or_ge j k with hlt | hge2
    ·have hz:decide ((j:Int)<(k:Int))=true:=by rw[decide_eq_true_eq];omega
     obtain⟨g,o,rfl,h1,h2,h3,h4⟩:=HV.out.cells (k:=j) (by rw[← HN.out];exact hlt)
     obtain⟨s,hs⟩:∃ s,s=sgAt E j:=⟨_,rfl⟩
     have HS:Hid (s∈E):=by show s∈E;rw[hs];exact HSEG.out j hlt
     rw[← hs] at h1 h2 h3 h4
     have h1:=keepC HR.out _ _ h1
     have h2:=keepC HR.out _ _ h2
     have h3:=keepC HR.out _ _ h3
     have h4:=keepC HR.out _ _ h4
     have HSE:=Lib.hid hs
     have i1:(0:Int)≤(j:Int):=by omega
     have i2:(j:Int)<(k:Int):=by omega
     have i3:(j:Int)≤(k:Int):=by omega
     clear hs
     go_upto_region 16 with fail
     obtain⟨G6,HG6⟩:∃ G6,G6=wr.heap.size:=⟨_,rfl⟩
     rw[← HG6]
     refine atW (fun w' => Hid (Since w w')∧Hid (Blk w' G6 37 #[.int .i64 s.1.1,.int .i64 s.1.2,.int .i64 s.2.1,.int .i64 s.2.2])) ⟨HR.out.alloc _,Blk.new' HG6⟩ ?_
     clear HR HG6 h1 h2 h3 h4
     rintro w4 ⟨HS4,HB4⟩
     go_upto_region 17 with fail
     go_loopw [59] (fun v59 wr=>∃ i:Nat,i≤j∧v59=.int .i64 i∧Hid (Since w wr)∧Hid (Blk wr G6 37 #[.int .i64 s.1.1,.int .i64 s.1.2,.int .i64 s.2.1,.int .i64 s.2.2])∧Hid (∀ i1,i1<i→ApP s (sgAt E i1))) (fun v59 _=>j-(intOf v59).toNat)
     case atStart=>exact⟨0,by omega,by go_num,HS4,HB4,fun i1 h=>absurd h (Nat.not_lt_zero _)⟩
     case round =>
      clear HS4 HB4
      obtain⟨i,hi,rfl,HR,HB,HI⟩:=hrel
      rcases Nat.lt_or_ge i j with hlt3 | hge3
      ·have hz2:decide ((i:Int)<(j:Int))=true:=by rw[decide_eq_true_eq];omega
       obtain⟨g',o',hgo,h1,h2,h3,h4⟩:=HV.out.cells (k:=i) (by rw[← HN.out];omega)
       injection hgo with hgo
       injection hgo with hg1 hg2
       subst hg1 hg2
       obtain⟨t,ht⟩:∃ t,t=sgAt E i:=⟨_,rfl⟩
       have HT:Hid (t∈E):=by show t∈E;rw[ht];exact HSEG.out i (by omega)
       rw[← ht] at h1 h2 h3 h4
       have h1:=keepC HR.out _ _ h1
       have h2:=keepC HR.out _ _ h2
       have h3:=keepC HR.out _ _ h3
       have h4:=keepC HR.out _ _ h4
       have j1:(0:Int)≤(i:Int):=by omega
       have j2:(i:Int)<(j:Int):=by omega
       have HTE:=Lib.hid ht
       clear ht
       go_upto_region 19 with fail
       obtain⟨G8,HG8⟩:∃ G8,G8=wr.heap.size:=⟨_,rfl⟩
       rw[← HG8]
       refine atW (fun w' => Hid (Since w w')∧Blk w' G6 37 #[.int .i64 s.1.1,.int .i64 s.1.2,.int .i64 s.2.1,.int .i64 s.2.2]∧Blk w' G8 37 #[.int .i64 t.1.1,.int .i64 t.1.2,.int .i64 t.2.1,.int .i64 t.2.2]) ⟨HR.out.alloc _,HB.out.alloc _,Blk.new' HG8⟩ ?_
       clear HR HB HG8 h1 h2 h3 h4
       rintro w5 ⟨HS5,hb6,hb8⟩
       have a_0:=hb6.cell 0
       have a_1:=hb6.cell 1
       have a_2:=hb6.cell 2
       have a_3:=hb6.cell 3
       simp only[List.getElem?_toArray,List.getElem?_cons_zero,List.getElem?_cons_succ] at a_0 a_1 a_2 a_3
       have b_0:=hb8.cell 0
       have b_1:=hb8.cell 1
       have b_2:=hb8.cell 2
       have b_3:=hb8.cell 3
       simp only[List.getElem?_toArray,List.getElem?_cons_zero,List.getElem?_cons_succ] at b_0 b_1 b_2 b_3
       have HB6:=Lib.hid hb6
       clear hb6 hb8
       by_cases hap:ApP s t
       ·have HAP:=Lib.hid (fun w=>Apart_any (HE.out.ok s HS.out) (HE.out.ok t HT.out) hap (smeet_nn _ _ _ _) w)
        have HI2:Hid (∀ i1,i1<i+1→ApP s (sgAt E i1)):=fun i1 h=>by
         rcases Nat.lt_succ_iff_lt_or_eq.1 h with q | q
         ·exact HI.out i1 q
         ·rw[q,← HTE.out];exact hap
        clear hap
        go_wp2_with fail
        refine(HAP.out _).mono ?_
        rintro e w6 ⟨rfl,hs⟩
        have HS6:=Lib.hid (HS5.out.trans hs)
        have HB7:=Lib.hid (hs.blk HB6.out)
        clear hs HS5 HB6 HAP a_0 a_1 a_2 a_3 b_0 b_1 b_2 b_3
        go_wp2_with fail
        go_roundw
        case rel=>exact⟨i+1,by omega,by go_num,HS6,HB7,HI2⟩
        case measure=>simp[intOf];omega
       ·have HAP:=Lib.hid (fun w=>ApartN_any (HE.out.ok s HS.out) (HE.out.ok t HT.out) hap w)
        clear hap
        go_wp2_with fail
        refine(HAP.out _).mono ?_
        rintro e w6 ⟨rfl,hs⟩
        have HS6:=Lib.hid (HS5.out.trans hs)
        clear hs HS5 HB6 HAP a_0 a_1 a_2 a_3 b_0 b_1 b_2 b_3
        go_wp2_with fail
        go_ret
        exact⟨rfl,HS6.out⟩
      ·obtain rfl:i=j:=by omega
       have hz2:decide ((i:Int)<(i:Int))=false:=by rw[decide_eq_false_iff_not];omega
       have HJ2:Hid (∀ i1 j1,i1<j1→j1<i+1→ApP (sgAt E j1) (sgAt E i1)):=fun i1 j1 h1 h2=>by
        rcases Nat.lt_succ_iff_lt_or_eq.1 h2 with q | q
        ·exact HJ.out i1 j1 h1 q
        ·rw[q,← HSE.out];exact HI.out i1 (by omega)
       go_wp2_with fail
       go_roundw
       case rel=>exact⟨i+1,by omega,by go_num,HR,HJ2⟩
       case measure=>simp[intOf];omega
    ·obtain rfl:j=k:=by omega
     have hz:decide ((j:Int)<(j:Int))=false:=by rw[decide_eq_false_iff_not];omega
     exact absurd HJ.out HNP.out
end
section
open Go.RowKit Go.BigFrame
structure Ap where
 v:Value
 t:TypeId
 k:Nat
 n:Nat
 xs:List Value
 m:Nat
 news:List Value
structure ApK(B base:Nat)(As:List Ap)(w w' : World):Prop where
 os:w'.os=w.os
 tape:w'.tape=w.tape
 output:w'.output=w.output
 size:w.heap.size≤w'.heap.size
 block:∀ i,i<w.heap.size→(∀ A∈As,A.v.ownBlock≠some i)→w'.heap[i]? = w.heap[i]?
 pre:∀ A∈As,w.ownsRow B A.t A.k A.v A.n A.xs→w'.ownsRow B A.t A.k A.v A.n A.xs
 post:∀ A∈As,∀ v',(v'.ownBlock=A.v.ownBlock∨∃ b,v'.ownBlock=some b∧base≤b)→w.ownsRow B A.t A.k v' (A.n+A.m) (A.xs++A.news)→w'.ownsRow B A.t A.k v' (A.n+A.m) (A.xs++A.news)
section
variable {B base : Nat} {As : List Ap} {w w' w'' : World}
theorem ApK.of(h:Since w w'):ApK B base As w w' :=
 ⟨h.os,h.tape,h.output,h.size,fun i hi _=>h.block i hi,fun A _ k=>own_since h k,fun A _ v' _ k=>own_since h k⟩
theorem ApK.trans(h:ApK B base As w w')(k:ApK B base As w' w''):ApK B base As w w'' :=
 ⟨k.os.trans h.os,k.tape.trans h.tape,k.output.trans h.output,Nat.le_trans h.size k.size,fun i hi hn=>(k.block i (Nat.lt_of_lt_of_le hi h.size) hn).trans (h.block i hi hn),fun A hA p=>k.pre A hA (h.pre A hA p),fun A hA v' l p=>k.post A hA v' l (h.post A hA v' l p)⟩
theorem ApK.cell(h:ApK B base As w w'){p:Addr}(hp:∀ A∈As,A.v.ownBlock≠some p.block){u:Value}(hu:w.cell? p=some u):w'.cell? p=some u:=by
 rw[World.cell?_of_block (h.block p.block (World.block_lt_of_cell? w p hu) hp)];exact hu
theorem ApK.blk(h:ApK B base As w w'){g:Nat}{t:TypeId}{cs:Array Value}(hp:∀ A∈As,A.v.ownBlock≠some g)(k:Blk w g t cs):Blk w' g t cs:=(h.block g k.lt hp).trans k
end
@[reducible] def apG (B base : Nat) (As : List Ap) (hb : ∀ A ∈ As, ∀ g, A.v.ownBlock = some g → g < base) : RegG where
 base:=base
 keep:=fun _=>True
 G:=ApK B base As
 rfl_ w:=.of (Since.rfl_ w)
 trans_ h k:=h.trans k
 size_ h:=h.size
 of_ h:=.of h
 new_ h:=fun _ hg k=>h.blk (fun A hA e=>absurd (hb A hA _ e) (by omega)) k
theorem own_prefix{w:World}{B g n n' k:Nat}{t:TypeId}{xs ys:List Value}{cs:Array Value}{cap:Nat}(hb:Blk w g t cs)(hs:cs.size=cap*k)(hB:B≤g)(hcm:cap≤maxLen)(hnc:n≤cap)(hnn:n≤n')(hxl:xs.length=n*k)(ht:cs.toList.take (n' * k)=xs++ys) :
  w.ownsRow B t k (.slice (some ⟨g,0,none⟩) n cap) n xs:=by
 refine⟨hxl,.inr ⟨g,cap,cs,rfl,hB,hb,hnc,hcm,hs,?_⟩⟩
 have h2:n*k≤n' * k:=Nat.mul_le_mul_right k hnn
 rw[show cs.toList.take (n*k)=(cs.toList.take (n' * k)).take (n*k) by rw[List.take_take,Nat.min_eq_left h2],ht,← hxl,List.take_left']
 rfl
theorem ap_run {P:Program} {B base:Nat} {As:List Ap} (hap:∀ A∈As,∀ A' ∈ As,A' ≠ A→∀ g,A.v.ownBlock=some g→A'.v.ownBlock≠some g) (hb:∀ A∈As,∀ g,A.v.ownBlock=some g→g<base)
  {A:Ap} (hA:A∈As) {w:World} (hpre:w.ownsRow B A.t A.k A.v A.n A.xs) (hBw:B≤w.heap.size) (hbw:base≤w.heap.size) (st ty:TypeId) (i:TypeInfo) (z:Value) (bytes:Nat) (ht:P.underlying st=some (.slice A.t)) (hi:P.info? A.t=some i) (hz:i.zero=some z)
  (hsize:i.size=A.k) (hby:i.bytes=bytes) (hzs:z.cells.size=A.k) (hk:0<A.k) (a:Addr) (c:Nat) (hl:A.news.length=A.m*A.k) (hnews:∀ j u,A.news[j]? = some u→w.cell? (a.add j)=some u) (h1:∀ u∈A.news,u.oneCell' = true)
  (hm:A.n+A.m≤maxLen) (hbytes:(A.n+A.m)*bytes≤140737488355328) :
  ∃ v' w',(Builtin.append_ #[st,st] ty #[A.v,.slice (some a) A.m c]).run P w=.ok v' w' ∧ (w'.ownsRow B A.t A.k v' (A.n+A.m) (A.xs++A.news)∧(v'.ownBlock=A.v.ownBlock∨∃ b,v'.ownBlock=some b∧base≤b))∧ApK B base As w w' := by
 obtain⟨v0,w0,hr,ho,hg,-,hloc⟩:=run_append_own_at (P:=P) w B st ty A.t i z A.k bytes ht hi hz hsize hby hzs hk A.v A.n A.xs hpre a A.m c A.news hl hnews h1 hm hbytes hBw
 have hloc' : v0.ownBlock=A.v.ownBlock∨∃ b,v0.ownBlock=some b∧base≤b:=hloc.imp id fun e=>⟨_,e,hbw⟩
 rcases hpre with⟨hxl,⟨hv,hn⟩ | ⟨g,cap,cur,hv,hB,hgb,hnc,hcm,hs,htk⟩⟩
 ·refine⟨v0,w0,hr,⟨ho,hloc'⟩,.of ?_⟩
  rw[hv] at hg
  exact⟨hg.os,hg.tape,hg.output,hg.size,fun j hj=>hg.block j hj (by simp[Value.ownBlock])⟩
 ·have hpre' : w.ownsRow B A.t A.k (.slice (some ⟨g,0,none⟩) A.n cap) A.n A.xs:=⟨hxl,.inr ⟨g,cap,cur,rfl,hB,hgb,hnc,hcm,hs,htk⟩⟩
  have hob:A.v.ownBlock=some g:=by rw[hv];rfl
  rcases Nat.lt_or_ge cap (A.n+A.m) with hlt | hge
  ·-- it moves: all that was there stays
   obtain⟨-,hx⟩:=(show True∧True from⟨trivial,trivial⟩)
   have hr2:=run_append_grow (P:=P) w st ty A.t i z ht hi hz ⟨g,0,none⟩ A.n cap A.xs (by rw[hsize];exact hxl) (fun j u hj=>by
    have e:(⟨g,0,none⟩:Addr).add j=⟨g,j,none⟩:=by unfold Addr.add;split <;> simp_all
    rw[e]
    have hj' : j<A.n*A.k:=by rw[← hxl];exact(List.getElem?_eq_some_iff.1 hj).1
    rw[hpre'.cellAt j hj'];exact hj) a A.m c A.news (by rw[hsize];exact hl) hnews hlt (by unfold maxLen at hm;omega) (by rw[hby];exact growslice_fits hlt hbytes)
   rw[← hv,hr] at hr2
   injection hr2 with e1 e2
   refine⟨v0,w0,hr,⟨ho,hloc'⟩,.of ?_⟩
   rw[e2]
   exact(Since.rfl_ w).drew.alloc _
  ·-- in place
   obtain⟨w1,hr2,ho2,hg2⟩:=run_append_fits (P:=P) w B st ty A.t i A.k ht hi hsize g A.n cap A.xs hpre' a A.m c A.news hl hnews h1 hge
   rw[← hv] at hr2
   refine⟨_,w1,hr2,⟨ho2,.inl (by rw[hob];rfl)⟩,hg2.os,hg2.tape,hg2.output,hg2.size,fun j hj hne=>hg2.block j hj (fun e=>hne A hA (by rw[hob,e])),fun A' hA' hp=>?_,fun A' hA' v' hl' hp=>?_⟩
   ·by_cases e:A' = A
    ·rw[e]
     obtain⟨-,⟨h1,-⟩ | ⟨g',cap',cur',h1,hB',hgb',hnc',hcm',hs',htk'⟩⟩:=ho2
     ·cases h1
     ·injection h1 with h1 _ h3
      injection h1 with h1
      injection h1 with h1
      subst h1 h3
      rw[hv]
      exact own_prefix hgb' hs' hB hcm hnc (Nat.le_add_right _ _) hxl htk'
    ·refine hp.kept hg2 (.inr fun k=>?_)
     exact hap A hA A' hA' e g hob k
   ·by_cases e:v'.ownBlock=some g
    ·by_cases eA:A' = A
     ·rw[eA] at hp ⊢
      obtain⟨hxl',⟨h1,-⟩ | ⟨g',cap',cur',h1,hB',hgb',hnc',hcm',hs',htk'⟩⟩:=hp
      ·rw[h1] at e;cases e
      ·rw[h1] at e
       injection e with e
       dsimp only at e
       subst e
       rw[hgb] at hgb'
       injection hgb' with hgb'
       injection hgb' with hcur
       subst hcur
       obtain⟨-,⟨h2,-⟩ | ⟨g2,cap2,cur2,h2,hB2,hgb2,hnc2,hcm2,hs2,htk2⟩⟩:=ho2
       ·cases h2
       ·injection h2 with h2 _ h3
        injection h2 with h2
        injection h2 with h2
        subst h2 h3
        exact⟨hxl',.inr ⟨g',cap',cur2,h1,hB',hgb2,hnc',hcm',by rw[hs2,← hs,hs'],htk2⟩⟩
     ·exfalso
      rcases hl' with k | ⟨b,k,hk'⟩
      ·rw[e] at k
       exact hap A hA A' hA' eA g hob k.symm
      ·rw[e] at k
       injection k with k
       have:=hb A hA g hob
       omega
    ·exact hp.kept hg2 (.inr e)
theorem ap_one{P:Program}{B base:Nat}{A:Ap}{v:Value}{t:TypeId}{k n m:Nat}{xs news:List Value}(e:A=⟨v,t,k,n,xs,m,news⟩)(hb:∀ A' ∈ [A],∀ g,A'.v.ownBlock=some g→B≤g∧g<base){w0 w:World}(h0:w0.ownsRow B t k v n xs)(hK:ApK B base [A] w0 w)(hBw:B≤w0.heap.size)(hbw:base≤w0.heap.size)
  (st ty:TypeId) (i:TypeInfo) (z:Value) (bytes:Nat) (ht:P.underlying st=some (.slice t)) (hi:P.info? t=some i) (hz:i.zero=some z)
  (hsize:i.size=k) (hby:i.bytes=bytes) (hzs:z.cells.size=k) (hk:0<k) (a:Addr) (c:Nat) (hl:news.length=m*k) (hnews:∀ j u,news[j]? = some u→w.cell? (a.add j)=some u) (h1:∀ u∈news,u.oneCell' = true)
  (hm:n+m≤maxLen) (hbytes:(n+m)*bytes≤140737488355328) :
  ∃ v' w',(Builtin.append_ #[st,st] ty #[v,.slice (some a) m c]).run P w=.ok v' w' ∧ (w'.ownsRow B A.t A.k v' (A.n+A.m) (A.xs++A.news)∧(v'.ownBlock=A.v.ownBlock∨∃ b,v'.ownBlock=some b∧base≤b))∧ApK B base [A] w w' := by
 subst e
 exact ap_run (fun A hA A' hA' hne=>absurd ((List.mem_singleton.1 hA').trans (List.mem_singleton.1 hA).symm) hne) (fun A' hA' g e=>(hb A' hA' g e).2) (List.mem_singleton.2 rfl) (hK.pre _ (List.mem_singleton.2 rfl) h0) (Nat.le_trans hBw hK.size) (Nat.le_trans hbw hK.size) st ty i z bytes ht hi hz hsize hby hzs hk a c hl hnews h1 hm hbytes
theorem runVG_app{P:Program}{o:Oper}{a:Act}{w:World}{post:Value→World→Prop}(s x:Operand)(t:TypeId)(ho:o.op=.call { callee:=.builtin .append,args := #[s,x],argTypes := #[t,t] }){v u:Value}(hs:a.eval s=v)(hx:a.eval x=u)
  (hr:∃ v' w',(Builtin.append_ #[t,t] o.type #[v,u]).run P w=.ok v' w' ∧ post v' w'):runVG P o a w post:=by
 obtain⟨v',w',hr,h⟩:=hr
 unfold runVG execOp
 simp only[ho,resolve,invoke,builtin,Sem.run_bind,Sem.run_pure,Result.andThen_ok,List.map_toArray,List.map_cons,List.map_nil,hs,hx,hr]
 exact h
def MadeR(B:Nat)(e:TypeId)(k n:Nat)(xs:List Value)(v' : Value)(w' : World):Prop:=∃ g,v' = .slice (some ⟨g,0,none⟩) n n∧w'.ownsRow B e k v' n xs
@[reducible] def sinceRG : RegG where
 base:=0
 keep:=fun _=>True
 G:=Since
 rfl_:=Since.rfl_
 trans_ h k:=h.trans k
 size_ h:=h.size
 of_ h:=h
 new_ h:=fun _ _ k=>h.blk k
theorem runVG_make{P:Program}{o:Oper}{a:Act}{w:World}{post:Value→World→Prop}(l c:Operand)(t:TypeId)(ho:o.op=.makeSlice t l c){x y v:Value}(hl:a.eval l=x)(hc:a.eval c=y)
  (hr:∃ w',(Instr.makeSlice t x y).run P w=.ok v w' ∧ post v w'):runVG P o a w post:=by
 obtain⟨w',hr,h⟩:=hr
 unfold runVG
 simp[execOp,ho,hl,hc,hr,Result.andThen]
 exact h
end
section
open Go.RowKit Go.BigFrame
structure Rw where
 v:Value
 t:TypeId
 k:Nat
 n:Nat
 xs:List Value
def ApartV(a b:Value):Prop:=∀ g,a.ownBlock=some g→b.ownBlock≠some g
theorem ApartV.symm{a b:Value}(h:ApartV a b):ApartV b a:=fun g h1 h2=>h g h2 h1
structure Rws(w:World)(B:Nat)(L:List Rw):Prop where
 ok:∀ (i:Nat) (r:Rw),L[i]? = some r→w.ownsRow B r.t r.k r.v r.n r.xs
 ap:∀ (i j:Nat) (r s:Rw),i≠j→L[i]? = some r→L[j]? = some s→ApartV r.v s.v
section
variable {w w' : World} {B : Nat} {L : List Rw}
theorem Rws.kept{row:Option Nat}(h:Rws w B L)(hg:w.grownBy w' row)(hr:∀ (i:Nat) r,L[i]? = some r→r.v.ownBlock=none∨r.v.ownBlock≠row):Rws w' B L :=
 ⟨fun i r hi=>(h.ok i r hi).kept hg (hr i r hi),h.ap⟩
theorem Rws.since(h:Rws w B L)(hs:Since w w'):Rws w' B L:=⟨fun i r hi=>own_since hs (h.ok i r hi),h.ap⟩
theorem Rws.drew(h:Rws w B L):Rws w.drew B L:=h.since (Since.rfl_ w).drew
theorem Rws.low(h:Rws w B L){p:Addr}(hp:p.block<B)(u:Value):Rws (w.setCell p u) B L :=
 h.kept (set_grown w p u) fun i r hi=>.inr fun e=>by have:=((h.ok i r hi).lt _ e).1;omega
theorem Rws.upd(h:Rws w B L){i:Nat}{r:Rw}(r' : Rw)(hi:L[i]? = some r)(hg:w.grownBy w' r.v.ownBlock)(ho:w'.ownsRow B r'.t r'.k r'.v r'.n r'.xs)
  (hl:∀ b,r'.v.ownBlock=some b→r.v.ownBlock=some b∨w.heap.size≤b):Rws w' B (L.set i r'):=by
 have hil:i<L.length:=(List.getElem?_eq_some_iff.1 hi).1
 have new_:∀ (j:Nat) s,j≠i→L[j]? = some s→ApartV s.v r'.v:=fun j s hj hs g h1 h2=>by
  rcases hl g h2 with e | hb
  ·exact h.ap j i s r hj hs hi g h1 e
  ·have:=((h.ok j s hs).lt g h1).2
   omega
 refine⟨fun j s hs=>?_,fun j k s u hjk hs hu=>?_⟩
 ·by_cases e:j=i
  ·subst e
   rw[List.getElem?_set_self hil] at hs
   injection hs with hs
   rw[← hs];exact ho
  ·rw[List.getElem?_set_ne (Ne.symm e)] at hs
   refine(h.ok j s hs).kept hg ?_
   cases hb:s.v.ownBlock with
   | none=>exact .inl rfl
   | some g=>exact .inr fun k=>h.ap j i s r e hs hi g hb k.symm
 ·by_cases e:j=i
  ·have e2:k≠i:=fun k' => hjk (by rw[e,k'])
   subst e
   rw[List.getElem?_set_self hil] at hs
   injection hs with hs
   rw[List.getElem?_set_ne (Ne.symm e2)] at hu
   rw[← hs]
   exact(new_ k u e2 hu).symm
  ·rw[List.getElem?_set_ne (Ne.symm e)] at hs
   by_cases e2:k=i
   ·subst e2
    rw[List.getElem?_set_self hil] at hu
    injection hu with hu
    rw[← hu]
    exact new_ j s e hs
   ·rw[List.getElem?_set_ne (Ne.symm e2)] at hu
    exact h.ap j k s u hjk hs hu
theorem own_setK{b g c n k i:Nat}{e:TypeId}{xs:List Value}(h:w.ownsRow b e k (.slice (some ⟨g,0,none⟩) n c) n xs)(hi:i<n*k)(u:Value):(w.setCell ⟨g,i,none⟩ u).ownsRow b e k (.slice (some ⟨g,0,none⟩) n c) n (xs.set i u):=by
 obtain⟨hl,⟨h1,-⟩ | ⟨g',cap,cur,h1,hb,hg,hc,hm,hs,ht⟩⟩:=h
 ·cases h1
 ·injection h1 with h1 _ h3
  injection h1 with h1
  injection h1 with h1
  subst h1 h3
  have hle:n*k≤c*k:=Nat.mul_le_mul_right k hc
  refine⟨by rw[List.length_set];exact hl,.inr ⟨g,c,cur.setIfInBounds i u,rfl,hb,Blk.set_ hg i u,hc,hm,by simp[hs],?_⟩⟩
  rw[Array.toList_setIfInBounds,List.take_set,ht]
theorem Rws.num(h:Rws w B L){i:Nat}{r:Rw}(hi:L[i]? = some r){g n c:Nat}(hv:r.v=.slice (some ⟨g,0,none⟩) n c):r.v=.slice (some ⟨g,0,none⟩) r.n c:=by
 obtain⟨a,c',e⟩:=own_slice (h.ok i r hi)
 rw[hv] at e
 injection e with e1 e2 e3
 rw[hv,e2]
theorem Rws.store(h:Rws w B L){i:Nat}{r:Rw}(hi:L[i]? = some r){g n c:Nat}(hv:r.v=.slice (some ⟨g,0,none⟩) n c){j:Nat}(hj:j<r.n*r.k)(u:Value):Rws (w.setCell ⟨g,j,none⟩ u) B (L.set i { r with xs:=r.xs.set j u }):=by
 have ho:=h.ok i r hi
 replace hv:=h.num hi hv
 rw[hv] at ho
 refine h.upd { r with xs:=r.xs.set j u } hi (by rw[hv];exact set_grown w ⟨g,j,none⟩ u) ?_ (fun b e=>.inl e)
 show World.ownsRow _ _ _ _ _ _ _
 rw[hv]
 exact own_setK ho hj u
theorem Rws.fresh(h:Rws w B L){i:Nat}{r:Rw}(r' : Rw)(hi:L[i]? = some r)(hs:Since w w')(hB:B≤w.heap.size)(ho:w'.ownsRow w.heap.size r'.t r'.k r'.v r'.n r'.xs):Rws w' B (L.set i r'):=by
 exact h.upd r' hi ⟨hs.os,hs.tape,hs.output,hs.size,fun j hj _=>hs.block j hj⟩ (ho.mono hB) fun b e=>.inr (ho.lt b e).1
theorem Rws.cell(h:Rws w B L){i:Nat}{r:Rw}(hi:L[i]? = some r){g n c:Nat}(hv:r.v=.slice (some ⟨g,0,none⟩) n c){j:Nat}(hj:j<r.n*r.k):w.cell? ⟨g,j,none⟩=r.xs[j]? := by
 have ho:=h.ok i r hi
 replace hv:=h.num hi hv
 rw[hv] at ho
 exact ho.cellAt j hj
theorem Rws.frozen(h:Rws w B L){i:Nat}{r:Rw}(hi:L[i]? = some r){g n c:Nat}(hv:r.v=.slice (some ⟨g,0,none⟩) n c)(j:Nat):w.frozen? ⟨g,j,none⟩=false:=by
 have ho:=h.ok i r hi
 replace hv:=h.num hi hv
 rw[hv] at ho
 exact ho.frozenAt j
theorem Rws.more(h:Rws w B L)(M:List Rw)(hM:∀ r∈M,r.v=.slice none 0 0∧r.n=0∧r.xs=[]):Rws w B (L++M):=by
 have nob:∀ r∈M,r.v.ownBlock=none:=fun r hr=>by rw[(hM r hr).1];rfl
 refine⟨fun i r hi=>?_,fun i j r s hij hi hj=>?_⟩
 ·rcases Nat.lt_or_ge i L.length with k | k
  ·rw[List.getElem?_append_left k] at hi;exact h.ok i r hi
  ·rw[List.getElem?_append_right k] at hi
   obtain⟨e1,e2,e3⟩:=hM r (List.mem_of_getElem? hi)
   rw[e1,e2,e3]
   exact World.ownsRow_nil _ _ _ _
 ·rcases Nat.lt_or_ge i L.length with k | k
  ·rw[List.getElem?_append_left k] at hi
   rcases Nat.lt_or_ge j L.length with k2 | k2
   ·rw[List.getElem?_append_left k2] at hj;exact h.ap i j r s hij hi hj
   ·rw[List.getElem?_append_right k2] at hj
    intro g h1 h2
    rw[nob s (List.mem_of_getElem? hj)] at h2;cases h2
  ·rw[List.getElem?_append_right k] at hi
   intro g h1 h2
   rw[nob r (List.mem_of_getElem? hi)] at h1;cases h1
theorem Rws.app{base:Nat}{A:Ap}(h:Rws w B L){i:Nat}{r:Rw}(hi:L[i]? = some r)(hv:A.v=r.v)(hb:w.heap.size≤base)(hK:ApK B base [A] w w')(r' : Rw)(ho:w'.ownsRow B r'.t r'.k r'.v r'.n r'.xs)(hl:r'.v.ownBlock=A.v.ownBlock∨∃ b,r'.v.ownBlock=some b∧base≤b):Rws w' B (L.set i r'):=by
 refine h.upd r' hi ⟨hK.os,hK.tape,hK.output,hK.size,fun j hj hne=>hK.block j hj fun A' hA' e=>?_⟩ ho ?_
 ·rw[List.mem_singleton.1 hA',hv] at e
  exact hne e.symm
 ·intro b e
  rcases hl with k | ⟨b',k,k'⟩
  ·exact .inl (by rw[← hv,← k];exact e)
  ·rw[e] at k
   injection k with k
   exact .inr (by omega)
end
end
section
open Go.RowKit Go.BigFrame Go.Maps
theorem infoHf:(Tryz.prog.info? 33).map (fun i=>(i.zero,i.size,i.bytes))=some (some (.agg #[.int .i64 0,.int .i64 0,.int .i64 0,.int .i64 0]),4,32):=by kernel_rfl
theorem infoI:(Tryz.prog.info? 3).map (fun i=>(i.zero,i.size,i.bytes))=some (some (.int .i64 0),1,8):=by kernel_rfl
theorem infoIs:(Tryz.prog.info? 22).map (fun i=>(i.zero,i.size,i.bytes))=some (some (.slice none 0 0),1,24):=by kernel_rfl
abbrev Hf:=Int×Int×Int×Int
def hfV(h:Hf):List Value:=[.int .i64 h.1,.int .i64 h.2.1,.int .i64 h.2.2.1,.int .i64 h.2.2.2]
def hAt(l:List Hf)(i:Nat):Hf:=l.getD i (0,0,0,0)
def iV(x:Int):Value:=.int .i64 x
def iAt(l:List Int)(i:Nat):Int:=l.getD i 0
structure St where
 vP:Value
 vH:Value
 vF:Value
 vC:Value
 vI:Value
 vT:Value
 vA:Value
 vO:Value
 P:List Pt2
 H:List Hf
 F:List Int
 C:List Int
 I:List Int
 T:List Int
 A:List Int
 O:List (Value×List Int)
def nilV:Value:=.slice none 0 0
def St.nil:St:=⟨nilV,nilV,nilV,nilV,nilV,nilV,nilV,nilV,[],[],[],[],[],[],[],[]⟩
def rI(v:Value)(l:List Int):Rw:=⟨v,3,1,l.length,l.map iV⟩
def St.rows(s:St):List Rw:=[⟨s.vP,36,2,s.P.length,s.P.flatMap ptV⟩,⟨s.vH,33,4,s.H.length,s.H.flatMap hfV⟩,rI s.vF s.F,rI s.vC s.C,rI s.vI s.I,rI s.vT s.T,rI s.vA s.A,⟨s.vO,22,1,s.O.length,s.O.map Prod.fst⟩]++s.O.map fun p=>rI p.1 p.2
structure Mk(w:World)(G:Nat)(s:St):Prop where
 blk:Blk w G 94 #[s.vP,s.vH,s.vF,s.vC,s.vI,s.vT,s.vA,s.vO]
 rows:Rws w (G+1) s.rows
section
variable {w w' : World} {G : Nat} {s : St}
theorem Mk.since(h:Mk w G s)(hs:Since w w'):Mk w' G s:=⟨hs.blk h.blk,h.rows.since hs⟩
theorem Mk.alloc(h:Mk w G s)(o:Obj):Mk (w.alloc o) G s:=h.since ((Since.rfl_ w).alloc o)
theorem Mk.lt(h:Mk w G s):G<w.heap.size:=h.blk.lt
theorem Rws.slice{B:Nat}{L:List Rw}(h:Rws w B L){i:Nat}{r:Rw}(hi:L[i]? = some r):∃ a c,r.v=.slice a r.n c:=own_slice (h.ok i r hi)
end
noncomputable abbrev RI:Value→Option (DataW Unit×List MemPlace):=plainElem Tryz.prog 3
def NumP(w:World)(b:Nat)(L:List Pt2)(k:Nat):Prop :=
 ∃ (D:DataW Unit) (n:Nat),n≤k∧w.ownsMap Tryz.prog 36 RI b n D∧∀ j,j<k→D.atKey (ptKey (pAt L j)) (.lit (.int .i64 0))=.lit (.int .i64 j)
theorem NumP.lt{w:World}{b k:Nat}{L:List Pt2}(h:NumP w b L k):b<w.heap.size:=by obtain⟨D,n,-,h,-⟩:=h;exact h.lt
theorem NumP.kept{w w' : World}{b k:Nat}{L:List Pt2}(h:NumP w b L k){row:Option Nat}(hg:w.grownBy w' row)(hne:some b≠row):NumP w' b L k:=by
 obtain⟨D,n,hn,h,hk⟩:=h
 exact⟨D,n,hn,h.kept hg hne,hk⟩
theorem NumP.since{w w' : World}{b k:Nat}{L:List Pt2}(h:NumP w b L k)(hs:Since w w'):NumP w' b L k :=
 h.kept (row:=none) ⟨hs.os,hs.tape,hs.output,hs.size,fun i hi _=>hs.block i hi⟩ (by simp)
theorem NumP.made(w:World)(L:List Pt2):NumP (w.alloc (.map #[] 0)) w.heap.size L 0 :=
 ⟨.map [],0,Nat.le_refl _,World.ownsMap_made w _ _ _,fun j hj=>absurd hj (Nat.not_lt_zero _)⟩
theorem undN:Tryz.prog.underlying 111=some (.map 36 3):=Tryz.underlying111
theorem wf_nat{j:Nat}(h:j≤1000000000):(Lit.int .i64 (j:Int)).wf=true:=by
 have e1:IntKind.i64.min = -9223372036854775808:=by rfl
 have e2:IntKind.i64.max=9223372036854775807:=by rfl
 simp only[Lit.wf,e1,e2,Bool.and_eq_true,decide_eq_true_eq];omega
theorem NumP.store{w:World}{b k:Nat}{L:List Pt2}(h:NumP w b L k)(hk:k<L.length)(hl:L.length≤1000000000)(hok:∀ p∈L,okP p.1 p.2=true)(hnd:L.Nodup) :
  ∃ w',(Instr.mapUpdate 111 (.map (some b)) (ptA (pAt L k)) (.int .i64 k)).run Tryz.prog w=.ok () w' ∧ NumP w' b L (k+1)∧Only b w w' := by
 obtain⟨D,n,hn,h,hat⟩:=h
 have okk:=hok _ (pAt_mem hk)
 obtain⟨w',h1,h2,h3⟩:=h.update (val:=.int .i64 k) keysM undN (by unfold maxLen;omega) (key_pt okk) (plainElem_int Tryz.underlying3 (wf_nat (j:=k) (by omega)))
 refine⟨w',h1,⟨_,n+1,by omega,h2,fun j hj=>?_⟩,h3⟩
 by_cases e:j=k
 ·subst e
  exact atKey_put_same h.isMap (keysM.key (key_pt okk)) _ _
 ·have hjk:j<k:=by omega
  rw[atKey_put_other (fun e2=>?_)]
  ·exact hat j hjk
  ·have:=ptKey_inj (hok _ (pAt_mem (show j<L.length by omega))) okk e2
   have hp:=List.pairwise_iff_getElem.1 hnd j k (by omega) hk hjk
   apply hp
   have e3:pAt L j=L[j]:=by simp[pAt,List.getD,show j<L.length by omega]
   have e4:pAt L k=L[k]:=by simp[pAt,List.getD,hk]
   rw[← e3,← e4];exact this
theorem NumP.look{w:World}{b:Nat}{L:List Pt2}(h:NumP w b L L.length)(hok:∀ p∈L,okP p.1 p.2=true){j:Nat}(hj:j<L.length) :
  (Instr.lookup 111 (.map (some b)) (ptA (pAt L j)) false).run Tryz.prog w=.ok (.int .i64 j) w:=by
 obtain⟨D,n,hn,h,hat⟩:=h
 obtain⟨c,hrun,hc,-⟩:=h.lookup_int (q:=.i64) keysM undN Tryz.underlying3 (Tryz.zeroValue3 w) (key_pt (hok _ (pAt_mem hj)))
 rw[hat j hj] at hc
 have h2:=(Lit.int.inj (DataW.lit.inj hc)).2
 rw[hrun,h2]
theorem Rws.ne_num{w:World}{B b k:Nat}{R:List Rw}{L:List Pt2}(h:Rws w B R){i:Nat}{r:Rw}(hi:R[i]? = some r)(hN:NumP w b L k):r.v.ownBlock≠some b:=fun e=>by
 obtain⟨D,n,-,⟨es,clock,hm,-⟩,-⟩:=hN
 obtain⟨-,⟨h1,-⟩ | ⟨g',cap,cur,h1,-,hg,-⟩⟩:=h.ok i r hi
 ·rw[h1] at e;cases e
 ·rw[h1] at e
  injection e with e
  dsimp only at e
  subst e
  rw[hm] at hg
  cases hg
theorem Mk.onlyM{w w' : World}{G b k:Nat}{s:St}{L:List Pt2}(h:Mk w G s)(hN:NumP w b L k)(hon:Only b w w')(hb:G≠b):Mk w' G s :=
 ⟨hon.blk h.blk hb,h.rows.kept hon fun i r hi=>.inr (h.rows.ne_num hi hN)⟩
theorem ApK.one{w w' : World}{B base:Nat}{A:Ap}(h:ApK B base [A] w w'):w.grownBy w' A.v.ownBlock :=
 ⟨h.os,h.tape,h.output,h.size,fun i hi hne=>h.block i hi fun A' hA' e=>by rw[List.mem_singleton.1 hA'] at e;exact hne e.symm⟩
theorem NumP.apk{w w' : World}{B base b k i:Nat}{A:Ap}{R:List Rw}{r:Rw}{L:List Pt2}(hN:NumP w b L k)(h:Rws w B R)(hi:R[i]? = some r)(hA:A.v=r.v)(hK:ApK B base [A] w w'):NumP w' b L k :=
 hN.kept hK.one fun e=>h.ne_num hi hN (by rw[← hA];exact e.symm)
theorem rowI_cell{w:World}{B g c:Nat}{l:List Int}(h:w.ownsRow B 3 1 (.slice (some ⟨g,0,none⟩) l.length c) l.length (l.map iV)){j:Nat}(hj:j<l.length):w.cell? ⟨g,j,none⟩=some (.int .i64 (iAt l j)):=by
 rw[h.cellAt j (by omega)]
 simp[iAt,iV,List.getD,hj]
theorem hfV_len(x:Hf):(hfV x).length=4:=rfl
theorem flatH_len(l:List Hf):(l.flatMap hfV).length=l.length*4:=by
 induction l with
 | nil=>rfl
 | cons p l ih=>rw[List.flatMap_cons,List.length_append,ih,hfV_len,List.length_cons];omega
theorem rowH_cells{w:World}{B g c:Nat}{l:List Hf}(h:w.ownsRow B 33 4 (.slice (some ⟨g,0,none⟩) l.length c) l.length (l.flatMap hfV)){j:Nat}(hj:j<l.length) :
  w.cell? ⟨g,j*4,none⟩=some (.int .i64 (hAt l j).1)∧w.cell? ⟨g,j*4+1,none⟩=some (.int .i64 (hAt l j).2.1)∧w.cell? ⟨g,j*4+2,none⟩=some (.int .i64 (hAt l j).2.2.1)∧w.cell? ⟨g,j*4+3,none⟩=some (.int .i64 (hAt l j).2.2.2):=by
 have e:hAt l j=l[j]:=by simp[hAt,List.getD,hj]
 rw[e]
 refine⟨?_,?_,?_,?_⟩
 ·rw[h.cellAt _ (by omega)];have:=flat_at hfV_len l j 0 hj (by decide);simpa[hfV] using this
 ·rw[h.cellAt _ (by omega),flat_at hfV_len l j 1 hj (by decide)];rfl
 ·rw[h.cellAt _ (by omega),flat_at hfV_len l j 2 hj (by decide)];rfl
 ·rw[h.cellAt _ (by omega),flat_at hfV_len l j 3 hj (by decide)];rfl
theorem St.rows_out{s:St}{v:Nat}(h:v<s.O.length):s.rows[8+v]? = some (rI (s.O.getD v (nilV,[])).1 (s.O.getD v (nilV,[])).2):=by
 have e:s.O.getD v (nilV,[])=s.O[v]:=by simp[List.getD,h]
 rw[e]
 unfold St.rows
 rw[List.getElem?_append_right (by simp)]
 simp[h]
theorem St.rows_setO{s:St}{v:Nat}(x:Value×List Int):(s.rows.set (8+v) (rI x.1 x.2)).set 7 ⟨s.vO,22,1,s.O.length,(s.O.map Prod.fst).set v x.1⟩={ s with O:=s.O.set v x }.rows:=by
 unfold St.rows
 rw[List.set_append_right _ _ (by simp)]
 have e:8+v - [(⟨s.vP,36,2,s.P.length,s.P.flatMap ptV⟩:Rw),⟨s.vH,33,4,s.H.length,s.H.flatMap hfV⟩,rI s.vF s.F,rI s.vC s.C,rI s.vI s.I,rI s.vT s.T,rI s.vA s.A,⟨s.vO,22,1,s.O.length,s.O.map Prod.fst⟩].length=v:=by simp
 rw[e,List.set_append_left _ _ (by simp)]
 simp only[List.map_set,List.length_set]
 rfl
end
end Go.Proofs.YtdnccjdlmepafaaGreat
