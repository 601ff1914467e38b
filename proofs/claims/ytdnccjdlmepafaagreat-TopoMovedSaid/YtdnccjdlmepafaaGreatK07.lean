/-
  The walk of seg.Meet; Walks of bits.Mul64, bits.Div64, bits.Add64; Walks of package wide: Of, Mul, Add, Div, Short; Walks of package wide: Short, Add, Div. Conditions: those that each lemma names.
-/
import Derived.Test.YtdnccjdlmepafaaGreatK06
import Derived.Test.YtdnccjdlmepafaaGreatK03
import Derived.Lib.Mul64
import Derived.Laws.Bits64b
import Derived.Laws.Externs
import Derived.Shelf.Bits.Mul64
import Derived.Laws.StructEq
import Derived.Laws.DeepNot64
set_option linter.unusedSimpArgs false
set_option linter.unusedVariables false
set_option linter.constructorNameAsVariable false
namespace Go.Proofs.YtdnccjdlmepafaaGreat
section
open Go.RowKit Go.BigFrame
attribute [local go_sem ↓] eqPt neqPt
def smeetV(a b c d:Pt2):Int :=
 if turnV a.1 a.2 b.1 b.2 c.1 c.2*turnV a.1 a.2 b.1 b.2 d.1 d.2<0∧turnV c.1 c.2 d.1 d.2 a.1 a.2*turnV c.1 c.2 d.1 d.2 b.1 b.2<0 then 1 else min 2 ((sharedL a b c d).length:Int)
theorem turnV_bd(ax ay bx by_ cx cy:Int) : -1≤turnV ax ay bx by_ cx cy∧turnV ax ay bx by_ cx cy≤1:=by unfold turnV cmpI;split <;> (try split) <;> omega
theorem one_mul_bd{s t:Int}(hs : -1≤s∧s≤1)(ht : -1≤t∧t≤1) : -1≤s*t∧s*t≤1:=by
 have:s = -1∨s=0∨s=1:=by omega
 rcases this with h | h | h <;> rw[h] <;> omega
set_option maxRecDepth 100000 in
set_option maxHeartbeats 4000000 in
theorem SMeetG_any{a b c d:Pt2}(ha:okP a.1 a.2=true)(hb:okP b.1 b.2=true)(hc:okP c.1 c.2=true)(hd:okP d.1 d.2=true)(w:World) :
  Calls Tryz.prog 99 #[.agg #[.int .i64 a.1,.int .i64 a.2],.agg #[.int .i64 b.1,.int .i64 b.2],.agg #[.int .i64 c.1,.int .i64 c.2],.agg #[.int .i64 d.1,.int .i64 d.2]] w fun e w' =>
   e=.returned (.int .i64 (smeetV a b c d))∧Since w w' := by
 obtain⟨s,HS⟩:∃ s,Hid (s=turnV a.1 a.2 b.1 b.2 c.1 c.2):=⟨_,rfl⟩
 obtain⟨t,HT⟩:∃ t,Hid (t=turnV a.1 a.2 b.1 b.2 d.1 d.2):=⟨_,rfl⟩
 obtain⟨s',HS'⟩:∃ s',Hid (s' = turnV c.1 c.2 d.1 d.2 a.1 a.2):=⟨_,rfl⟩
 obtain⟨t',HT'⟩:∃ t',Hid (t' = turnV c.1 c.2 d.1 d.2 b.1 b.2):=⟨_,rfl⟩
 have HM:Hid (smeetV a b c d=if s*t<0∧s' * t' < 0 then 1 else min 2 ((sharedL a b c d).length:Int)):=by show _=_;rw[HS.out,HT.out,HS'.out,HT'.out];rfl
 have hst : -1≤s*t∧s*t≤1:=by rw[HS.out,HT.out];exact one_mul_bd (turnV_bd _ _ _ _ _ _) (turnV_bd _ _ _ _ _ _)
 have hst' : -1≤s' * t' ∧ s' * t' ≤ 1:=by rw[HS'.out,HT'.out];exact one_mul_bd (turnV_bd _ _ _ _ _ _) (turnV_bd _ _ _ _ _ _)
 have hw:wrap64 (s*t)=s*t:=wrap_id (by omega)
 have hw' : wrap64 (s' * t')=s' * t' := wrap_id (by omega)
 have HSH:=Lib.hid (fun w=>shared_any a b c d w)
 go_enter Tryz.func99,Tryz.ntmps99
 go_upto_region 1 with fail
 obtain⟨G,HG⟩:∃ G,G=w.heap.size:=⟨_,rfl⟩
 rw[← HG]
 refine atW (fun w' => Since w w' ∧ Blk w' G 36 #[.int .i64 a.1,.int .i64 a.2]∧Blk w' (G+1) 36 #[.int .i64 b.1,.int .i64 b.2]∧Blk w' (G+1+1) 36 #[.int .i64 c.1,.int .i64 c.2]∧Blk w' (G+1+1+1) 36 #[.int .i64 d.1,.int .i64 d.2]) ⟨((((Since.rfl_ w).alloc _).alloc _).alloc _).alloc _,(((Blk.new' HG).alloc _).alloc _).alloc _,((Blk.new' (by simp[HG])).alloc _).alloc _,(Blk.new' (by simp[HG])).alloc _,Blk.new' (by simp[HG])⟩ ?_
 rintro w1 ⟨hs,ba,bb,bc,bd⟩
 go_cut [] from 9 to 46 (fun w' => Since w w' ∧ Blk w' G 36 #[.int .i64 a.1,.int .i64 a.2]∧Blk w' (G+1) 36 #[.int .i64 b.1,.int .i64 b.2]∧Blk w' (G+1+1) 36 #[.int .i64 c.1,.int .i64 c.2]∧Blk w' (G+1+1+1) 36 #[.int .i64 d.1,.int .i64 d.2])
 case first =>
   have hw1:=hs.size
   have HGG:=Lib.hid HG
   letI TT:Tgt:=⟨fun g=>if g=G then some (.cells #[.int .i64 a.1,.int .i64 a.2] 36) else if g=G+1 then some (.cells #[.int .i64 b.1,.int .i64 b.2] 36) else if g=G+1+1 then some (.cells #[.int .i64 c.1,.int .i64 c.2] 36) else if g=G+1+1+1 then some (.cells #[.int .i64 d.1,.int .i64 d.2] 36) else none⟩
   have KT:∀ g,g<G→Tgt.T g=none:=fun g h=>by
    show(if _ then _ else if _ then _ else if _ then _ else if _ then _ else _)=_
    rw[if_neg (by omega),if_neg (by omega),if_neg (by omega),if_neg (by omega)]
   have KU:∀ g,G+1+1+1<g→Tgt.T g=none:=fun g h=>by
    show(if _ then _ else if _ then _ else if _ then _ else if _ then _ else _)=_
    rw[if_neg (by omega),if_neg (by omega),if_neg (by omega),if_neg (by omega)]
   have K0:Tgt.T (G)=some (.cells #[.int .i64 a.1,.int .i64 a.2] 36 (0,0)):=if_pos rfl
   have K1:Tgt.T (G+1)=some (.cells #[.int .i64 b.1,.int .i64 b.2] 36 (0,0)):=(if_neg (by omega)).trans (if_pos rfl)
   have K2:Tgt.T (G+1+1)=some (.cells #[.int .i64 c.1,.int .i64 c.2] 36 (0,0)):=(if_neg (by omega)).trans ((if_neg (by omega)).trans (if_pos rfl))
   have K3:Tgt.T (G+1+1+1)=some (.cells #[.int .i64 d.1,.int .i64 d.2] 36 (0,0)):=(if_neg (by omega)).trans ((if_neg (by omega)).trans ((if_neg (by omega)).trans (if_pos rfl)))
   have KB:∀ w',SinceT w1 w' → Blk w' (G) 36 #[.int .i64 a.1,.int .i64 a.2]∧Blk w' (G+1) 36 #[.int .i64 b.1,.int .i64 b.2]∧Blk w' (G+1+1) 36 #[.int .i64 c.1,.int .i64 c.2]∧Blk w' (G+1+1+1) 36 #[.int .i64 d.1,.int .i64 d.2]:=fun w' h =>
    ⟨h.blkT K0 ba,h.blkT K1 bb,h.blkT K2 bc,h.blkT K3 bd⟩
   have KF:∀ w',SinceT w1 w' → w'.cell? ⟨G,0,none⟩=some (.int .i64 a.1)∧w'.cell? ⟨G,1,none⟩=some (.int .i64 a.2)∧w'.cell? ⟨G+1,0,none⟩=some (.int .i64 b.1)∧w'.cell? ⟨G+1,1,none⟩=some (.int .i64 b.2)∧w'.cell? ⟨G+1+1,0,none⟩=some (.int .i64 c.1)∧w'.cell? ⟨G+1+1,1,none⟩=some (.int .i64 c.2)∧w'.cell? ⟨G+1+1+1,0,none⟩=some (.int .i64 d.1)∧w'.cell? ⟨G+1+1+1,1,none⟩=some (.int .i64 d.2):=fun w' h =>
    ⟨(KB w' h).1.cell 0,(KB w' h).1.cell 1,(KB w' h).2.1.cell 0,(KB w' h).2.1.cell 1,(KB w' h).2.2.1.cell 0,(KB w' h).2.2.1.cell 1,(KB w' h).2.2.2.cell 0,(KB w' h).2.2.2.cell 1⟩
   have KB:=Lib.hid KB
   have KF:=Lib.hid KF
   have hl4:=bd.lt
   have HS1:=Lib.hid hs
   clear ba bb bc bd hs HG
   apply region_factsT 12 (fun w' => SinceT w1 w')
   case hm=>kernel_rfl
   case hB=>kernel_rfl
   case hS=>exact(SinceT.rfl_ w1).drew
   case hmono=>exact(fun _ _ h k=>h.trans k)
   case hTb=>exact(fun g hg=>KU g (by omega))
   case h =>
   simp only[List.take_succ_cons,List.take_zero,List.drop_succ_cons,List.drop_zero]
   (apply wpO_detT;(case hw=>rfl);(case h=>intro hFm wx hS_ hF_ K hK;go_big_quiet_op;first | exact hK _ rfl | (apply Exists.intro;refine⟨fun _=>?_,?_⟩;(focus (first | (intro hC;have hC:=KF.out _ hC.out.1;(try simp only[hC,Result.andThen]);first | exact⟨True.intro,rfl⟩ | exact⟨rfl,rfl⟩ | rfl)));exact hK _ rfl));(case' k=>simp only[Act.put,List.setIfInBounds_toArray,List.set_cons_succ,List.set_cons_zero,List.cons_append,List.nil_append]))
   (apply wpO_detT;(case hw=>rfl);(case h=>intro hFm wx hS_ hF_ K hK;go_big_quiet_op;first | exact hK _ rfl | (apply Exists.intro;refine⟨fun _=>?_,?_⟩;(focus (first | (intro hC;go_at_call 69;refine(Clamp_val ha _).mono ?_;rintro e w' ⟨rfl,hb⟩;refine⟨rfl,?_⟩;exact cls_callT (fun _ _ h k=>h.trans k) hFm hC hb)));exact hK _ rfl));(case' k=>simp only[Act.put,List.setIfInBounds_toArray,List.set_cons_succ,List.set_cons_zero,List.cons_append,List.nil_append]))
   (apply wpO_detT;(case hw=>rfl);(case h=>intro hFm wx hS_ hF_ K hK;go_big_quiet_op;first | exact hK _ rfl | (apply Exists.intro;refine⟨fun _=>?_,?_⟩;(focus (first | (intro hC;have hC:=KF.out _ hC.out.1;(try simp only[hC,Result.andThen]);first | exact⟨True.intro,rfl⟩ | exact⟨rfl,rfl⟩ | rfl)));exact hK _ rfl));(case' k=>simp only[Act.put,List.setIfInBounds_toArray,List.set_cons_succ,List.set_cons_zero,List.cons_append,List.nil_append]))
   (apply wpO_detT;(case hw=>rfl);(case h=>intro hFm wx hS_ hF_ K hK;go_big_quiet_op;first | exact hK _ rfl | (apply Exists.intro;refine⟨fun _=>?_,?_⟩;(focus (first | (intro hC;go_at_call 69;refine(Clamp_val hb _).mono ?_;rintro e w' ⟨rfl,hb⟩;refine⟨rfl,?_⟩;exact cls_callT (fun _ _ h k=>h.trans k) hFm hC hb)));exact hK _ rfl));(case' k=>simp only[Act.put,List.setIfInBounds_toArray,List.set_cons_succ,List.set_cons_zero,List.cons_append,List.nil_append]))
   (apply wpO_detT;(case hw=>rfl);(case h=>intro hFm wx hS_ hF_ K hK;go_big_quiet_op;first | exact hK _ rfl | (apply Exists.intro;refine⟨fun _=>?_,?_⟩;(focus (first | (intro hC;have hC:=KF.out _ hC.out.1;(try simp only[hC,Result.andThen]);first | exact⟨True.intro,rfl⟩ | exact⟨rfl,rfl⟩ | rfl)));exact hK _ rfl));(case' k=>simp only[Act.put,List.setIfInBounds_toArray,List.set_cons_succ,List.set_cons_zero,List.cons_append,List.nil_append]))
   (apply wpO_detT;(case hw=>rfl);(case h=>intro hFm wx hS_ hF_ K hK;go_big_quiet_op;first | exact hK _ rfl | (apply Exists.intro;refine⟨fun _=>?_,?_⟩;(focus (first | (intro hC;go_at_call 69;refine(Clamp_val hc _).mono ?_;rintro e w' ⟨rfl,hb⟩;refine⟨rfl,?_⟩;exact cls_callT (fun _ _ h k=>h.trans k) hFm hC hb)));exact hK _ rfl));(case' k=>simp only[Act.put,List.setIfInBounds_toArray,List.set_cons_succ,List.set_cons_zero,List.cons_append,List.nil_append]))
   (apply wpO_detT;(case hw=>rfl);(case h=>intro hFm wx hS_ hF_ K hK;go_big_quiet_op;first | exact hK _ rfl | (apply Exists.intro;refine⟨fun _=>?_,?_⟩;(focus (first | (intro hC;have hC:=KF.out _ hC.out.1;(try simp only[hC,Result.andThen]);first | exact⟨True.intro,rfl⟩ | exact⟨rfl,rfl⟩ | rfl)));exact hK _ rfl));(case' k=>simp only[Act.put,List.setIfInBounds_toArray,List.set_cons_succ,List.set_cons_zero,List.cons_append,List.nil_append]))
   (apply wpO_detT;(case hw=>rfl);(case h=>intro hFm wx hS_ hF_ K hK;go_big_quiet_op;first | exact hK _ rfl | (apply Exists.intro;refine⟨fun _=>?_,?_⟩;(focus (first | (intro hC;go_at_call 69;refine(Clamp_val hd _).mono ?_;rintro e w' ⟨rfl,hb⟩;refine⟨rfl,?_⟩;exact cls_callT (fun _ _ h k=>h.trans k) hFm hC hb)));exact hK _ rfl));(case' k=>simp only[Act.put,List.setIfInBounds_toArray,List.set_cons_succ,List.set_cons_zero,List.cons_append,List.nil_append]))
   apply wpO_anyT (R:=(fun _ _=>True))
   case hR=>exact(fun _ _ _ h _=>h)
   case hw=>rfl
   case h =>
    intro wx hS_ hF_
    unfold runVT
    (have hb:=(KB.out _ hS_).1;have c0:=hb.cell 0;have c1:=hb.cell 1;have f0:=hb.frozen 0;have f1:=hb.frozen 1;simp only[List.getElem?_toArray,List.getElem?_cons_zero,List.getElem?_cons_succ] at c0 c1;have hr:=Lib.hid (store2_T hb K0).2;simp[go_sem,c0,c1,f0,f1,cSetS,cSetO];exact hr.out)
   case k =>
   intro v0
   simp only[Act.put,List.setIfInBounds_toArray,List.set_cons_succ,List.set_cons_zero,List.cons_append,List.nil_append]
   apply wpO_anyT (R:=(fun _ _=>True))
   case hR=>exact(fun _ _ _ h _=>h)
   case hw=>rfl
   case h =>
    intro wx hS_ hF_
    unfold runVT
    (have hb:=(KB.out _ hS_).2.1;have c0:=hb.cell 0;have c1:=hb.cell 1;have f0:=hb.frozen 0;have f1:=hb.frozen 1;simp only[List.getElem?_toArray,List.getElem?_cons_zero,List.getElem?_cons_succ] at c0 c1;have hr:=Lib.hid (store2_T hb K1).2;simp[go_sem,c0,c1,f0,f1,cSetS,cSetO];exact hr.out)
   case k =>
   intro v1
   simp only[Act.put,List.setIfInBounds_toArray,List.set_cons_succ,List.set_cons_zero,List.cons_append,List.nil_append]
   apply wpO_anyT (R:=(fun _ _=>True))
   case hR=>exact(fun _ _ _ h _=>h)
   case hw=>rfl
   case h =>
    intro wx hS_ hF_
    unfold runVT
    (have hb:=(KB.out _ hS_).2.2.1;have c0:=hb.cell 0;have c1:=hb.cell 1;have f0:=hb.frozen 0;have f1:=hb.frozen 1;simp only[List.getElem?_toArray,List.getElem?_cons_zero,List.getElem?_cons_succ] at c0 c1;have hr:=Lib.hid (store2_T hb K2).2;simp[go_sem,c0,c1,f0,f1,cSetS,cSetO];exact hr.out)
   case k =>
   intro v2
   simp only[Act.put,List.setIfInBounds_toArray,List.set_cons_succ,List.set_cons_zero,List.cons_append,List.nil_append]
   apply wpO_anyT (R:=(fun _ _=>True))
   case hR=>exact(fun _ _ _ h _=>h)
   case hw=>rfl
   case h =>
    intro wx hS_ hF_
    unfold runVT
    (have hb:=(KB.out _ hS_).2.2.2;have c0:=hb.cell 0;have c1:=hb.cell 1;have f0:=hb.frozen 0;have f1:=hb.frozen 1;simp only[List.getElem?_toArray,List.getElem?_cons_zero,List.getElem?_cons_succ] at c0 c1;have hr:=Lib.hid (store2_T hb K3).2;simp[go_sem,c0,c1,f0,f1,cSetS,cSetO];exact hr.out)
   case k =>
   intro v3
   simp only[Act.put,List.setIfInBounds_toArray,List.set_cons_succ,List.set_cons_zero,List.cons_append,List.nil_append]
   refine wpO_nilT ?_
   intro w5 hS hF hB
   (try simp[allF] at hF)
   (try simp[List.pairwise_cons] at hB)
   go_wp2_with fail
   go_meet
   exact⟨hS.since HS1.out (fun g hg=>KT g (by have:=HGG.out;omega)),KB.out _ hS⟩
 case rest =>
  obtain⟨hs5,hb5⟩:=hcut
  obtain⟨w5,rfl⟩:∃ w5,w5=wc:=⟨_,rfl⟩
  have HS5:=Lib.hid hs5
  clear hs ba bb bc bd hs5
  have a0:w5.cell? ⟨G,0,none⟩=some (.int .i64 a.1):=hb5.1.cell 0
  have a1:w5.cell? ⟨G,1,none⟩=some (.int .i64 a.2):=hb5.1.cell 1
  have b0:w5.cell? ⟨G+1,0,none⟩=some (.int .i64 b.1):=hb5.2.1.cell 0
  have b1:w5.cell? ⟨G+1,1,none⟩=some (.int .i64 b.2):=hb5.2.1.cell 1
  have c0:w5.cell? ⟨G+1+1,0,none⟩=some (.int .i64 c.1):=hb5.2.2.1.cell 0
  have c1:w5.cell? ⟨G+1+1,1,none⟩=some (.int .i64 c.2):=hb5.2.2.1.cell 1
  have d0:w5.cell? ⟨G+1+1+1,0,none⟩=some (.int .i64 d.1):=hb5.2.2.2.cell 0
  have d1:w5.cell? ⟨G+1+1+1,1,none⟩=some (.int .i64 d.2):=hb5.2.2.2.cell 1
  clear hb5 HG
  have HC1:=Lib.hid (fun w=>Turn_any a.1 a.2 b.1 b.2 c.1 c.2 w)
  have HC2:=Lib.hid (fun w=>Turn_any a.1 a.2 b.1 b.2 d.1 d.2 w)
  have HC3:=Lib.hid (fun w=>Turn_any c.1 c.2 d.1 d.2 a.1 a.2 w)
  have HC4:=Lib.hid (fun w=>Turn_any c.1 c.2 d.1 d.2 b.1 b.2 w)
  rw[← HS.out] at HC1
  rw[← HT.out] at HC2
  rw[← HS'.out] at HC3
  rw[← HT'.out] at HC4
  go_upto_region 2 with fail
  by_cases hn:s*t<0
  ·have hg:decide (s*t<0)=true:=by rw[decide_eq_true_eq];exact hn
   by_cases hn2:s' * t' < 0
   ·have hg2:decide (s' * t' < 0)=true:=by rw[decide_eq_true_eq];exact hn2
    apply region_facts 22 (fun w' => w'.cell? ⟨G,0,none⟩=some (.int .i64 a.1)∧w'.cell? ⟨G,1,none⟩=some (.int .i64 a.2)∧w'.cell? ⟨G+1,0,none⟩=some (.int .i64 b.1)∧w'.cell? ⟨G+1,1,none⟩=some (.int .i64 b.2)∧w'.cell? ⟨G+1+1,0,none⟩=some (.int .i64 c.1)∧w'.cell? ⟨G+1+1,1,none⟩=some (.int .i64 c.2)∧w'.cell? ⟨G+1+1+1,0,none⟩=some (.int .i64 d.1)∧w'.cell? ⟨G+1+1+1,1,none⟩=some (.int .i64 d.2)∧Since w5 w')
    case hm=>kernel_rfl
    case hB=>kernel_rfl
    case hS=>exact⟨a0,a1,b0,b1,c0,c1,d0,d1,(Since.rfl_ w5).drew⟩
    case h =>
    simp only[List.take_succ_cons,List.take_zero,List.drop_succ_cons,List.drop_zero]
    iterate 3 (apply wpO_det;(case hw=>rfl);(case h=>intro hFm wx hS_ hF_ K hK;go_big_quiet_op;first | exact hK _ rfl | (apply Exists.intro;refine⟨fun _=>?_,?_⟩;(focus (first | (intro hC;have hC:=hC.out;(try simp only[hC,Result.andThen]);first | exact⟨True.intro,rfl⟩ | exact⟨rfl,rfl⟩ | rfl)));exact hK _ rfl));(case' k=>simp only[Act.put,List.setIfInBounds_toArray,List.set_cons_succ,List.set_cons_zero,List.cons_append,List.nil_append]))
    (apply wpO_det;(case hw=>rfl);(case h=>intro hFm wx hS_ hF_ K hK;go_big_quiet_op;first | exact hK _ rfl | (apply Exists.intro;refine⟨fun _=>?_,?_⟩;(focus (first | (intro hC;go_at_call 52;refine(HC1.out _).mono ?_;rintro e w' ⟨rfl,hb⟩;refine⟨rfl,?_⟩;exact cls_call hFm hC hb)));exact hK _ rfl));(case' k=>simp only[Act.put,List.setIfInBounds_toArray,List.set_cons_succ,List.set_cons_zero,List.cons_append,List.nil_append]))
    iterate 3 (apply wpO_det;(case hw=>rfl);(case h=>intro hFm wx hS_ hF_ K hK;go_big_quiet_op;first | exact hK _ rfl | (apply Exists.intro;refine⟨fun _=>?_,?_⟩;(focus (first | (intro hC;have hC:=hC.out;(try simp only[hC,Result.andThen]);first | exact⟨True.intro,rfl⟩ | exact⟨rfl,rfl⟩ | rfl)));exact hK _ rfl));(case' k=>simp only[Act.put,List.setIfInBounds_toArray,List.set_cons_succ,List.set_cons_zero,List.cons_append,List.nil_append]))
    (apply wpO_det;(case hw=>rfl);(case h=>intro hFm wx hS_ hF_ K hK;go_big_quiet_op;first | exact hK _ rfl | (apply Exists.intro;refine⟨fun _=>?_,?_⟩;(focus (first | (intro hC;go_at_call 52;refine(HC2.out _).mono ?_;rintro e w' ⟨rfl,hb⟩;refine⟨rfl,?_⟩;exact cls_call hFm hC hb)));exact hK _ rfl));(case' k=>simp only[Act.put,List.setIfInBounds_toArray,List.set_cons_succ,List.set_cons_zero,List.cons_append,List.nil_append]))
    iterate 6 (apply wpO_det;(case hw=>rfl);(case h=>intro hFm wx hS_ hF_ K hK;go_big_quiet_op;first | exact hK _ rfl | (apply Exists.intro;refine⟨fun _=>?_,?_⟩;(focus (first | (intro hC;have hC:=hC.out;(try simp only[hC,Result.andThen]);first | exact⟨True.intro,rfl⟩ | exact⟨rfl,rfl⟩ | rfl)));exact hK _ rfl));(case' k=>simp only[Act.put,List.setIfInBounds_toArray,List.set_cons_succ,List.set_cons_zero,List.cons_append,List.nil_append]))
    (apply wpO_det;(case hw=>rfl);(case h=>intro hFm wx hS_ hF_ K hK;go_big_quiet_op;first | exact hK _ rfl | (apply Exists.intro;refine⟨fun _=>?_,?_⟩;(focus (first | (intro hC;go_at_call 52;refine(HC3.out _).mono ?_;rintro e w' ⟨rfl,hb⟩;refine⟨rfl,?_⟩;exact cls_call hFm hC hb)));exact hK _ rfl));(case' k=>simp only[Act.put,List.setIfInBounds_toArray,List.set_cons_succ,List.set_cons_zero,List.cons_append,List.nil_append]))
    iterate 3 (apply wpO_det;(case hw=>rfl);(case h=>intro hFm wx hS_ hF_ K hK;go_big_quiet_op;first | exact hK _ rfl | (apply Exists.intro;refine⟨fun _=>?_,?_⟩;(focus (first | (intro hC;have hC:=hC.out;(try simp only[hC,Result.andThen]);first | exact⟨True.intro,rfl⟩ | exact⟨rfl,rfl⟩ | rfl)));exact hK _ rfl));(case' k=>simp only[Act.put,List.setIfInBounds_toArray,List.set_cons_succ,List.set_cons_zero,List.cons_append,List.nil_append]))
    (apply wpO_det;(case hw=>rfl);(case h=>intro hFm wx hS_ hF_ K hK;go_big_quiet_op;first | exact hK _ rfl | (apply Exists.intro;refine⟨fun _=>?_,?_⟩;(focus (first | (intro hC;go_at_call 52;refine(HC4.out _).mono ?_;rintro e w' ⟨rfl,hb⟩;refine⟨rfl,?_⟩;exact cls_call hFm hC hb)));exact hK _ rfl));(case' k=>simp only[Act.put,List.setIfInBounds_toArray,List.set_cons_succ,List.set_cons_zero,List.cons_append,List.nil_append]))
    iterate 3 (apply wpO_det;(case hw=>rfl);(case h=>intro hFm wx hS_ hF_ K hK;go_big_quiet_op;first | exact hK _ rfl | (apply Exists.intro;refine⟨fun _=>?_,?_⟩;(focus (first | (intro hC;have hC:=hC.out;(try simp only[hC,Result.andThen]);first | exact⟨True.intro,rfl⟩ | exact⟨rfl,rfl⟩ | rfl)));exact hK _ rfl));(case' k=>simp only[Act.put,List.setIfInBounds_toArray,List.set_cons_succ,List.set_cons_zero,List.cons_append,List.nil_append]))
    refine wpO_nil ?_
    intro w6 hS hF hB
    (try simp[allF] at hF)
    (try simp[List.pairwise_cons] at hB)
    obtain⟨a0,a1,b0,b1,c0,c1,d0,d1,hs⟩:=hS
    have HS6:=Lib.hid (HS5.out.trans hs)
    clear hs
    go_wp2_with fail
    go_ret
    exact⟨ret_int (by rw[HM.out,if_pos (by constructor <;> omega)]),HS6.out⟩
   ·have hg2:decide (s' * t' < 0)=false:=by rw[decide_eq_false_iff_not];exact hn2
    apply region_facts 22 (fun w' => w'.cell? ⟨G,0,none⟩=some (.int .i64 a.1)∧w'.cell? ⟨G,1,none⟩=some (.int .i64 a.2)∧w'.cell? ⟨G+1,0,none⟩=some (.int .i64 b.1)∧w'.cell? ⟨G+1,1,none⟩=some (.int .i64 b.2)∧w'.cell? ⟨G+1+1,0,none⟩=some (.int .i64 c.1)∧w'.cell? ⟨G+1+1,1,none⟩=some (.int .i64 c.2)∧w'.cell? ⟨G+1+1+1,0,none⟩=some (.int .i64 d.1)∧w'.cell? ⟨G+1+1+1,1,none⟩=some (.int .i64 d.2)∧Since w5 w')
    case hm=>kernel_rfl
    case hB=>kernel_rfl
    case hS=>exact⟨a0,a1,b0,b1,c0,c1,d0,d1,(Since.rfl_ w5).drew⟩
    case h =>
    simp only[List.take_succ_cons,List.take_zero,List.drop_succ_cons,List.drop_zero]
    iterate 3 (apply wpO_det;(case hw=>rfl);(case h=>intro hFm wx hS_ hF_ K hK;go_big_quiet_op;first | exact hK _ rfl | (apply Exists.intro;refine⟨fun _=>?_,?_⟩;(focus (first | (intro hC;have hC:=hC.out;(try simp only[hC,Result.andThen]);first | exact⟨True.intro,rfl⟩ | exact⟨rfl,rfl⟩ | rfl)));exact hK _ rfl));(case' k=>simp only[Act.put,List.setIfInBounds_toArray,List.set_cons_succ,List.set_cons_zero,List.cons_append,List.nil_append]))
    (apply wpO_det;(case hw=>rfl);(case h=>intro hFm wx hS_ hF_ K hK;go_big_quiet_op;first | exact hK _ rfl | (apply Exists.intro;refine⟨fun _=>?_,?_⟩;(focus (first | (intro hC;go_at_call 52;refine(HC1.out _).mono ?_;rintro e w' ⟨rfl,hb⟩;refine⟨rfl,?_⟩;exact cls_call hFm hC hb)));exact hK _ rfl));(case' k=>simp only[Act.put,List.setIfInBounds_toArray,List.set_cons_succ,List.set_cons_zero,List.cons_append,List.nil_append]))
    iterate 3 (apply wpO_det;(case hw=>rfl);(case h=>intro hFm wx hS_ hF_ K hK;go_big_quiet_op;first | exact hK _ rfl | (apply Exists.intro;refine⟨fun _=>?_,?_⟩;(focus (first | (intro hC;have hC:=hC.out;(try simp only[hC,Result.andThen]);first | exact⟨True.intro,rfl⟩ | exact⟨rfl,rfl⟩ | rfl)));exact hK _ rfl));(case' k=>simp only[Act.put,List.setIfInBounds_toArray,List.set_cons_succ,List.set_cons_zero,List.cons_append,List.nil_append]))
    (apply wpO_det;(case hw=>rfl);(case h=>intro hFm wx hS_ hF_ K hK;go_big_quiet_op;first | exact hK _ rfl | (apply Exists.intro;refine⟨fun _=>?_,?_⟩;(focus (first | (intro hC;go_at_call 52;refine(HC2.out _).mono ?_;rintro e w' ⟨rfl,hb⟩;refine⟨rfl,?_⟩;exact cls_call hFm hC hb)));exact hK _ rfl));(case' k=>simp only[Act.put,List.setIfInBounds_toArray,List.set_cons_succ,List.set_cons_zero,List.cons_append,List.nil_append]))
    iterate 6 (apply wpO_det;(case hw=>rfl);(case h=>intro hFm wx hS_ hF_ K hK;go_big_quiet_op;first | exact hK _ rfl | (apply Exists.intro;refine⟨fun _=>?_,?_⟩;(focus (first | (intro hC;have hC:=hC.out;(try simp only[hC,Result.andThen]);first | exact⟨True.intro,rfl⟩ | exact⟨rfl,rfl⟩ | rfl)));exact hK _ rfl));(case' k=>simp only[Act.put,List.setIfInBounds_toArray,List.set_cons_succ,List.set_cons_zero,List.cons_append,List.nil_append]))
    (apply wpO_det;(case hw=>rfl);(case h=>intro hFm wx hS_ hF_ K hK;go_big_quiet_op;first | exact hK _ rfl | (apply Exists.intro;refine⟨fun _=>?_,?_⟩;(focus (first | (intro hC;go_at_call 52;refine(HC3.out _).mono ?_;rintro e w' ⟨rfl,hb⟩;refine⟨rfl,?_⟩;exact cls_call hFm hC hb)));exact hK _ rfl));(case' k=>simp only[Act.put,List.setIfInBounds_toArray,List.set_cons_succ,List.set_cons_zero,List.cons_append,List.nil_append]))
    iterate 3 (apply wpO_det;(case hw=>rfl);(case h=>intro hFm wx hS_ hF_ K hK;go_big_quiet_op;first | exact hK _ rfl | (apply Exists.intro;refine⟨fun _=>?_,?_⟩;(focus (first | (intro hC;have hC:=hC.out;(try simp only[hC,Result.andThen]);first | exact⟨True.intro,rfl⟩ | exact⟨rfl,rfl⟩ | rfl)));exact hK _ rfl));(case' k=>simp only[Act.put,List.setIfInBounds_toArray,List.set_cons_succ,List.set_cons_zero,List.cons_append,List.nil_append]))
    (apply wpO_det;(case hw=>rfl);(case h=>intro hFm wx hS_ hF_ K hK;go_big_quiet_op;first | exact hK _ rfl | (apply Exists.intro;refine⟨fun _=>?_,?_⟩;(focus (first | (intro hC;go_at_call 52;refine(HC4.out _).mono ?_;rintro e w' ⟨rfl,hb⟩;refine⟨rfl,?_⟩;exact cls_call hFm hC hb)));exact hK _ rfl));(case' k=>simp only[Act.put,List.setIfInBounds_toArray,List.set_cons_succ,List.set_cons_zero,List.cons_append,List.nil_append]))
    iterate 3 (apply wpO_det;(case hw=>rfl);(case h=>intro hFm wx hS_ hF_ K hK;go_big_quiet_op;first | exact hK _ rfl | (apply Exists.intro;refine⟨fun _=>?_,?_⟩;(focus (first | (intro hC;have hC:=hC.out;(try simp only[hC,Result.andThen]);first | exact⟨True.intro,rfl⟩ | exact⟨rfl,rfl⟩ | rfl)));exact hK _ rfl));(case' k=>simp only[Act.put,List.setIfInBounds_toArray,List.set_cons_succ,List.set_cons_zero,List.cons_append,List.nil_append]))
    refine wpO_nil ?_
    intro w6 hS hF hB
    (try simp[allF] at hF)
    (try simp[List.pairwise_cons] at hB)
    obtain⟨a0,a1,b0,b1,c0,c1,d0,d1,hs⟩:=hS
    have HS6:=Lib.hid (HS5.out.trans hs)
    clear hs
    go_wp2_with fail
    refine(HSH.out _).mono ?_
    rintro e w7 ⟨x,y,rfl,hs⟩
    have HS7:=Lib.hid (HS6.out.trans hs)
    clear hs a0 a1 b0 b1 c0 c1 d0 d1
    go_wp2_with fail
    all_goals (go_ret;exact⟨ret_int (by rw[HM.out,if_neg (by intro h;omega)]),HS7.out⟩)
  ·have hg:decide (s*t<0)=false:=by rw[decide_eq_false_iff_not];exact hn
   apply region_facts 22 (fun w' => w'.cell? ⟨G,0,none⟩=some (.int .i64 a.1)∧w'.cell? ⟨G,1,none⟩=some (.int .i64 a.2)∧w'.cell? ⟨G+1,0,none⟩=some (.int .i64 b.1)∧w'.cell? ⟨G+1,1,none⟩=some (.int .i64 b.2)∧w'.cell? ⟨G+1+1,0,none⟩=some (.int .i64 c.1)∧w'.cell? ⟨G+1+1,1,none⟩=some (.int .i64 c.2)∧w'.cell? ⟨G+1+1+1,0,none⟩=some (.int .i64 d.1)∧w'.cell? ⟨G+1+1+1,1,none⟩=some (.int .i64 d.2)∧Since w5 w')
   case hm=>kernel_rfl
   case hB=>kernel_rfl
   case hS=>exact⟨a0,a1,b0,b1,c0,c1,d0,d1,(Since.rfl_ w5).drew⟩
   case h =>
   simp only[List.take_succ_cons,List.take_zero,List.drop_succ_cons,List.drop_zero]
   iterate 3 (apply wpO_det;(case hw=>rfl);(case h=>intro hFm wx hS_ hF_ K hK;go_big_quiet_op;first | exact hK _ rfl | (apply Exists.intro;refine⟨fun _=>?_,?_⟩;(focus (first | (intro hC;have hC:=hC.out;(try simp only[hC,Result.andThen]);first | exact⟨True.intro,rfl⟩ | exact⟨rfl,rfl⟩ | rfl)));exact hK _ rfl));(case' k=>simp only[Act.put,List.setIfInBounds_toArray,List.set_cons_succ,List.set_cons_zero,List.cons_append,List.nil_append]))
   (apply wpO_det;(case hw=>rfl);(case h=>intro hFm wx hS_ hF_ K hK;go_big_quiet_op;first | exact hK _ rfl | (apply Exists.intro;refine⟨fun _=>?_,?_⟩;(focus (first | (intro hC;go_at_call 52;refine(HC1.out _).mono ?_;rintro e w' ⟨rfl,hb⟩;refine⟨rfl,?_⟩;exact cls_call hFm hC hb)));exact hK _ rfl));(case' k=>simp only[Act.put,List.setIfInBounds_toArray,List.set_cons_succ,List.set_cons_zero,List.cons_append,List.nil_append]))
   iterate 3 (apply wpO_det;(case hw=>rfl);(case h=>intro hFm wx hS_ hF_ K hK;go_big_quiet_op;first | exact hK _ rfl | (apply Exists.intro;refine⟨fun _=>?_,?_⟩;(focus (first | (intro hC;have hC:=hC.out;(try simp only[hC,Result.andThen]);first | exact⟨True.intro,rfl⟩ | exact⟨rfl,rfl⟩ | rfl)));exact hK _ rfl));(case' k=>simp only[Act.put,List.setIfInBounds_toArray,List.set_cons_succ,List.set_cons_zero,List.cons_append,List.nil_append]))
   (apply wpO_det;(case hw=>rfl);(case h=>intro hFm wx hS_ hF_ K hK;go_big_quiet_op;first | exact hK _ rfl | (apply Exists.intro;refine⟨fun _=>?_,?_⟩;(focus (first | (intro hC;go_at_call 52;refine(HC2.out _).mono ?_;rintro e w' ⟨rfl,hb⟩;refine⟨rfl,?_⟩;exact cls_call hFm hC hb)));exact hK _ rfl));(case' k=>simp only[Act.put,List.setIfInBounds_toArray,List.set_cons_succ,List.set_cons_zero,List.cons_append,List.nil_append]))
   iterate 3 (apply wpO_det;(case hw=>rfl);(case h=>intro hFm wx hS_ hF_ K hK;go_big_quiet_op;first | exact hK _ rfl | (apply Exists.intro;refine⟨fun _=>?_,?_⟩;(focus (first | (intro hC;have hC:=hC.out;(try simp only[hC,Result.andThen]);first | exact⟨True.intro,rfl⟩ | exact⟨rfl,rfl⟩ | rfl)));exact hK _ rfl));(case' k=>simp only[Act.put,List.setIfInBounds_toArray,List.set_cons_succ,List.set_cons_zero,List.cons_append,List.nil_append]))
   apply wpO_skip
   case hw=>rfl
   case k =>
   simp only[Act.put,List.setIfInBounds_toArray,List.set_cons_succ,List.set_cons_zero,List.cons_append,List.nil_append]
   apply wpO_skip
   case hw=>rfl
   case k =>
   simp only[Act.put,List.setIfInBounds_toArray,List.set_cons_succ,List.set_cons_zero,List.cons_append,List.nil_append]
   apply wpO_skip
   case hw=>rfl
   case k =>
   simp only[Act.put,List.setIfInBounds_toArray,List.set_cons_succ,List.set_cons_zero,List.cons_append,List.nil_append]
   apply wpO_skip
   case hw=>rfl
   case k =>
   simp only[Act.put,List.setIfInBounds_toArray,List.set_cons_succ,List.set_cons_zero,List.cons_append,List.nil_append]
   apply wpO_skip
   case hw=>rfl
   case k =>
   simp only[Act.put,List.setIfInBounds_toArray,List.set_cons_succ,List.set_cons_zero,List.cons_append,List.nil_append]
   apply wpO_skip
   case hw=>rfl
   case k =>
   simp only[Act.put,List.setIfInBounds_toArray,List.set_cons_succ,List.set_cons_zero,List.cons_append,List.nil_append]
   apply wpO_skip
   case hw=>rfl
   case k =>
   simp only[Act.put,List.setIfInBounds_toArray,List.set_cons_succ,List.set_cons_zero,List.cons_append,List.nil_append]
   apply wpO_skip
   case hw=>rfl
   case k =>
   simp only[Act.put,List.setIfInBounds_toArray,List.set_cons_succ,List.set_cons_zero,List.cons_append,List.nil_append]
   apply wpO_skip
   case hw=>rfl
   case k =>
   simp only[Act.put,List.setIfInBounds_toArray,List.set_cons_succ,List.set_cons_zero,List.cons_append,List.nil_append]
   apply wpO_skip
   case hw=>rfl
   case k =>
   simp only[Act.put,List.setIfInBounds_toArray,List.set_cons_succ,List.set_cons_zero,List.cons_append,List.nil_append]
   (apply wpO_det;(case hw=>rfl);(case h=>intro hFm wx hS_ hF_ K hK;go_big_quiet_op;first | exact hK _ rfl | (apply Exists.intro;refine⟨fun _=>?_,?_⟩;(focus (first | (intro hC;have hC:=hC.out;(try simp only[hC,Result.andThen]);first | exact⟨True.intro,rfl⟩ | exact⟨rfl,rfl⟩ | rfl)));exact hK _ rfl));(case' k=>simp only[Act.put,List.setIfInBounds_toArray,List.set_cons_succ,List.set_cons_zero,List.cons_append,List.nil_append]))
   refine wpO_nil ?_
   intro w6 hS hF hB
   (try simp[allF] at hF)
   (try simp[List.pairwise_cons] at hB)
   obtain⟨a0,a1,b0,b1,c0,c1,d0,d1,hs⟩:=hS
   have HS6:=Lib.hid (HS5.out.trans hs)
   clear hs
   go_wp2_with fail
   refine(HSH.out _).mono ?_
   rintro e w7 ⟨x,y,rfl,hs⟩
   have HS7:=Lib.hid (HS6.out.trans hs)
   clear hs a0 a1 b0 b1 c0 c1 d0 d1
   go_wp2_with fail
   all_goals (go_ret;exact⟨ret_int (by rw[HM.out,if_neg (by intro h;omega)]),HS7.out⟩)
end
section
open Go.RowKit Go.BigFrame
set_option maxHeartbeats 1000000 in
theorem Mul64B(x y:Nat)(hx:x<18446744073709551616)(hy:y<18446744073709551616)(w:World) :
  Calls Tryz.prog 142 #[.int .u64 x,.int .u64 y] w fun e w' => e=.returned (.tuple #[.int .u64 ((x*y/18446744073709551616:Nat):Int),.int .u64 ((x*y % 18446744073709551616:Nat):Int)])∧w=w' := by
 obtain⟨bd,bt,bw,hhi⟩:=Lib.mul64_hi x y hx hy
 have ba:=Lib.half_mul_le (a:=x/4294967296) (b:=y/4294967296) (by omega) (by omega)
 have bb:=Lib.half_mul_le (a:=x/4294967296) (b:=y % 4294967296) (by omega) (by omega)
 have bc:=Lib.half_mul_le (a:=x % 4294967296) (b:=y/4294967296) (by omega) (by omega)
 have ba' : x/4294967296*(y/4294967296)<18446744073709551616:=by omega
 have bb' : x/4294967296*(y % 4294967296)<18446744073709551616:=by omega
 have bc' : x % 4294967296*(y/4294967296)<18446744073709551616:=by omega
 have bh1:x/4294967296*(y/4294967296)+(x/4294967296*(y % 4294967296)+x % 4294967296*(y % 4294967296)/4294967296)/4294967296<18446744073709551616:=by omega
 have bh:x/4294967296*(y/4294967296)+(x/4294967296*(y % 4294967296)+x % 4294967296*(y % 4294967296)/4294967296)/4294967296+((x/4294967296*(y % 4294967296)+x % 4294967296*(y % 4294967296)/4294967296) % 4294967296+x % 4294967296*(y/4294967296))/4294967296<18446744073709551616:=by omega
 go_enter Tryz.func142,Tryz.ntmps142
 go_wp2
 simp only[Mul64.maskN x hx,Mul64.maskN y hy,Mul64.divN,Mul64.mulN,Mul64.addN,Mul64.wrapN _ bd,Mul64.wrapN _ bb',Mul64.wrapN _ bt,Mul64.maskN _ bt,Mul64.wrapN _ bc',Mul64.wrapN _ bw,Mul64.wrapN _ ba',Mul64.wrapN _ bh1,Mul64.wrapN _ bh,Mul64.wrapM (x*y)]
 rw[hhi]
 go_ret2
 exact⟨rfl,rfl⟩
theorem Mul64B_low(x y:Nat)(h:x*y<18446744073709551616)(hx:x<18446744073709551616)(hy:y<18446744073709551616)(w:World) :
  Calls Tryz.prog 142 #[.int .u64 x,.int .u64 y] w fun e w' => e=.returned (.tuple #[.int .u64 0,.int .u64 ((x*y:Nat):Int)])∧w=w' := by
 refine(Mul64B x y hx hy w).mono ?_
 rintro e w' ⟨rfl,hw⟩
 refine⟨?_,hw⟩
 rw[Nat.div_eq_of_lt h,Nat.mod_eq_of_lt h];rfl
theorem Div64B(y d:Nat)(hd:0<d)(hy:y<18446744073709551616)(w:World) :
  Calls Tryz.prog 166 #[.int .u64 0,.int .u64 y,.int .u64 d] w fun e w' => e=.returned (.tuple #[.int .u64 ((y/d:Nat):Int),.int .u64 ((y % d:Nat):Int)])∧Since w w' := by
 have dp:0<(d:Int):=by omega
 have h1:((d:Int) == 0)=false:=by rw[beq_eq_false_iff_ne];omega
 have b1:y/d<18446744073709551616:=Nat.lt_of_le_of_lt (Nat.div_le_self _ _) hy
 have u1:=Mul64.wrapN _ b1
 go_enter Tryz.func166,Tryz.ntmps166
 go_wp2
 go_region
 go_wp2
 go_ret2
 refine⟨?_,(Since.rfl_ w).drew⟩
 show Ending.returned (.tuple #[.int .u64 (IntKind.u64.wrap ((y:Int)/(d:Int))),.int .u64 ((y:Int) % (d:Int))])=_
 rw[← Int.natCast_ediv,u1];rfl
theorem Add64_run(x y c:Int)(hx:0≤x)(hy:0≤y)(hc0:0≤c)(hc:c≤1)(w:World) :
  (callFunc 177 #[.int .u64 x,.int .u64 y,.int .u64 c]).run Tryz.prog w=.ok (.value (.tuple #[.int .u64 ((x+y+c) % 18446744073709551616),.int .u64 ((x+y+c)/18446744073709551616)])) w:=by
 rw[run_callFunc_extern Tryz.func177 (by kernel_rfl) (by kernel_rfl) (by kernel_rfl) (e:=add64Entry) (by kernel_rfl),run_add64 x y c hx hy hc0 hc]
 rfl
def wHi(z:Int):Int:=z/18446744073709551616
def wLo(z:Int):Int:=z % 18446744073709551616
def uW(z:Int):Int:=z % 18446744073709551616
theorem uW_eq(z:Int):IntKind.u64.wrap z=uW z:=by unfold uW IntKind.wrap;simp[IntKind.bits,IntKind.signed]
theorem wLo_bd(z:Int):0≤wLo z∧wLo z<18446744073709551616:=by unfold wLo;omega
theorem w_eq(z:Int):z=wHi z*18446744073709551616+wLo z:=by unfold wHi wLo;omega
end
section
open Go.RowKit Go.BigFrame
def wideV(z:Int):Value:=.agg #[.int .i64 (wHi z),.int .u64 (wLo z)]
theorem w64_id{x:Int}(h : -9223372036854775808≤x∧x≤9223372036854775807):wrap64 x=x:=IntWalk.wrap64_in x h
def aW(n:Int):Nat:=(uW n).toNat
theorem aW_eq(n:Int):IntKind.u64.wrap n=(aW n:Int):=by rw[uW_eq];unfold aW uW;omega
theorem aW_lt(n:Int):aW n<18446744073709551616:=by unfold aW uW;omega
theorem aW_val{n:Int}(h : -9223372036854775808≤n∧n≤9223372036854775807):(aW n:Int)=if n<0 then n+18446744073709551616 else n:=by unfold aW uW;split <;> omega
theorem i64W(z:Int):wrap64 z=(z+9223372036854775808) % 18446744073709551616-9223372036854775808:=by simp only[wrap64]
theorem Of_w(n:Int)(h : -9223372036854775808≤n∧n≤9223372036854775807)(w:World) :
  Calls Tryz.prog 167 #[.int .i64 n] w fun e w' => e=.returned (wideV n)∧Since w w' := by
 have HF:Hid (wideV n=.agg #[.int .i64 (n/9223372036854775808),.int .u64 (IntKind.u64.wrap n)]):=by
  show _=_
  unfold wideV
  rw[show wHi n=n/9223372036854775808 by unfold wHi;omega,uW_eq];rfl
 go_enter Tryz.func167,Tryz.ntmps167
 go_wp2
 exact bodyPost_ret (v:=.agg #[.int .i64 (n/9223372036854775808),.int .u64 (IntKind.u64.wrap n)]) (by simp[results,Tryz.results167,go_sem]) rfl ⟨by rw[HF.out],(Since.rfl_ w).alloc _⟩
theorem mul_parts{a b:Int}(ha : -9223372036854775808≤a∧a≤9223372036854775807)(hb : -9223372036854775808≤b∧b≤9223372036854775807)(hz : -18446744073709551616≤a*b∧a*b<18446744073709551616) :
  ((aW a*aW b % 18446744073709551616:Nat):Int)=wLo (a*b)∧(0≤a→0≤b→wrap64 ((aW a*aW b/18446744073709551616:Nat):Int)=wHi (a*b)) ∧
  (a<0→0≤b→wrap64 (IntKind.u64.wrap (((aW a*aW b/18446744073709551616:Nat):Int)-(aW b:Int)))=wHi (a*b)) ∧
  (0≤a→b<0→wrap64 (IntKind.u64.wrap (((aW a*aW b/18446744073709551616:Nat):Int)-(aW a:Int)))=wHi (a*b)) ∧
  (a<0→b<0→wrap64 (IntKind.u64.wrap (IntKind.u64.wrap (((aW a*aW b/18446744073709551616:Nat):Int)-(aW b:Int))-(aW a:Int)))=wHi (a*b)):=by
 have va:=aW_val ha
 have vb:=aW_val hb
 generalize aW a=A at *
 generalize aW b=B at *
 have e1:(((A*B:Nat)):Int)=(A:Int)*B:=by push_cast;rfl
 have k:(A:Int)*B=a*b+(if a<0 then 18446744073709551616*b else 0)+(if b<0 then 18446744073709551616*a else 0)+(if a<0∧b<0 then 18446744073709551616*18446744073709551616 else 0):=by
  rw[va,vb]
  rcases Int.lt_or_le a 0 with h1 | h1 <;> rcases Int.lt_or_le b 0 with h2 | h2
  ·rw[if_pos h1,if_pos h2,if_pos h1,if_pos h2,if_pos ⟨h1,h2⟩];grind
  ·rw[if_pos h1,if_neg (by omega),if_pos h1,if_neg (by omega),if_neg (by omega)];grind
  ·rw[if_neg (by omega),if_pos h2,if_neg (by omega),if_pos h2,if_neg (by omega)];grind
  ·rw[if_neg (by omega),if_neg (by omega),if_neg (by omega),if_neg (by omega),if_neg (by omega)];grind
 rw[← e1] at k
 generalize A*B=M at *
 generalize a*b=z at *
 simp only[uW_eq,i64W]
 unfold wLo wHi uW
 refine⟨?_,?_,?_,?_,?_⟩
 ·split at k <;> split at k <;> split at k <;> omega
 ·intro h1 h2;rw[if_neg (by omega),if_neg (by omega),if_neg (by omega)] at k;omega
 ·intro h1 h2;rw[if_pos (by omega),if_neg (by omega),if_neg (by omega)] at k;omega
 ·intro h1 h2;rw[if_neg (by omega),if_pos (by omega),if_neg (by omega)] at k;omega
 ·intro h1 h2;rw[if_pos (by omega),if_pos (by omega),if_pos (by omega)] at k;omega
theorem Mul_w(a b:Int)(ha : -9223372036854775808≤a∧a≤9223372036854775807)(hb : -9223372036854775808≤b∧b≤9223372036854775807)(hz : -18446744073709551616≤a*b∧a*b<18446744073709551616)(w:World) :
  Calls Tryz.prog 151 #[.int .i64 a,.int .i64 b] w fun e w' => e=.returned (wideV (a*b))∧Since w w' := by
 obtain⟨k0,k1,k2,k3,k4⟩:=mul_parts ha hb hz
 have HV:Hid (∀ h l,h=wHi (a*b)→l=wLo (a*b)→wideV (a*b)=.agg #[.int .i64 h,.int .u64 l]):=fun h l e1 e2=>by rw[e1,e2];rfl
 have HC:=Lib.hid (fun w=>Mul64B (aW a) (aW b) (aW_lt a) (aW_lt b) w)
 have hA:=aW_eq a
 have hB:=aW_eq b
 obtain⟨H,HH⟩:∃ H,Hid (H=((aW a*aW b/18446744073709551616:Nat):Int)):=⟨_,rfl⟩
 obtain⟨L,HL⟩:∃ L,Hid (L=((aW a*aW b % 18446744073709551616:Nat):Int)):=⟨_,rfl⟩
 rw[← HH.out,← HL.out] at HC
 rw[← HL.out] at k0
 rw[← HH.out] at k1 k2 k3 k4
 clear hz ha hb
 have K0:=Lib.hid k0
 have K1:=Lib.hid k1
 have K2:=Lib.hid k2
 have K3:=Lib.hid k3
 have K4:=Lib.hid k4
 clear k0 k1 k2 k3 k4
 rcases Int.lt_or_le a 0 with h1 | h1 <;> rcases Int.lt_or_le b 0 with h2 | h2
 all_goals
  go_enter Tryz.func151,Tryz.ntmps151
  go_wp2_with fail
  refine(HC.out _).mono ?_
  rintro e w1 ⟨rfl,rfl⟩
  go_wp2_with fail
 ·exact bodyPost_ret (v:=.agg #[.int .i64 (wrap64 (IntKind.u64.wrap (IntKind.u64.wrap (H-(aW b:Int))-(aW a:Int)))),.int .u64 L]) (by simp[results,Tryz.results151,go_sem]) rfl ⟨by rw[HV.out _ _ (K4.out h1 h2) K0.out],(Since.rfl_ w).alloc _⟩
 ·exact bodyPost_ret (v:=.agg #[.int .i64 (wrap64 (IntKind.u64.wrap (H-(aW b:Int)))),.int .u64 L]) (by simp[results,Tryz.results151,go_sem]) rfl ⟨by rw[HV.out _ _ (K2.out h1 h2) K0.out],(Since.rfl_ w).alloc _⟩
 ·exact bodyPost_ret (v:=.agg #[.int .i64 (wrap64 (IntKind.u64.wrap (H-(aW a:Int)))),.int .u64 L]) (by simp[results,Tryz.results151,go_sem]) rfl ⟨by rw[HV.out _ _ (K3.out h1 h2) K0.out],(Since.rfl_ w).alloc _⟩
 ·exact bodyPost_ret (v:=.agg #[.int .i64 (wrap64 H),.int .u64 L]) (by simp[results,Tryz.results151,go_sem]) rfl ⟨by rw[HV.out _ _ (K1.out h1 h2) K0.out],(Since.rfl_ w).alloc _⟩
end
section
open Go.RowKit Go.BigFrame
theorem hwi:Tryz.prog.stoodInHeld 177=false:=by kernel_rfl
theorem eqWS(x y x' y' : Int)(d:Nat)(w:World):(Op.equalIn (d+1+1) 177 (.agg #[.int .i64 x,.int .u64 y]) (.agg #[.int .i64 x',.int .u64 y'])).run Tryz.prog w=.ok (x == x' && y == y') w:=by
 rw[run_equalIn_struct (P:=Tryz.prog) w (d+1) 177 _ _ (by simp[Program.fieldsOf,Tryz.underlying177]) hwi]
 simp only[Program.fieldsOf,Tryz.underlying177]
 have h1:=run_equalIn_int (P:=Tryz.prog) w d 2 .i64 .i64 x x' Tryz.underlying2
 have h2:=run_equalIn_int (P:=Tryz.prog) w d 143 .u64 .u64 y y' Tryz.underlying143
 cases e1:(x == x') <;> cases e2:(y == y') <;> simp[Op.eqFields,go_sem,h1,h2,e1,e2]
theorem neqW(x y x' y' : Int)(w:World):(binOp .neq 177 (.agg #[.int .i64 x,.int .u64 y]) (.agg #[.int .i64 x',.int .u64 y'])).run Tryz.prog w=.ok (.bool (!(x == x' && y == y'))) w:=by
 have h:(Op.equal 177 (.agg #[.int .i64 x,.int .u64 y]) (.agg #[.int .i64 x',.int .u64 y'])).run Tryz.prog w=.ok (x == x' && y == y') w:=eqWS x y x' y' 9998 w
 simp only[binOp]
 simp[h]
attribute [local go_sem ↓] neqW
theorem lo_short{z:Int}(h : -9223372036854775808≤z∧z≤9223372036854775807):wrap64 (wLo z)=z:=by rw[i64W];unfold wLo;omega
theorem Short_w(z:Int)(h : -9223372036854775808≤z∧z≤9223372036854775807)(w:World) :
  Calls Tryz.prog 152 #[wideV z] w fun e w' => e=.returned (.tuple #[.int .i64 z,.int .i64 0])∧Since w w' := by
 have hl:=lo_short h
 have HO:=Lib.hid (fun w=>Of_w z h w)
 unfold wideV at HO ⊢
 obtain⟨a,ha⟩:∃ a,a=wHi z:=⟨_,rfl⟩
 obtain⟨b,hb⟩:∃ b,b=wLo z:=⟨_,rfl⟩
 rw[← ha,← hb] at HO
 rw[← hb] at hl
 rw[← ha,← hb]
 clear ha hb h
 have he:(a == a && b == b)=true:=by simp
 go_enter Tryz.func152,Tryz.ntmps152
 go_upto_region 1 with fail
 refine region_cls (fun w' => w'.cell? ⟨w.heap.size,0,none⟩=some (.int .i64 a)∧w'.cell? ⟨w.heap.size,1,none⟩=some (.int .u64 b)∧Since w w') (by kernel_rfl) (by kernel_rfl) (by(repeat' refine And.intro ?_ ?_) <;> first | (simp (maxDischargeDepth:=9) [ cSetS,cSetO,cellNew,World.cell?_alloc_some,cellDrew];done) | (repeat (first | with_reducible assumption | with_reducible exact Since.rfl_ _ | refine Since.setCell ?_ (by(try dsimp only);omega) _ | refine Since.alloc ?_ _ | refine Since.drew ?_))) ?_
 repeat (go_big_quiet_step ((first | (intro hC;go_at_call 167;refine(HO.out _).mono ?_;rintro e w' ⟨rfl,hb⟩;refine⟨rfl,?_⟩;have k1:=keepC hb;have k2:=keepS hb;have hC:=hC.out;(try dsimp only at hC);simp[Cls,hC,k1,k2]) | (intro hC;have hC:=hC.out;(try simp only[hC,Result.andThen]);first | exact⟨True.intro,rfl⟩ | exact⟨rfl,rfl⟩ | rfl))))
 refine cls_end ?_
 rintro w2 ⟨c0,c1,hs⟩
 have HS:=Lib.hid hs
 clear hs
 go_wp2_with fail
 go_ret2
 exact⟨by show Ending.returned (.tuple #[.int .i64 (wrap64 b),.int .i64 0])=_;rw[hl],HS.out⟩
theorem DivP_w(l n:Int)(hl:0≤l∧l<18446744073709551616)(hn:1≤n∧n≤9223372036854775807)(w:World) :
  Calls Tryz.prog 150 #[.agg #[.int .i64 0,.int .u64 l],.int .i64 n] w fun e w' => e=.returned (.tuple #[.agg #[.int .i64 0,.int .u64 (l/n)],.int .i64 (l % n),.int .i64 0])∧Since w w' := by
 have hm:=Int.emod_nonneg l (show n≠0 by omega)
 have hm2:=Int.emod_lt_of_pos l (show 0<n by omega)
 obtain⟨L,rfl⟩:=Int.eq_ofNat_of_zero_le hl.1
 obtain⟨D,rfl⟩:=Int.eq_ofNat_of_zero_le (show 0≤n by omega)
 have HD:=Lib.hid (fun w=>Div64B L D (by omega) (by omega) w)
 obtain⟨q,HQ⟩:∃ q:Int,Hid (q=((L/D:Nat):Int)):=⟨_,rfl⟩
 obtain⟨r,HR⟩:∃ r:Int,Hid (r=((L % D:Nat):Int)):=⟨_,rfl⟩
 have e1:(L:Int)/(D:Int)=q:=by rw[HQ.out];simp
 have e2:(L:Int) % (D:Int)=r:=by rw[HR.out];simp
 rw[← HQ.out,← HR.out] at HD
 rw[e2] at hm hm2
 rw[e1,e2]
 have HE:=Lib.hid (And.intro e1 e2)
 clear e1 e2
 have hd0:((D:Int) == 0)=false:=by rw[beq_eq_false_iff_ne];omega
 go_enter Tryz.func150,Tryz.ntmps150
 go_wp2_with fail
 go_quiet (fail)
 go_wp2_with fail
 refine(HD.out _).mono ?_
 rintro e w2 ⟨rfl,hs⟩
 have hs0:Since w w2:=Since.trans ((((Since.rfl_ w).alloc _).alloc _).drewN _) hs
 have hb:=hs.blk ((Blk.new' (w:=w.alloc (.cells #[.int .i64 0,.int .u64 (L:Int)] 177)) (g:=w.heap.size+1) (t:=177) (cs := #[.int .i64 0,.int .u64 0]) (by simp)).drewN _)
 have r0:w2.cell? ⟨w.heap.size+1,0,none⟩=some (.int .i64 0):=hb.cell 0
 have r1:w2.cell? ⟨w.heap.size+1,1,none⟩=some (.int .u64 0):=hb.cell 1
 have f0:=hb.frozen 0
 have f1:=hb.frozen 1
 have HS:=Lib.hid hs0
 clear hs hs0 hb
 go_wp2_with fail
 refine bodyPost_ret (v:=.tuple #[.agg #[.int .i64 0,.int .u64 q],.int .i64 r,.int .i64 0]) (by simp[results,Tryz.results150,go_sem,cSetS,cSetO,cellDrew,r0,r1]) rfl ⟨rfl,?_⟩
 exact(HS.out.setCell (by dsimp only;omega) _).setCell (by dsimp only;omega) _
theorem u64_not(a:Nat)(ha:a<18446744073709551616):bits .xor .u64 IntKind.u64.max (a:Int)=18446744073709551615-(a:Int):=by
 show IntKind.u64.wrap ((BitVec.ofInt 64 IntKind.u64.max ^^^ BitVec.ofInt 64 (a:Int)).toNat:Int)=_
 have h1:BitVec.ofInt 64 IntKind.u64.max=BitVec.allOnes 64:=by decide
 rw[h1,BitVec.allOnes_xor,BitVec.toNat_not,ofInt_u64 a (by omega),uW_eq]
 unfold uW
 omega
theorem u64_notI(x:Int)(h:0≤x∧x<18446744073709551616):bits .xor .u64 IntKind.u64.max x=18446744073709551615-x:=by
 obtain⟨a,rfl⟩:=Int.eq_ofNat_of_zero_le h.1
 exact u64_not a (by omega)
theorem DivN_w(l n:Int)(hl:0≤l∧l<18446744073709551616)(hn:1≤n∧n≤9223372036854775807)(w:World) :
  Calls Tryz.prog 150 #[.agg #[.int .i64 (-1),.int .u64 l],.int .i64 n] w fun e w' => e=.returned (.tuple #[.agg #[.int .i64 (-1),.int .u64 (18446744073709551615-(18446744073709551615-l)/n)],.int .i64 (n-1-(18446744073709551615-l) % n),.int .i64 0])∧Since w w' := by
 obtain⟨k,hk⟩:∃ k,k=18446744073709551615-l:=⟨_,rfl⟩
 have hx:bits .xor .u64 IntKind.u64.max l=k:=by rw[hk];exact u64_notI l hl
 have hz:bits .xor .i64 (-1) (-1)=0:=by decide
 have hz2:bits .xor .i64 (-1) 0 = -1:=by decide
 have hkb:0≤k∧k<18446744073709551616:=by omega
 rw[← hk]
 have HK:=Lib.hid hk
 clear hk
 have hm:=Int.emod_nonneg k (show n≠0 by omega)
 have hm2:=Int.emod_lt_of_pos k (show 0<n by omega)
 have hq:0≤k/n∧k/n≤k:=⟨Int.ediv_nonneg hkb.1 (by omega),Int.ediv_le_self _ hkb.1⟩
 obtain⟨L,rfl⟩:=Int.eq_ofNat_of_zero_le hkb.1
 obtain⟨D,rfl⟩:=Int.eq_ofNat_of_zero_le (show 0≤n by omega)
 have HD:=Lib.hid (fun w=>Div64B L D (by omega) (by omega) w)
 obtain⟨q,HQ⟩:∃ q:Int,Hid (q=((L/D:Nat):Int)):=⟨_,rfl⟩
 obtain⟨r,HR⟩:∃ r:Int,Hid (r=((L % D:Nat):Int)):=⟨_,rfl⟩
 have e1:(L:Int)/(D:Int)=q:=by rw[HQ.out];simp
 have e2:(L:Int) % (D:Int)=r:=by rw[HR.out];simp
 rw[← HQ.out,← HR.out] at HD
 rw[e2] at hm hm2
 rw[e1] at hq
 rw[e1,e2]
 have HE:=Lib.hid (And.intro e1 e2)
 clear e1 e2
 have hd0:((D:Int) == 0)=false:=by rw[beq_eq_false_iff_ne];omega
 have hy:bits .xor .u64 IntKind.u64.max q=18446744073709551615-q:=u64_notI q (by omega)
 go_enter Tryz.func150,Tryz.ntmps150
 go_wp2_with fail
 go_quiet (fail)
 go_wp2_with fail
 refine(HD.out _).mono ?_
 rintro e w2 ⟨rfl,hs⟩
 have hs0:Since w w2:=Since.trans ((((Since.rfl_ w).alloc _).alloc _).drewN _) hs
 have hb:=hs.blk ((Blk.new' (w:=w.alloc (.cells #[.int .i64 0,.int .u64 (L:Int)] 177)) (g:=w.heap.size+1) (t:=177) (cs := #[.int .i64 0,.int .u64 0]) (by simp)).drewN _)
 have r0:w2.cell? ⟨w.heap.size+1,0,none⟩=some (.int .i64 0):=hb.cell 0
 have r1:w2.cell? ⟨w.heap.size+1,1,none⟩=some (.int .u64 0):=hb.cell 1
 have f0:=hb.frozen 0
 have f1:=hb.frozen 1
 have HS:=Lib.hid hs0
 clear hs hs0 hb
 go_wp2_with fail
 refine bodyPost_ret (v:=.tuple #[.agg #[.int .i64 (-1),.int .u64 (18446744073709551615-q)],.int .i64 ((D:Int)-1-r),.int .i64 0]) (by simp[results,Tryz.results150,go_sem,cSetS,cSetO,cellDrew,r0,r1]) rfl ⟨rfl,?_⟩
 exact(HS.out.setCell (by dsimp only;omega) _).setCell (by dsimp only;omega) _
theorem Div_w(z n:Int)(hz : -18446744073709551616≤z∧z<18446744073709551616)(hn:1≤n∧n≤9223372036854775807)(w:World) :
  Calls Tryz.prog 150 #[wideV z,.int .i64 n] w fun e w' => e=.returned (.tuple #[wideV (z/n),.int .i64 (z % n),.int .i64 0])∧Since w w' := by
 have hl:=wLo_bd z
 rcases Int.lt_or_le z 0 with h | h
 ·have e:wHi z = -1:=by unfold wHi;omega
  have el:wLo z=z+18446744073709551616:=by unfold wLo;omega
  unfold wideV
  rw[e]
  refine(DivN_w (wLo z) n hl hn w).mono ?_
  rintro _ w' ⟨rfl,hs⟩
  refine⟨?_,hs⟩
  obtain⟨y,hy⟩:∃ y,y = -z-1:=⟨_,rfl⟩
  have ey:18446744073709551615-wLo z=y:=by omega
  rw[ey]
  have e1:z = -y-1:=by omega
  have d1:=Int.mul_ediv_add_emod y n
  have d2:=Int.emod_nonneg y (show n≠0 by omega)
  have d3:=Int.emod_lt_of_pos y (show 0<n by omega)
  have d5:0≤y/n:=Int.ediv_nonneg (by omega) (by omega)
  have d6:y/n≤y:=Int.ediv_le_self _ (by omega)
  obtain⟨q,hq⟩:∃ q,q=y/n:=⟨_,rfl⟩
  obtain⟨r,hr⟩:∃ r,r=y % n:=⟨_,rfl⟩
  rw[← hq,← hr] at d1
  rw[← hq] at d5 d6
  rw[← hr] at d2 d3
  have k:z=(n-1-r)+n*(-q-1):=by rw[e1,← d1];grind
  have q1:z/n = -q-1:=by rw[k,Int.add_mul_ediv_left _ _ (by omega),Int.ediv_eq_zero_of_lt (by omega) (by omega)];omega
  have q2:z % n=n-1-r:=by rw[k,Int.add_mul_emod_self_left,Int.emod_eq_of_lt (by omega) (by omega)]
  rw[q1,q2,← hq,← hr]
  have h1:wHi (-q-1) = -1:=by unfold wHi;omega
  have h2:wLo (-q-1)=18446744073709551615-q:=by unfold wLo;omega
  rw[h1,h2]
 ·have e:wHi z=0:=by unfold wHi;omega
  have el:wLo z=z:=by unfold wLo;omega
  unfold wideV
  rw[e,el]
  refine(DivP_w z n ⟨h,by omega⟩ hn w).mono ?_
  rintro _ w' ⟨rfl,hs⟩
  have h3:0≤z/n:=Int.ediv_nonneg h (by omega)
  have h4:z/n≤z:=Int.ediv_le_self _ h
  have h1:wHi (z/n)=0:=by unfold wHi;omega
  have h2:wLo (z/n)=z/n:=by unfold wLo;omega
  exact⟨by rw[h1,h2],hs⟩
theorem Add_w(x y:Int)(hx : -18446744073709551616≤x∧x<18446744073709551616)(hy : -18446744073709551616≤y∧y<18446744073709551616)(w:World) :
  Calls Tryz.prog 171 #[wideV x,wideV y] w fun e w' => e=.returned (wideV (x+y))∧Since w w' := by
 have ha:=fun(x y c:Int) (h1:0≤x) (h2:0≤y) (h3:0≤c) (h4:c≤1) w=>Add64_run x y c h1 h2 h3 h4 w
 have lx:=wLo_bd x
 have ly:=wLo_bd y
 have HF:Hid (∀ h l,h=wHi (x+y)→l=wLo (x+y)→wideV (x+y)=.agg #[.int .i64 h,.int .u64 l]):=fun h l e1 e2=>by rw[e1,e2];rfl
 unfold wideV
 obtain⟨hx',hX⟩:∃ a,Hid (a=wHi x):=⟨_,rfl⟩
 obtain⟨lx',lX⟩:∃ a,Hid (a=wLo x):=⟨_,rfl⟩
 obtain⟨hy',hY⟩:∃ a,Hid (a=wHi y):=⟨_,rfl⟩
 obtain⟨ly',lY⟩:∃ a,Hid (a=wLo y):=⟨_,rfl⟩
 rw[← hX.out,← lX.out,← hY.out,← lY.out]
 rw[← lX.out] at lx
 rw[← lY.out] at ly
 have a1:=aW_eq hx'
 have a2:=aW_eq hy'
 have c0:0≤(lx' + ly')/18446744073709551616:=by omega
 have c1:(lx' + ly')/18446744073709551616≤1:=by omega
 go_enter Tryz.func171,Tryz.ntmps171
 go_wp2_with fail
 refine bodyPost_ret (v:=.agg #[.int .i64 (wrap64 (((aW hx' : Int)+(aW hy' : Int)+(lx' + ly')/18446744073709551616) % 18446744073709551616)),.int .u64 ((lx' + ly') % 18446744073709551616)]) (by simp[results,Tryz.results171,go_sem]) rfl ⟨?_,(((Since.rfl_ w).alloc _).alloc _).alloc _⟩
 have b1 : -9223372036854775808≤hx' ∧ hx' ≤ 9223372036854775807:=by rw[hX.out];unfold wHi;omega
 have b2 : -9223372036854775808≤hy' ∧ hy' ≤ 9223372036854775807:=by rw[hY.out];unfold wHi;omega
 have v1:=aW_val b1
 have v2:=aW_val b2
 have x1:=w_eq x
 have y1:=w_eq y
 rw[← hX.out,← lX.out] at x1
 rw[← hY.out,← lY.out] at y1
 have e1:wrap64 (((aW hx' : Int)+(aW hy' : Int)+(lx' + ly')/18446744073709551616) % 18446744073709551616)=wHi (x+y):=by
  rw[i64W,v1,v2]
  unfold wHi
  split <;> split <;> omega
 have e2:(lx' + ly') % 18446744073709551616=wLo (x+y):=by unfold wLo;omega
 rw[e1,e2]
end
end Go.Proofs.YtdnccjdlmepafaaGreat
