/-
  The walk of topo.Move on what Build makes; Plain law of HotOrder: the order and the directions of segments do not matter; Plain law: a drawing of segments that meet only at their ends has at most three times as many segments as points. Conditions: those that each lemma names.
-/
import Derived.Test.YtdnccjdlmepafaaGreatK30
import Derived.Test.YtdnccjdlmepafaaGreatK17
import Derived.Test.YtdnccjdlmepafaaGreatK14
set_option linter.unusedSimpArgs false
set_option linter.unusedVariables false
set_option linter.constructorNameAsVariable false
namespace Go.Proofs.YtdnccjdlmepafaaGreat
section
open Go.RowKit Go.BigFrame
attribute [local go_sem ↓] eqPt neqPt
def mpK(f:Sg→Sg)(L:List Sg):Nat→List Sg
 | 0=>L
 | i+1=>(mpK f L i).set i (f (sgAt L i))
theorem mpK_len(f:Sg→Sg)(L:List Sg):∀ i,(mpK f L i).length=L.length
 | 0=>rfl
 | i+1=>by unfold mpK;rw[List.length_set];exact mpK_len f L i
theorem mpK_at{f:Sg→Sg}{L:List Sg}{j:Nat}(hj:j<L.length):∀ i,i≤L.length→sgAt (mpK f L i) j=if j<i then f (sgAt L j) else sgAt L j
 | 0,_=>by rw[if_neg (Nat.not_lt_zero _)];rfl
 | i+1,hi=>by
  unfold mpK
  rw[sgAt_set _ (by rw[mpK_len];omega)]
  split
  ·rename_i e;subst e;rw[if_pos (Nat.lt_succ_self _)]
  ·rename_i e
   rw[mpK_at hj i (by omega)]
   split
   ·rw[if_pos (by omega)]
   ·rw[if_neg (by omega)]
theorem mpK_all(f:Sg→Sg)(L:List Sg):mpK f L L.length=L.map f:=by
 refine List.ext_getElem (by rw[mpK_len,List.length_map]) fun i h1 h2=>?_
 rw[mpK_len] at h1
 rw[← sgAt_get,mpK_at h1 _ (Nat.le_refl _),if_pos h1,List.getElem_map,sgAt_get h1]
theorem flatG_a(q:Pt2):∀ (l:List Sg) (i:Nat),i<l.length→((l.flatMap sgV).set (i*4) (.int .i64 q.1)).set (i*4+1) (.int .i64 q.2)=(l.set i (q,(sgAt l i).2)).flatMap sgV
 | [],i,h=>absurd h (Nat.not_lt_zero _)
 | p :: l,0,_=>by simp[sgV,sgAt]
 | p :: l,i+1,h=>by
  have ih:=flatG_a q l i (by simpa using h)
  rw[List.set_cons_succ,List.flatMap_cons,List.flatMap_cons,show sgAt (p :: l) (i+1)=sgAt l i by simp[sgAt,List.getD],← ih]
  simp only[sgV,show(i+1)*4=i*4+1+1+1+1 by omega,List.cons_append,List.nil_append,List.set_cons_succ]
theorem flatG_b(q:Pt2):∀ (l:List Sg) (i:Nat),i<l.length→((l.flatMap sgV).set (i*4+2) (.int .i64 q.1)).set (i*4+3) (.int .i64 q.2)=(l.set i ((sgAt l i).1,q)).flatMap sgV
 | [],i,h=>absurd h (Nat.not_lt_zero _)
 | p :: l,0,_=>by simp[sgV,sgAt]
 | p :: l,i+1,h=>by
  have ih:=flatG_b q l i (by simpa using h)
  rw[List.set_cons_succ,List.flatMap_cons,List.flatMap_cons,show sgAt (p :: l) (i+1)=sgAt l i by simp[sgAt,List.getD],← ih]
  simp only[sgV,show(i+1)*4+2=i*4+2+1+1+1+1 by omega,show(i+1)*4+3=i*4+3+1+1+1+1 by omega,List.cons_append,List.nil_append,List.set_cons_succ]
def rn2(a p:Pt2)(s:Sg):Nat→Sg
 | 0=>s
 | 1=>(rn1 a p s.1,s.2)
 | _=>rnG a p s
theorem rn2_a{a p:Pt2}{s:Sg}(e:s.1=a):rn2 a p s 1=(p,s.2):=by show(rn1 a p s.1,s.2)=_;unfold rn1;rw[if_pos e]
theorem rn2_an{a p:Pt2}{s:Sg}(e:s.1≠a):rn2 a p s 1=s:=by show(rn1 a p s.1,s.2)=_;unfold rn1;rw[if_neg e]
theorem rn2_b{a p:Pt2}{s:Sg}(e:s.2=a):rn2 a p s 2=((rn2 a p s 1).1,p):=by show(rn1 a p s.1,rn1 a p s.2)=(rn1 a p s.1,p);rw[show rn1 a p s.2=p by unfold rn1;rw[if_pos e]]
theorem rn2_bn{a p:Pt2}{s:Sg}(e:s.2≠a):rn2 a p s 2=rn2 a p s 1:=by show(rn1 a p s.1,rn1 a p s.2)=(rn1 a p s.1,s.2);rw[show rn1 a p s.2=s.2 by unfold rn1;rw[if_neg e]]
def MvW(w w' : World)(B:Nat)(m:Array Value)(p:Pt2):Prop:=Since w w' ∧ Blk w' B 26 m∧Blk w' (B+1) 36 #[.int .i64 p.1,.int .i64 p.2]∧Blk w' (B+1+1) 26 #[nilV,nilV,nilV]
theorem MvW.since{w a b:World}{B:Nat}{m:Array Value}{p:Pt2}(h:MvW w a B m p)(k:Since a b):MvW w b B m p:=⟨h.1.trans k,k.blk h.2.1,k.blk h.2.2.1,k.blk h.2.2.2⟩
theorem MvW.set{w a:World}{B:Nat}{m:Array Value}{p:Pt2}(h:MvW w a B m p){g:Nat}(hB:w.heap.size≤B)(hg:B+1+1<g)(i j:Nat)(u z:Value):MvW w ((a.setCell ⟨g,i,none⟩ u).setCell ⟨g,j,none⟩ z) B m p :=
 ⟨(h.1.setCell (p:=⟨g,i,none⟩) (by dsimp only;omega) u).setCell (p:=⟨g,j,none⟩) (by dsimp only;omega) z,(h.2.1.far (by dsimp only;omega) _).far (by dsimp only;omega) _,(h.2.2.1.far (by dsimp only;omega) _).far (by dsimp only;omega) _,(h.2.2.2.far (by dsimp only;omega) _).far (by dsimp only;omega) _⟩
set_option maxRecDepth 100000 in
set_option maxHeartbeats 4000000 in
theorem TMove_any (vP vH vF:Value) (E:List Sg) (P:List Pt2) (H:List Hf) (F:List Int) (v:Nat) (p a:Pt2) (w:World) (hm:MapR w vP vH vF P H F) (hE:RndOk E) (hl:E.length≤3000) (hb:BldR E P H F) (hv:v<P.length) (ha:pAt P v=a) (hp:okP p.1 p.2=true) :
  Calls Tryz.prog 22 #[.agg #[vP,vH,vF],.int .i64 v,.agg #[.int .i64 p.1,.int .i64 p.2]] w fun e w' => (((p≠a∧p∈P)∧e=.returned (.tuple #[.agg #[nilV,nilV,nilV],.int .i64 5]))∨(¬ (p≠a∧p∈P)∧TbR w.heap.size (E.map (rnG a p)) w' e))∧Since w w' := by
 have HLN:=Lib.hid (fun w' (k:Since w w')=>TLines_any vP vH vF E P H F w' (hm.since k) hE hl hb)
 have HE:=Lib.hid hE.ok
 have HP:=Lib.hid hp
 obtain⟨b1,-,-⟩:=hb.bds hE hl
 have HEN:Hid (∀ s∈E,s.1∈P∧s.2∈P):=fun s hs=>by rw[hb.pts];exact⟨ptsE_mem.2 ⟨s,hs,.inl rfl⟩,ptsE_mem.2 ⟨s,hs,.inr rfl⟩⟩
 have hn0:0<E.length:=by
  rcases Nat.eq_zero_or_pos E.length with e | e
  ·have hP:=hb.pts
   rw[List.eq_nil_of_length_eq_zero e] at hP
   rw[hP,show ptsK [] ([]:List Sg).length=[] by rfl,hullS_nil] at hv
   exact absurd hv (Nat.not_lt_zero _)
  ·exact e
 obtain⟨⟨aP,cP,hvP⟩,⟨aH,cH,hvH⟩,⟨aF,cF,hvF⟩⟩:=hm.vals
 subst hvP hvH hvF
 have HPS:=Lib.hid hm.p
 have HCO:=Lib.hid (fun w' (k:Since w w')=>ContainsP_any (x:=p) (hm.p.keep (keepC k)) b1)
 clear hm hb hE hp
 obtain⟨nP,HNP⟩:∃ n,Hid (n=P.length):=⟨_,rfl⟩
 obtain⟨nH,HNH⟩:∃ n,Hid (n=H.length):=⟨_,rfl⟩
 obtain⟨nF,HNF⟩:∃ n,Hid (n=F.length):=⟨_,rfl⟩
 obtain⟨n,HN⟩:∃ n,Hid (n=E.length):=⟨_,rfl⟩
 rw[← HN.out] at hl hn0
 rw[← HNP.out] at hv b1 HCO
 rw[← HNP.out,← HNH.out,← HNF.out] at HLN ⊢
 rw[← HN.out] at HLN
 obtain⟨f,hf⟩:∃ f,Hid (f=rnG a p):=⟨_,rfl⟩
 have HQF:Hid (∀ (e:Ending) w',((((p≠a∧p∈P)∧e=.returned (.tuple #[.agg #[nilV,nilV,nilV],.int .i64 5]))∨(¬ (p≠a∧p∈P)∧TbR w.heap.size (E.map f) w' e))∧Since w w')→((((p≠a∧p∈P)∧e=.returned (.tuple #[.agg #[nilV,nilV,nilV],.int .i64 5]))∨(¬ (p≠a∧p∈P)∧TbR w.heap.size (E.map (rnG a p)) w' e))∧Since w w')):=fun e w' h=>by rw[← hf.out];exact h
 have hPA:=HPS.out
 obtain⟨gP,oP,haP,a0,a1⟩:∃ gP oP,aP=some ⟨gP,oP,none⟩∧w.cell? ⟨gP,oP+v*2,none⟩=some (.int .i64 a.1)∧w.cell? ⟨gP,oP+v*2+1,none⟩=some (.int .i64 a.2):=by
  obtain⟨a',c',e,hc⟩:=hPA
  injection e with e1 e2 e3
  subst e1 e3
  obtain⟨g,o,e4,x1,x2⟩:=hc v (by rw[← HNP.out];exact hv)
  rw[ha] at x1 x2
  exact⟨g,o,e4,x1,x2⟩
 subst haP
 have HA:=Lib.hid (And.intro a0 a1)
 clear hPA HPS a0 a1 ha
 obtain⟨B,HB⟩:∃ B,Hid (B=w.heap.size):=⟨_,rfl⟩
 go_enter Tryz.func22,Tryz.ntmps22
 go_upto_region 1 with fail
 rw[← HB.out]
 refine atW (fun w' => Hid (MvW w w' B #[.slice (some ⟨gP,oP,none⟩) nP cP,.slice aH nH cH,.slice aF nF cF] p)) ⟨((Since.rfl_ w).alloc _).alloc _ |>.alloc _,((Blk.new' HB.out).alloc _).alloc _,(Blk.new' (by simp[HB.out])).alloc _,Blk.new' (by simp[HB.out])⟩ ?_
 rintro w1 HW1
 have m0:w1.cell? ⟨B,0,none⟩=some (.slice (some ⟨gP,oP,none⟩) nP cP):=HW1.out.2.1.cell 0
 have m1:w1.cell? ⟨B,1,none⟩=some (.slice aH nH cH):=HW1.out.2.1.cell 1
 have m2:w1.cell? ⟨B,2,none⟩=some (.slice aF nF cF):=HW1.out.2.1.cell 2
 go_wp2_with fail
 clear m0 m1 m2
 refine(HLN.out _ HW1.out.1).mono ?_
 rintro e w2 ⟨x,rfl,ho,hs⟩
 obtain⟨g,c,hx⟩:=own_gc ho hn0
 subst hx
 obtain⟨b,Hb⟩:∃ b,Hid (b=w1.heap.size):=⟨_,rfl⟩
 rw[← Hb.out] at ho
 have hBb:B+1+1<b:=by rw[Hb.out];exact HW1.out.2.2.2.lt
 have hbg:b≤g:=(ho.lt g rfl).1
 have HO2:=Lib.hid ho
 have HW2:=Lib.hid (HW1.out.since hs)
 have hwB:w.heap.size≤B:=by rw[HB.out];exact Nat.le_refl _
 clear hs ho HW1 HLN
 have m0:w2.cell? ⟨B,0,none⟩=some (.slice (some ⟨gP,oP,none⟩) nP cP):=HW2.out.2.1.cell 0
 have g1:decide ((v:Int)<0)=false:=by rw[decide_eq_false_iff_not];omega
 have g2:decide ((nP:Int)≤(v:Int))=false:=by rw[decide_eq_false_iff_not];omega
 have g3:decide (nP≤v)=false:=by rw[decide_eq_false_iff_not];omega
 have p0:w2.cell? ⟨B+1,0,none⟩=some (.int .i64 p.1):=HW2.out.2.2.1.cell 0
 have p1:w2.cell? ⟨B+1,1,none⟩=some (.int .i64 p.2):=HW2.out.2.2.1.cell 1
 go_wp2_with fail
 clear m0 g1 g2 g3 p0 p1
 refine(Ok_val HP.out _).mono ?_
 rintro e w3 ⟨rfl,hs⟩
 have HW3:=Lib.hid (HW2.out.since hs)
 have HO3:=Lib.hid (own_since hs HO2.out)
 clear hs HW2 HO2
 have KF:=Lib.hid (fun w' (k:Since w3 w')=>(show w'.cell? ⟨B,0,none⟩=some (.slice (some ⟨gP,oP,none⟩) nP cP)∧w'.cell? ⟨B+1,0,none⟩=some (.int .i64 p.1)∧w'.cell? ⟨B+1,1,none⟩=some (.int .i64 p.2)∧w'.cell? ⟨gP,oP+v*2,none⟩=some (.int .i64 a.1)∧w'.cell? ⟨gP,oP+v*2+1,none⟩=some (.int .i64 a.2) from
  ⟨(HW3.out.since k).2.1.cell 0,(HW3.out.since k).2.2.1.cell 0,(HW3.out.since k).2.2.1.cell 1,keepC (HW3.out.1.trans k) _ _ HA.out.1,keepC (HW3.out.1.trans k) _ _ HA.out.2⟩))
 have k1:(0:Int)≤(v:Int):=by omega
 have k2:(v:Int)<(nP:Int):=by omega
 go_upto_region 8 with fail
 obtain⟨z,hz0⟩:∃ z,Hid (z=decide (p∈P)):=⟨_,rfl⟩
 rw[← hz0.out] at HCO
 by_cases hc:p≠a∧p∈P
 ·have he:(p.1 == a.1 && p.2 == a.2)=false:=by rw[eqB_dec,decide_eq_false_iff_not];exact hc.1
  have hzt:z=true:=by rw[hz0.out,decide_eq_true_eq];exact hc.2
  subst hzt
  have HC:=Lib.hid hc
  clear hc
  apply region_facts 13 (fun w' => Since w3 w')
  case hm=>kernel_rfl
  case hB=>kernel_rfl
  case hS=>exact(Since.rfl_ w3).drew
  case h =>
  simp only[List.take_succ_cons,List.take_zero,List.drop_succ_cons,List.drop_zero]
  iterate 11 (apply wpO_det;(case hw=>rfl);(case h=>intro hFm wx hS_ hF_ K hK;go_big_quiet_op;first | exact hK _ rfl | (apply Exists.intro;refine⟨fun _=>?_,?_⟩;(focus (first | (intro hC;have hC:=KF.out _ hC.out.1;(try simp only[hC,Result.andThen]);first | exact⟨True.intro,rfl⟩ | exact⟨rfl,rfl⟩ | rfl)));exact hK _ rfl));(case' k=>simp only[Act.put,List.setIfInBounds_toArray,List.set_cons_succ,List.set_cons_zero,List.cons_append,List.nil_append]))
  (apply wpO_det;(case hw=>rfl);(case h=>intro hFm wx hS_ hF_ K hK;go_big_quiet_op;first | exact hK _ rfl | (apply Exists.intro;refine⟨fun _=>?_,?_⟩;(focus (first | (intro hC;go_at_call 23;refine(HCO.out _ (HW3.out.1.trans hC.out.1)).mono ?_;rintro e w' ⟨rfl,hb⟩;refine⟨rfl,?_⟩;exact cls_call hFm hC hb)));exact hK _ rfl));(case' k=>simp only[Act.put,List.setIfInBounds_toArray,List.set_cons_succ,List.set_cons_zero,List.cons_append,List.nil_append]))
  (apply wpO_det;(case hw=>rfl);(case h=>intro hFm wx hS_ hF_ K hK;go_big_quiet_op;first | exact hK _ rfl | (apply Exists.intro;refine⟨fun _=>?_,?_⟩;(focus (first | (intro hC;have hC:=KF.out _ hC.out.1;(try simp only[hC,Result.andThen]);first | exact⟨True.intro,rfl⟩ | exact⟨rfl,rfl⟩ | rfl)));exact hK _ rfl));(case' k=>simp only[Act.put,List.setIfInBounds_toArray,List.set_cons_succ,List.set_cons_zero,List.cons_append,List.nil_append]))
  refine wpO_nil ?_
  intro w4 hS hF hB
  (try simp[allF] at hF)
  (try simp[List.pairwise_cons] at hB)
  have HW4:=Lib.hid (HW3.out.since hS)
  clear hF hB hS KF HW3 HO3
  go_upto_region 9 with fail
  have HBB:=Lib.hid HW4.out.2.2.2
  have b0:=HBB.out.cell 0
  have b1:=HBB.out.cell 1
  have b2:=HBB.out.cell 2
  have d0:=HBB.out.frozen 0
  have d1:=HBB.out.frozen 1
  have d2:=HBB.out.frozen 2
  simp only[List.getElem?_toArray,List.getElem?_cons_zero,List.getElem?_cons_succ] at b0 b1 b2
  have hBw:w.heap.size≤B+1+1:=by omega
  have HSF:=Lib.hid (((HW4.out.1.setCell (p:=⟨B+1+1,0,none⟩) hBw nilV).setCell (p:=⟨B+1+1,1,none⟩) hBw nilV).setCell (p:=⟨B+1+1,2,none⟩) hBw nilV)
  clear HW4 HBB
  unfold nilV at b0 b1 b2 HSF
  go_wp2_with fail
  refine bodyPost_ret (v:=.tuple #[.agg #[.slice none 0 0,.slice none 0 0,.slice none 0 0],.int .i64 5]) (by simp[results,Tryz.results22,go_sem,cSetS,cSetO,cellDrew,b0,b1,b2,d0,d1,d2]) rfl ⟨.inl ⟨HC.out,rfl⟩,HSF.out⟩
 ·have HCN:=Lib.hid hc
  go_cut [47] from 35 to 48 (fun v47 w' => v47=.bool false∧Hid (MvW w w' B #[.slice (some ⟨gP,oP,none⟩) nP cP,.slice aH nH cH,.slice aF nF cF] p)∧Hid (w'.ownsRow b 37 4 (.slice (some ⟨g,0,none⟩) n c) n ((E).flatMap sgV)))
  case first =>
   by_cases hpa:p=a
   ·have he:(p.1 == a.1 && p.2 == a.2)=true:=by rw[hpa];simp
    apply region_facts 13 (fun w' => Since w3 w')
    case hm=>kernel_rfl
    case hB=>kernel_rfl
    case hS=>exact(Since.rfl_ w3).drew
    case h =>
    simp only[List.take_succ_cons,List.take_zero,List.drop_succ_cons,List.drop_zero]
    iterate 8 (apply wpO_det;(case hw=>rfl);(case h=>intro hFm wx hS_ hF_ K hK;go_big_quiet_op;first | exact hK _ rfl | (apply Exists.intro;refine⟨fun _=>?_,?_⟩;(focus (first | (intro hC;have hC:=KF.out _ hC.out.1;(try simp only[hC,Result.andThen]);first | exact⟨True.intro,rfl⟩ | exact⟨rfl,rfl⟩ | rfl)));exact hK _ rfl));(case' k=>simp only[Act.put,List.setIfInBounds_toArray,List.set_cons_succ,List.set_cons_zero,List.cons_append,List.nil_append]))
    apply wpO_skip
    case hw=>rfl
    case k =>
    simp only[Act.put,List.setIfInBounds_toArray,List.set_cons_succ,List.set_cons_zero,List.cons_append,List.nil_append]
    apply wpO_skip
    case hw=>rfl
    case k =>
    simp only[Act.put,List.setIfInBounds_toArray,List.set_cons_succ,List.set_cons_zero,List.cons_append,List.nil_append]
    apply wpO_skip
    case hw=>rfl
    case k =>
    simp only[Act.put,List.setIfInBounds_toArray,List.set_cons_succ,List.set_cons_zero,List.cons_append,List.nil_append]
    apply wpO_skip
    case hw=>rfl
    case k =>
    simp only[Act.put,List.setIfInBounds_toArray,List.set_cons_succ,List.set_cons_zero,List.cons_append,List.nil_append]
    (apply wpO_det;(case hw=>rfl);(case h=>intro hFm wx hS_ hF_ K hK;go_big_quiet_op;first | exact hK _ rfl | (apply Exists.intro;refine⟨fun _=>?_,?_⟩;(focus (first | (intro hC;have hC:=KF.out _ hC.out.1;(try simp only[hC,Result.andThen]);first | exact⟨True.intro,rfl⟩ | exact⟨rfl,rfl⟩ | rfl)));exact hK _ rfl));(case' k=>simp only[Act.put,List.setIfInBounds_toArray,List.set_cons_succ,List.set_cons_zero,List.cons_append,List.nil_append]))
    refine wpO_nil ?_
    intro w4 hS hF hB
    (try simp[allF] at hF)
    (try simp[List.pairwise_cons] at hB)
    have HW4:=Lib.hid (HW3.out.since hS)
    have HO4:=Lib.hid (own_since hS HO3.out)
    clear hF hB hS
    go_wp2_with fail
    go_meet
    exact⟨rfl,HW4,HO4⟩
   ·have he:(p.1 == a.1 && p.2 == a.2)=false:=by rw[eqB_dec,decide_eq_false_iff_not];exact hpa
    have hzf:z=false:=by rw[hz0.out,decide_eq_false_iff_not];exact fun k=>hc ⟨hpa,k⟩
    subst hzf
    apply region_facts 13 (fun w' => Since w3 w')
    case hm=>kernel_rfl
    case hB=>kernel_rfl
    case hS=>exact(Since.rfl_ w3).drew
    case h =>
    simp only[List.take_succ_cons,List.take_zero,List.drop_succ_cons,List.drop_zero]
    iterate 11 (apply wpO_det;(case hw=>rfl);(case h=>intro hFm wx hS_ hF_ K hK;go_big_quiet_op;first | exact hK _ rfl | (apply Exists.intro;refine⟨fun _=>?_,?_⟩;(focus (first | (intro hC;have hC:=KF.out _ hC.out.1;(try simp only[hC,Result.andThen]);first | exact⟨True.intro,rfl⟩ | exact⟨rfl,rfl⟩ | rfl)));exact hK _ rfl));(case' k=>simp only[Act.put,List.setIfInBounds_toArray,List.set_cons_succ,List.set_cons_zero,List.cons_append,List.nil_append]))
    (apply wpO_det;(case hw=>rfl);(case h=>intro hFm wx hS_ hF_ K hK;go_big_quiet_op;first | exact hK _ rfl | (apply Exists.intro;refine⟨fun _=>?_,?_⟩;(focus (first | (intro hC;go_at_call 23;refine(HCO.out _ (HW3.out.1.trans hC.out.1)).mono ?_;rintro e w' ⟨rfl,hb⟩;refine⟨rfl,?_⟩;exact cls_call hFm hC hb)));exact hK _ rfl));(case' k=>simp only[Act.put,List.setIfInBounds_toArray,List.set_cons_succ,List.set_cons_zero,List.cons_append,List.nil_append]))
    (apply wpO_det;(case hw=>rfl);(case h=>intro hFm wx hS_ hF_ K hK;go_big_quiet_op;first | exact hK _ rfl | (apply Exists.intro;refine⟨fun _=>?_,?_⟩;(focus (first | (intro hC;have hC:=KF.out _ hC.out.1;(try simp only[hC,Result.andThen]);first | exact⟨True.intro,rfl⟩ | exact⟨rfl,rfl⟩ | rfl)));exact hK _ rfl));(case' k=>simp only[Act.put,List.setIfInBounds_toArray,List.set_cons_succ,List.set_cons_zero,List.cons_append,List.nil_append]))
    refine wpO_nil ?_
    intro w4 hS hF hB
    (try simp[allF] at hF)
    (try simp[List.pairwise_cons] at hB)
    have HW4:=Lib.hid (HW3.out.since hS)
    have HO4:=Lib.hid (own_since hS HO3.out)
    clear hF hB hS
    go_wp2_with fail
    go_meet
    exact⟨rfl,HW4,HO4⟩
  case rest =>
   obtain⟨rfl,HW4,HO4⟩:=hcut
   obtain⟨w4,rfl⟩:∃ w4,w4=wc:=⟨_,rfl⟩
   clear KF HW3 HO3 HCO
   go_wp2_with fail
   go_loopw [51] (fun v51 wr=>∃ k:Nat,k≤n∧v51=.int .i64 k∧Hid (MvW w wr B #[.slice (some ⟨gP,oP,none⟩) nP cP,.slice aH nH cH,.slice aF nF cF] p)∧Hid (wr.ownsRow b 37 4 (.slice (some ⟨g,0,none⟩) n c) n ((mpK f E k).flatMap sgV))) (fun v51 _=>n-(intOf v51).toNat)
   case atStart=>exact⟨0,Nat.zero_le _,by go_num,HW4,HO4⟩
   case round =>
    clear HW4 HO4
    obtain⟨k,hk,rfl,HW,HO⟩:=hrel
    obtain⟨w5,rfl⟩:∃ w5,w5=wr:=⟨_,rfl⟩
    rcases Nat.lt_or_ge k n with hlt | hge
    ·have hz:decide ((k:Int)<(n:Int))=true:=by rw[decide_eq_true_eq];omega
     have hkl:k<E.length:=by rw[← HN.out];exact hlt
     obtain⟨s,hs⟩:∃ s,Hid (s=sgAt E k):=⟨_,rfl⟩
     have HSS:Hid ((mpK f E k).set k s=mpK f E k):=by
      have e:s=sgAt (mpK f E k) k:=by rw[mpK_at hkl k (Nat.le_of_lt hkl),if_neg (Nat.lt_irrefl _)];exact hs.out
      show _=_
      rw[e,sgAt_get (by rw[mpK_len];exact hkl),List.set_getElem_self]
     have HMP:Hid (mpK f E (k+1)=(mpK f E k).set k (rn2 a p s 2)):=by show(mpK f E k).set k (f (sgAt E k))=_;rw[← hs.out,hf.out];rfl
     have HOT:Hid (w5.ownsRow b 37 4 (.slice (some ⟨g,0,none⟩) n c) n (((mpK f E k).set k (rn2 a p s 0)).flatMap sgV)):=by show World.ownsRow _ _ _ _ _ _ (((mpK f E k).set k s).flatMap sgV);rw[HSS.out];exact HO.out
     obtain⟨T,hT⟩:∃ T,Hid (T=mpK f E k):=⟨_,rfl⟩
     have TL:Hid (T.length=n):=by show _=_;rw[hT.out,mpK_len,HN.out]
     rw[← hT.out] at HOT HMP
     have i1:(0:Int)≤(k:Int):=by omega
     have i2:(k:Int)<(n:Int):=by omega
     clear HO HSS
     go_wp2_with fail
     go_loopg [54] 2 (fun gm v54 wr=>∃ j:Nat,j+gm=2∧v54=.int .i64 j∧Hid (MvW w wr B #[.slice (some ⟨gP,oP,none⟩) nP cP,.slice aH nH cH,.slice aF nF cF] p)∧Hid (wr.ownsRow b 37 4 (.slice (some ⟨g,0,none⟩) n c) n ((T.set k (rn2 a p s j)).flatMap sgV)))
     case atStart=>exact⟨0,by omega,by go_num,HW,HOT⟩
     case round =>
      clear HW HOT
      obtain⟨j,hj,rfl,HW,HO⟩:=hrel
      obtain⟨w6,rfl⟩:∃ w6,w6=wr:=⟨_,rfl⟩
      obtain⟨t,ht⟩:∃ t,Hid (t=rn2 a p s j):=⟨_,rfl⟩
      rw[← ht.out] at HO
      obtain⟨h1,h2,h3,h4⟩:=rowG_cell HO.out (by rw[List.length_set];exact TL.out) hlt
      rw[sgAt_set _ (by rw[TL.out];exact hlt),if_pos rfl] at h1 h2 h3 h4
      have m0:w6.cell? ⟨B,0,none⟩=some (.slice (some ⟨gP,oP,none⟩) nP cP):=HW.out.2.1.cell 0
      have a0:=keepC HW.out.1 _ _ HA.out.1
      have a1:=keepC HW.out.1 _ _ HA.out.2
      rcases j with _ | _ | j
      ·rw[show((0:Nat):Int)=0 from rfl]
       have htv:t=rn2 a p s 0:=ht.out
       have htx:t.1=s.1:=by rw[htv];rfl
       rw[htx] at h1 h2
       by_cases e:s.1=a
       ·have hb:(s.1.1 == a.1 && s.1.2 == a.2)=true:=by rw[e];simp
        have HNE:Hid (rn2 a p s 1=(p,t.2)):=by show _=_;rw[rn2_a e,htv];rfl
        clear e htx htv
        go_upto_region 16 with fail
        go_quiet (fail)
        go_upto_region 17 with fail
        refine atW (fun w' => Hid (MvW w w' B #[.slice (some ⟨gP,oP,none⟩) nP cP,.slice aH nH cH,.slice aF nF cF] p)∧Hid (w'.ownsRow b 37 4 (.slice (some ⟨g,0,none⟩) n c) n ((T.set k t).flatMap sgV))) ⟨⟨HW.out.1.drewN _,HW.out.2.1,HW.out.2.2.1,HW.out.2.2.2⟩,HO.out⟩ ?_
        clear h1 h2 h3 h4 m0 a0 a1 HW HO
        rintro w7 ⟨HW,HO⟩
        have KF2:=Lib.hid (fun w' (k:Since w7 w')=>(show w'.cell? ⟨B+1,0,none⟩=some (.int .i64 p.1)∧w'.cell? ⟨B+1,1,none⟩=some (.int .i64 p.2) from⟨(HW.out.since k).2.2.1.cell 0,(HW.out.since k).2.2.1.cell 1⟩))
        apply region_facts 6 (fun w' => Since w7 w')
        case hm=>kernel_rfl
        case hB=>kernel_rfl
        case hS=>exact(Since.rfl_ w7).drew
        case h =>
        simp only[List.take_succ_cons,List.take_zero,List.drop_succ_cons,List.drop_zero]
        iterate 6 (apply wpO_det;(case hw=>rfl);(case h=>intro hFm wx hS_ hF_ K hK;go_big_quiet_op;first | exact hK _ rfl | (apply Exists.intro;refine⟨fun _=>?_,?_⟩;(focus (first | (intro hC;have hC:=KF2.out _ hC.out.1;(try simp only[hC,Result.andThen]);first | exact⟨True.intro,rfl⟩ | exact⟨rfl,rfl⟩ | rfl)));exact hK _ rfl));(case' k=>simp only[Act.put,List.setIfInBounds_toArray,List.set_cons_succ,List.set_cons_zero,List.cons_append,List.nil_append]))
        refine wpO_nil ?_
        intro w8 hS hF hB
        (try simp[allF] at hF)
        (try simp[List.pairwise_cons] at hB)
        have HW8:=Lib.hid (HW.out.since hS)
        have HO8:=Lib.hid (own_since hS HO.out)
        obtain⟨x1,x2,x3,x4⟩:=rowG_cell HO8.out (by rw[List.length_set];exact TL.out) hlt
        have fr0:=HO8.out.frozenAt (k*4)
        have fr1:=HO8.out.frozenAt (k*4+1)
        have HO9:Hid (((w8.setCell ⟨g,k*4,none⟩ (.int .i64 p.1)).setCell ⟨g,k*4+1,none⟩ (.int .i64 p.2)).ownsRow b 37 4 (.slice (some ⟨g,0,none⟩) n c) n ((T.set k (rn2 a p s 1)).flatMap sgV)):=by
         have h:=own_setK (own_setK HO8.out (i:=k*4) (by omega) (.int .i64 p.1)) (i:=k*4+1) (by omega) (.int .i64 p.2)
         rw[flatG_a p (T.set k t) k (by rw[List.length_set,TL.out];exact hlt),sgAt_set _ (by rw[TL.out];exact hlt),if_pos rfl,List.set_set,← HNE.out] at h
         exact h
        have HW9:=Lib.hid (HW8.out.set hwB (show B+1+1<g by omega) (k*4) (k*4+1) (.int .i64 p.1) (.int .i64 p.2))
        clear hF hB hS KF2 HW HO
        go_upto_region 18 with fail
        refine atW (fun w' => Hid (MvW w w' B #[.slice (some ⟨gP,oP,none⟩) nP cP,.slice aH nH cH,.slice aF nF cF] p)∧Hid (w'.ownsRow b 37 4 (.slice (some ⟨g,0,none⟩) n c) n ((T.set k (rn2 a p s 1)).flatMap sgV))) ⟨HW9.out,HO9.out⟩ ?_
        clear x1 x2 x3 x4 fr0 fr1 HW8 HO8 HW9 HO9
        rintro w9 ⟨HW,HO⟩
        go_wp2_with fail
        go_roundg (2-1)
        case measure=>omega
        case rel=>exact⟨1,by omega,by go_num,HW,HO⟩
       ·have hb:(s.1.1 == a.1 && s.1.2 == a.2)=false:=by rw[eqB_dec,decide_eq_false_iff_not];exact e
        have HNE:Hid (rn2 a p s 1=t):=by show _=_;rw[rn2_an e,htv];rfl
        clear e htx htv
        go_upto_region 16 with fail
        go_quiet (fail)
        go_wp2_with fail
        go_roundg (2-1)
        case measure=>omega
        case rel=>exact⟨1,by omega,by go_num,⟨HW.out.1.drewN _,HW.out.2.1,HW.out.2.2.1,HW.out.2.2.2⟩,by rw[HNE.out];exact HO.out⟩
      ·rw[show((0+1:Nat):Int)=1 from rfl]
       have htv:t=rn2 a p s 1:=ht.out
       have htx:t.2=s.2:=by rw[htv];rfl
       rw[htx] at h3 h4
       by_cases e:s.2=a
       ·have hb:(s.2.1 == a.1 && s.2.2 == a.2)=true:=by rw[e];simp
        have HNE:Hid (rn2 a p s 2=(t.1,p)):=by show _=_;rw[rn2_b e,htv]
        clear e htx htv
        go_upto_region 16 with fail
        go_quiet (fail)
        go_upto_region 17 with fail
        refine atW (fun w' => Hid (MvW w w' B #[.slice (some ⟨gP,oP,none⟩) nP cP,.slice aH nH cH,.slice aF nF cF] p)∧Hid (w'.ownsRow b 37 4 (.slice (some ⟨g,0,none⟩) n c) n ((T.set k t).flatMap sgV))) ⟨⟨HW.out.1.drewN _,HW.out.2.1,HW.out.2.2.1,HW.out.2.2.2⟩,HO.out⟩ ?_
        clear h1 h2 h3 h4 m0 a0 a1 HW HO
        rintro w7 ⟨HW,HO⟩
        have KF2:=Lib.hid (fun w' (k:Since w7 w')=>(show w'.cell? ⟨B+1,0,none⟩=some (.int .i64 p.1)∧w'.cell? ⟨B+1,1,none⟩=some (.int .i64 p.2) from⟨(HW.out.since k).2.2.1.cell 0,(HW.out.since k).2.2.1.cell 1⟩))
        apply region_facts 6 (fun w' => Since w7 w')
        case hm=>kernel_rfl
        case hB=>kernel_rfl
        case hS=>exact(Since.rfl_ w7).drew
        case h =>
        simp only[List.take_succ_cons,List.take_zero,List.drop_succ_cons,List.drop_zero]
        iterate 6 (apply wpO_det;(case hw=>rfl);(case h=>intro hFm wx hS_ hF_ K hK;go_big_quiet_op;first | exact hK _ rfl | (apply Exists.intro;refine⟨fun _=>?_,?_⟩;(focus (first | (intro hC;have hC:=KF2.out _ hC.out.1;(try simp only[hC,Result.andThen]);first | exact⟨True.intro,rfl⟩ | exact⟨rfl,rfl⟩ | rfl)));exact hK _ rfl));(case' k=>simp only[Act.put,List.setIfInBounds_toArray,List.set_cons_succ,List.set_cons_zero,List.cons_append,List.nil_append]))
        refine wpO_nil ?_
        intro w8 hS hF hB
        (try simp[allF] at hF)
        (try simp[List.pairwise_cons] at hB)
        have HW8:=Lib.hid (HW.out.since hS)
        have HO8:=Lib.hid (own_since hS HO.out)
        obtain⟨x1,x2,x3,x4⟩:=rowG_cell HO8.out (by rw[List.length_set];exact TL.out) hlt
        have fr0:=HO8.out.frozenAt (k*4+2)
        have fr1:=HO8.out.frozenAt (k*4+3)
        have HO9:Hid (((w8.setCell ⟨g,k*4+2,none⟩ (.int .i64 p.1)).setCell ⟨g,k*4+3,none⟩ (.int .i64 p.2)).ownsRow b 37 4 (.slice (some ⟨g,0,none⟩) n c) n ((T.set k (rn2 a p s 2)).flatMap sgV)):=by
         have h:=own_setK (own_setK HO8.out (i:=k*4+2) (by omega) (.int .i64 p.1)) (i:=k*4+3) (by omega) (.int .i64 p.2)
         rw[flatG_b p (T.set k t) k (by rw[List.length_set,TL.out];exact hlt),sgAt_set _ (by rw[TL.out];exact hlt),if_pos rfl,List.set_set,← HNE.out] at h
         exact h
        have HW9:=Lib.hid (HW8.out.set hwB (show B+1+1<g by omega) (k*4+2) (k*4+3) (.int .i64 p.1) (.int .i64 p.2))
        clear hF hB hS KF2 HW HO
        go_upto_region 18 with fail
        refine atW (fun w' => Hid (MvW w w' B #[.slice (some ⟨gP,oP,none⟩) nP cP,.slice aH nH cH,.slice aF nF cF] p)∧Hid (w'.ownsRow b 37 4 (.slice (some ⟨g,0,none⟩) n c) n ((T.set k (rn2 a p s 2)).flatMap sgV))) ⟨HW9.out,HO9.out⟩ ?_
        clear x1 x2 x3 x4 fr0 fr1 HW8 HO8 HW9 HO9
        rintro w9 ⟨HW,HO⟩
        go_wp2_with fail
        go_roundg (2-2)
        case measure=>omega
        case rel=>exact⟨2,by omega,by go_num,HW,HO⟩
       ·have hb:(s.2.1 == a.1 && s.2.2 == a.2)=false:=by rw[eqB_dec,decide_eq_false_iff_not];exact e
        have HNE:Hid (rn2 a p s 2=t):=by show _=_;rw[rn2_bn e,htv]
        clear e htx htv
        go_upto_region 16 with fail
        go_quiet (fail)
        go_wp2_with fail
        go_roundg (2-2)
        case measure=>omega
        case rel=>exact⟨2,by omega,by go_num,⟨HW.out.1.drewN _,HW.out.2.1,HW.out.2.2.1,HW.out.2.2.2⟩,by rw[HNE.out];exact HO.out⟩
      ·obtain rfl:j=0:=by omega
       rw[show((0+1+1:Nat):Int)=2 from rfl]
       have HO9:Hid (w6.ownsRow b 37 4 (.slice (some ⟨g,0,none⟩) n c) n ((mpK f E (k+1)).flatMap sgV)):=by show World.ownsRow _ _ _ _ _ _ _;rw[HMP.out,← show t=rn2 a p s 2 from ht.out];exact HO.out
       clear h1 h2 h3 h4 m0 a0 a1 HO
       go_wp2_with fail
       go_roundw
       case rel=>exact⟨k+1,by omega,by go_num,HW,HO9⟩
       case measure=>simp[intOf];omega
    ·obtain rfl:n=k:=by omega
     have hz:decide ((n:Int)<(n:Int))=false:=by rw[decide_eq_false_iff_not];omega
     have hlen:(E.map f).length=n:=by rw[List.length_map,HN.out]
     have hrow:w5.ownsRow b 37 4 (.slice (some ⟨g,0,none⟩) n c) n ((E.map f).flatMap sgV):=by
      have:=HO.out
      rw[show mpK f E n=E.map f by rw[HN.out];exact mpK_all f E] at this
      exact this
     have HTB:=Lib.hid (TBuild_any g 0 c (E.map f) w5 (own_segs (by rw[hlen];exact hrow) (by omega)) (fun s hs=>by
      obtain⟨u,hu,rfl⟩:=List.mem_map.1 hs
      rw[hf.out]
      have key:∀ y,y∈P→y≠p∨p=a:=fun y hy=>by
       by_cases e:p=a
       ·exact .inr e
       ·exact .inl fun e2=>HCN.out ⟨e,by rw[← e2];exact hy⟩
      exact rnG_ok (HE.out u hu) HP.out (key _ (HEN.out u hu).1) (key _ (HEN.out u hu).2)) (by rw[hlen];exact hl))
     rw[hlen] at HTB
     have hsz5:w.heap.size≤w5.heap.size:=HW.out.1.size
     have hlt5:B+1+1<w5.heap.size:=HW.out.2.2.2.lt
     have hBw:w.heap.size≤B+1+1:=by omega
     clear hrow hlen HO
     go_wp2_with fail
     refine(HTB.out).mono ?_
     rintro e w6 ⟨hr,hs⟩
     have HSS:=Lib.hid (HW.out.1.trans hs)
     have HB6:=Lib.hid (hs.blk HW.out.2.2.2)
     clear hs HW HTB
     rcases hr with⟨hr,vP',vH',vF',P',H',F',rfl,hm,hbl⟩ | ⟨hnr,rfl⟩
     ·obtain⟨aP',cP',hvP'⟩:∃ a c,vP' = .slice a P'.length c:=Rws.slice hm (i:=0) rfl
      obtain⟨aH',cH',hvH'⟩:∃ a c,vH' = .slice a H'.length c:=Rws.slice hm (i:=1) rfl
      obtain⟨aF',cF',hvF'⟩:∃ a c,vF' = .slice a F'.length c:=Rws.slice hm (i:=2) rfl
      subst hvP' hvH' hvF'
      have HBB:=Lib.hid HB6.out
      have b0:=HBB.out.cell 0
      have b1:=HBB.out.cell 1
      have b2:=HBB.out.cell 2
      have d0:=HBB.out.frozen 0
      have d1:=HBB.out.frozen 1
      have d2:=HBB.out.frozen 2
      simp only[List.getElem?_toArray,List.getElem?_cons_zero,List.getElem?_cons_succ] at b0 b1 b2
      have HSF:=Lib.hid (((HSS.out.setCell (p:=⟨B+1+1,0,none⟩) hBw (.slice aP' P'.length cP')).setCell (p:=⟨B+1+1,1,none⟩) hBw (.slice aH' H'.length cH')).setCell (p:=⟨B+1+1,2,none⟩) hBw (.slice aF' F'.length cF'))
      have HMF:Hid (MapS (((w6.setCell ⟨B+1+1,0,none⟩ (.slice aP' P'.length cP')).setCell ⟨B+1+1,1,none⟩ (.slice aH' H'.length cH')).setCell ⟨B+1+1,2,none⟩ (.slice aF' F'.length cF')) w5.heap.size (.slice aP' P'.length cP') (.slice aH' H'.length cH') (.slice aF' F'.length cF') P' H' F') :=
       (((Rws.low hm (p:=⟨B+1+1,0,none⟩) hlt5 _).low (p:=⟨B+1+1,1,none⟩) hlt5 _).low (p:=⟨B+1+1,2,none⟩) hlt5 _)
      have HBL:=Lib.hid (And.intro hr hbl)
      clear hm hbl hr HSS HBB HB6
      go_wp2_with fail
      refine bodyPost_ret (v:=.tuple #[.agg #[.slice aP' P'.length cP',.slice aH' H'.length cH',.slice aF' F'.length cF'],.int .i64 0]) (by simp[results,Tryz.results22,go_sem,cSetS,cSetO,cellDrew,b0,b1,b2,d0,d1,d2]) rfl (HQF.out _ _ ⟨.inr ⟨HCN.out,.inl ⟨HBL.out.1,_,_,_,P',H',F',rfl,Rws.mono HMF.out hsz5,HBL.out.2⟩⟩,HSF.out⟩)
     ·have HBB:=Lib.hid HB6.out
      have b0:=HBB.out.cell 0
      have b1:=HBB.out.cell 1
      have b2:=HBB.out.cell 2
      have d0:=HBB.out.frozen 0
      have d1:=HBB.out.frozen 1
      have d2:=HBB.out.frozen 2
      simp only[List.getElem?_toArray,List.getElem?_cons_zero,List.getElem?_cons_succ] at b0 b1 b2
      have HSF:=Lib.hid (((HSS.out.setCell (p:=⟨B+1+1,0,none⟩) hBw nilV).setCell (p:=⟨B+1+1,1,none⟩) hBw nilV).setCell (p:=⟨B+1+1,2,none⟩) hBw nilV)
      have HNR:=Lib.hid hnr
      clear hnr HSS HBB HB6
      unfold nilV at *
      go_wp2_with fail
      refine bodyPost_ret (v:=.tuple #[.agg #[.slice none 0 0,.slice none 0 0,.slice none 0 0],.int .i64 10]) (by simp[results,Tryz.results22,go_sem,cSetS,cSetO,cellDrew,b0,b1,b2,d0,d1,d2]) rfl (HQF.out _ _ ⟨.inr ⟨HCN.out,.inr ⟨HNR.out,rfl⟩⟩,HSF.out⟩)
end
section
theorem sgn_neg(n:Int):sgnI (-n) = -sgnI n:=by unfold sgnI;omega
theorem dir_swap(a b p q:Pt2):dirV b a p q=dirV a b q p:=by
 have e1:sgnI (a.1-b.1) = -sgnI (b.1-a.1):=by rw[← sgn_neg];congr 1;omega
 have e2:sgnI (a.2-b.2) = -sgnI (b.2-a.2):=by rw[← sgn_neg];congr 1;omega
 unfold dirV
 rw[e1,e2]
 have f1 : -sgnI (b.1-a.1)*(p.1-q.1)=sgnI (b.1-a.1)*(q.1-p.1):=by grind
 have f2 : -sgnI (b.2-a.2)*(p.2-q.2)=sgnI (b.2-a.2)*(q.2-p.2):=by grind
 rw[f1,f2]
theorem thr_rev{H:List Pt2}(hH:HotOk H){a b:Pt2}(ha:okP a.1 a.2=true)(hb:okP b.1 b.2=true):thrL b a H=(thrL a b H).reverse:=by
 refine(thru_one hb ha hH.ok hH.nd ?_).symm
 obtain⟨h1,h2⟩:=thr_thru (a:=a) (b:=b) (H:=H)
 refine⟨?_,?_⟩
 ·have e:H.filter (metB b a)=H.filter (metB a b):=List.filter_congr fun x hx=>(metB_rev ha hb (hH.ok x hx)).symm
  rw[e]
  exact(List.reverse_perm _).trans h1
 ·rw[List.pairwise_reverse]
  exact h2.imp fun {x y} h=>by rw[dir_swap];exact h
theorem adj_rev{C:List Pt2}{p q:Pt2}(h:Adj C p q):Adj C.reverse q p:=by
 obtain⟨u,v,rfl⟩:=h
 exact⟨v.reverse,u.reverse,by simp⟩
theorem ChainOk.rev{H C:List Pt2}(h:ChainOk H C):ChainOk H C.reverse :=
 ⟨by simpa using h.ne,fun p hp=>h.mem p (by simpa using hp),fun p q k=>by
  have:=adj_rev k
  rw[List.reverse_reverse] at this
  exact(h.adj q p this).symm⟩
theorem next_one(H:List Pt2)(x:Pt2):nextC H [x]=[x]:=by simp[nextC,nextG,pAt]
theorem next_tail(H:List Pt2)(y:Pt2)(v:List Pt2):nextC H (y :: v)=y :: (nextC H (y :: v)).tail:=by simp[nextC,pAt]
theorem next_app{H:List Pt2}(hH:HotOk H):∀ {u:List Pt2} {y:Pt2} {v:List Pt2},ChainOk H (u++y :: v)→nextC H (u++y :: v)=nextC H (u++[y])++(nextC H (y :: v)).tail
 | [],y,v,h=>by
  show nextC H (y :: v)=nextC H [y]++_
  rw[next_one];exact next_tail H y v
 | [a],y,v,h=>by
  obtain⟨m,hm⟩:=ChainOk.ends hH h
  show nextC H (a :: y :: v)=nextC H [a,y]++_
  rw[nextC_cons hm,nextC_cons hm,next_one,List.append_assoc]
  exact congrArg _ (next_tail H y v)
 | a :: b :: u,y,v,h=>by
  obtain⟨m,hm⟩:=ChainOk.ends hH h
  have ih:=next_app hH (u:=b :: u) (y:=y) (v:=v) h.tail
  show nextC H (a :: b :: (u++y :: v))=nextC H (a :: b :: (u++[y]))++_
  rw[nextC_cons hm,nextC_cons hm,List.append_assoc]
  exact congrArg _ ih
theorem next_rev{H:List Pt2}(hH:HotOk H):∀ {C:List Pt2},ChainOk H C→nextC H C.reverse=(nextC H C).reverse
 | [],h=>absurd rfl h.ne
 | [x],h=>by rw[List.reverse_singleton,next_one];rfl
 | x :: y :: r,h=>by
  obtain⟨m,hm⟩:=h.ends hH
  have ih:=next_rev hH h.tail
  have hr:=h.rev
  have e:(x :: y :: r).reverse=r.reverse++y :: [x]:=by simp
  rw[e] at hr ⊢
  have hox:=hH.ok x (h.mem x (by simp))
  have hoy:=hH.ok y (h.mem y (by simp))
  have hm2:thrL y x H=y :: (m.reverse++[x]):=by rw[thr_rev hH hox hoy,hm];simp
  have e2:(y :: r).reverse=r.reverse++[y]:=by simp
  rw[e2] at ih
  rw[next_app hH hr,ih,nextC_cons hm2,nextC_cons hm,next_one]
  simp
def SameC(cs ds:List (List Pt2)):Prop:=(∀ C∈cs,C∈ds∨C.reverse∈ds)∧∀ C∈ds,C∈cs∨C.reverse∈cs
theorem ord_comm{p q:Pt2}(h:p≠q):ordE p q=ordE q p:=by
 have h1:=ord_lx p q h
 have h2:=ord_lx q p h.symm
 rcases ordE_cases p q with e | e <;> rcases ordE_cases q p with f | f <;> rw[e] at h1 ⊢ <;> rw[f] at h2 ⊢
 ·exact(lx_asy h1 h2).elim
 ·exact(lx_asy h1 h2).elim
theorem same_sub{cs ds:List (List Pt2)}(hc:Inv cs)(h:∀ C∈cs,C∈ds∨C.reverse∈ds){s:Sg}(hs:s∈edgL cs):s∈edgL ds:=by
 obtain⟨C,hC,p,q,k,rfl⟩:=edg_mem.1 hs
 rcases h C hC with m | m
 ·exact edg_mem.2 ⟨C,m,p,q,k,rfl⟩
 ·exact edg_mem.2 ⟨_,m,q,p,adj_rev k,ord_comm (hc.adj C hC p q k)⟩
theorem SameC.edg{cs ds:List (List Pt2)}(hc:Inv cs)(hd:Inv ds)(h:SameC cs ds):edgL cs=edgL ds:=edg_ext fun s=>⟨same_sub hc h.1,same_sub hd h.2⟩
theorem SameC.step{cs ds:List (List Pt2)}(hc:Inv cs)(hd:Inv ds)(h:SameC cs ds):SameC (stepC cs) (stepC ds):=by
 have e:=h.edg hc hd
 refine⟨fun C' hC' => ?_,fun C' hC' => ?_⟩
 ·obtain⟨C,hC,rfl⟩:=List.mem_map.1 hC'
  rcases h.1 C hC with m | m
  ·exact .inl (List.mem_map.2 ⟨C,m,by rw[e]⟩)
  ·exact .inr (List.mem_map.2 ⟨C.reverse,m,by rw[← e,next_rev (hot_ok hc.eok) (hc.chain hC)]⟩)
 ·obtain⟨C,hC,rfl⟩:=List.mem_map.1 hC'
  rcases h.2 C hC with m | m
  ·exact .inl (List.mem_map.2 ⟨C,m,by rw[e]⟩)
  ·exact .inr (List.mem_map.2 ⟨C.reverse,m,by rw[e,next_rev (hot_ok hd.eok) (hd.chain hC)]⟩)
end
section
namespace Plane
abbrev Ed:=Q2×Q2
def sl(e:Ed):Rat:=(e.2.2-e.1.2)*(e.2.1-e.1.1)⁻¹
def ht(e:Ed)(x:Rat):Rat:=e.1.2+(x-e.1.1)*sl e
theorem ht_fst(e:Ed):ht e e.1.1=e.1.2:=by unfold ht;grind
theorem ht_snd{e:Ed}(h:e.1.1<e.2.1):ht e e.2.1=e.2.2:=by
 unfold ht sl
 have:(e.2.1-e.1.1)⁻¹*(e.2.1-e.1.1)=1:=Rat.inv_mul_cancel _ (by grind)
 grind
theorem root{A B x y:Rat}(hxy:x<y)(h1:0<A+B*x)(h2:A+B*y≤0):∃ z,x<z∧z≤y∧A+B*z=0∧(A+B*y<0→z<y):=by
 have hB:B<0:=by
  refine Classical.byContradiction fun k=>?_
  have:=Rat.mul_nonneg (a:=B) (b:=y-x) (by grind) (by grind)
  grind
 obtain⟨i,hi⟩:∃ i:Rat,i*B=1:=⟨B⁻¹,Rat.inv_mul_cancel _ (by grind)⟩
 have hin:i<0:=by
  refine Classical.byContradiction fun k=>?_
  have:=Rat.mul_nonneg (a:=i) (b := -B) (by grind) (by grind)
  have e:i * -B = -1:=by grind
  grind
 have hz:A+B*(-A*i)=0:=by
  have e:B*(-A*i) = -A*(i*B):=by grind
  rw[e,hi];grind
 have ex:(A+B*x) * -i = -A*i-x:=by
  have e:(A+B*x) * -i = -A*i-(i*B)*x:=by grind
  rw[e,hi];grind
 have ey : -(A+B*y) * -i=A*i+y:=by
  have e : -(A+B*y) * -i=A*i+(i*B)*y:=by grind
  rw[e,hi];grind
 refine⟨-A*i,?_,?_,hz,fun h3=>?_⟩
 ·have:=Rat.mul_pos (a:=A+B*x) (b := -i) h1 (by grind)
  grind
 ·have:=Rat.mul_nonneg (a := -(A+B*y)) (b := -i) (by grind) (by grind)
  grind
 ·have:=Rat.mul_pos (a := -(A+B*y)) (b := -i) (by grind) (by grind)
  grind
theorem root'{A B x y:Rat}(hxy:x<y)(h1:A+B*x≤0)(h2:0<A+B*y):∃ z,x≤z∧z<y∧A+B*z=0:=by
 obtain⟨z,h1,h2,h3,-⟩:=root (A:=A+B*(x+y)) (B := -B) (x:=x) (y:=y) hxy (by grind) (by grind)
 exact⟨x+y-z,by grind,by grind,by grind⟩
theorem cut{e f:Ed}{x y:Rat}(hxy:x<y)(h1:ht e x<ht f x)(h2:ht f y≤ht e y):∃ z,x<z∧z≤y∧ht f z=ht e z∧(ht f y<ht e y→z<y):=by
 obtain⟨z,a,b,c,d⟩:=root (A:=f.1.2-f.1.1*sl f-e.1.2+e.1.1*sl e) (B:=sl f-sl e) (x:=x) (y:=y) hxy (by unfold ht at h1;grind) (by unfold ht at h2;grind)
 refine⟨z,a,b,by unfold ht;grind,fun k=>d ?_⟩
 unfold ht at k;grind
theorem cut'{e f:Ed}{x y:Rat}(hxy:x<y)(h1:ht f x≤ht e x)(h2:ht e y<ht f y):∃ z,x≤z∧z<y∧ht f z=ht e z:=by
 obtain⟨z,a,b,c⟩:=root' (A:=f.1.2-f.1.1*sl f-e.1.2+e.1.1*sl e) (B:=sl f-sl e) (x:=x) (y:=y) hxy (by unfold ht at h1;grind) (by unfold ht at h2;grind)
 exact⟨z,a,b,by unfold ht;grind⟩
theorem min_of{α:Type}(f:α→Rat):∀ (l:List α),l≠[]→∃ a∈l,∀ b∈l,f a≤f b
 | [],h=>absurd rfl h
 | [a],_=>⟨a,by simp,by simp⟩
 | a :: b :: l,_=>by
  obtain⟨c,hc,h⟩:=min_of f (b :: l) (by simp)
  by_cases k:f a≤f c
  ·refine⟨a,by simp,fun x hx=>?_⟩
   rcases List.mem_cons.1 hx with rfl | hx
   ·grind
   ·exact Rat.le_trans k (h x hx)
  ·refine⟨c,List.mem_cons_of_mem _ hc,fun x hx=>?_⟩
   rcases List.mem_cons.1 hx with rfl | hx
   ·grind
   ·exact h x hx
structure Drawn(V:List Q2)(E:List Ed):Prop where
 way:∀ e∈E,e.1.1<e.2.1
 fst:∀ e∈E,e.1∈V
 snd:∀ e∈E,e.2∈V
 inj:∀ p∈V,∀ q∈V,p.1=q.1→p=q
 used:∀ p∈V,∃ e∈E,e.1=p∨e.2=p
 meet:∀ e∈E,∀ f∈E,e≠f→∀ x,e.1.1≤x→x≤e.2.1→f.1.1≤x→x≤f.2.1→ht e x=ht f x→(x=e.1.1∨x=e.2.1)∧(x=f.1.1∨x=f.2.1)
variable {V : List Q2} {E : List Ed}
theorem steeper{e f:Ed}{x:Rat}(h:e.1=f.1)(hx:e.1.1<x):ht e x<ht f x↔sl e<sl f:=by
 unfold ht
 rw[← h]
 constructor
 ·intro k
  refine Classical.byContradiction fun n=>?_
  have:=Rat.mul_nonneg (a:=x-e.1.1) (b:=sl e-sl f) (by grind) (by grind)
  grind
 ·intro k
  have:=Rat.mul_pos (a:=x-e.1.1) (b:=sl f-sl e) (by grind) (by grind)
  grind
theorem same_slope(h:Drawn V E){e f:Ed}(he:e∈E)(hf:f∈E)(h1:e.1=f.1)(hs:sl e=sl f):e=f:=by
 refine Classical.byContradiction fun hne=>?_
 have we:=h.way e he
 have wf:=h.way f hf
 have hh:∀ x,ht e x=ht f x:=fun x=>by unfold ht;rw[h1,hs]
 obtain⟨m,m1,m2,m3⟩:∃ m:Rat,e.1.1<m∧m<e.2.1∧m<f.2.1:=by
  by_cases k:e.2.1≤f.2.1
  ·exact⟨(e.1.1+e.2.1)/2,by grind,by grind,by grind⟩
  ·exact⟨(f.1.1+f.2.1)/2,by grind,by grind,by grind⟩
 have:=(h.meet e he f hf hne m (by grind) (by grind) (by grind) (by grind) (hh m)).1
 grind
def Top(E:List Ed)(e:Ed)(p:Q2):Prop:=e.1=p∧∀ f∈E,f.1=p→sl f≤sl e
def Bot(E:List Ed)(e:Ed)(p:Q2):Prop:=e.2=p∧∀ f∈E,f.2=p→sl e≤sl f
def Und(E:List Ed)(e:Ed)(p:Q2):Prop:=e.1.1<p.1∧p.1<e.2.1∧ht e p.1<p.2∧∀ f∈E,f.1.1<p.1→p.1<f.2.1→ht e p.1<ht f p.1→p.2≤ht f p.1
theorem top_one(h:Drawn V E){e f:Ed}{p:Q2}(he:e∈E)(hf:f∈E)(h1:Top E e p)(h2:Top E f p):e=f:=by
 have a:=h1.2 f hf h2.1
 have b:=h2.2 e he h1.1
 exact same_slope h he hf (h1.1.trans h2.1.symm) (by grind)
theorem bot_one(h:Drawn V E){e f:Ed}{p:Q2}(he:e∈E)(hf:f∈E)(h1:Bot E e p)(h2:Bot E f p):e=f:=by
 refine Classical.byContradiction fun hne=>?_
 have a:=h1.2 f hf h2.1
 have b:=h2.2 e he h1.1
 have hs:sl e=sl f:=by grind
 have we:=h.way e he
 have wf:=h.way f hf
 have e2:=ht_snd we
 have f2:=ht_snd wf
 rw[h1.1] at e2 we
 rw[h2.1] at f2 wf
 have hh:∀ x,ht e x=ht f x:=fun x=>by unfold ht at *;rw[hs] at *;grind
 obtain⟨m,m1,m2,m3⟩:∃ m:Rat,m<p.1∧e.1.1<m∧f.1.1<m:=by
  by_cases k:e.1.1≤f.1.1
  ·exact⟨(f.1.1+p.1)/2,by grind,by grind,by grind⟩
  ·exact⟨(e.1.1+p.1)/2,by grind,by grind,by grind⟩
 have:=(h.meet e he f hf hne m (by grind) (by rw[h1.1];grind) (by grind) (by rw[h2.1];grind) (hh m)).1
 rw[h1.1] at this
 grind
theorem und_one(h:Drawn V E){e f:Ed}{p:Q2}(he:e∈E)(hf:f∈E)(h1:Und E e p)(h2:Und E f p):e=f:=by
 refine Classical.byContradiction fun hne=>?_
 have hh:ht e p.1=ht f p.1:=by
  have a:=h1.2.2.2 f hf h2.1 h2.2.1
  have b:=h2.2.2.2 e he h1.1 h1.2.1
  have c:=h1.2.2.1
  have d:=h2.2.2.1
  grind
 have a:=h1.1
 have b:=h1.2.1
 have c:=h2.1
 have d:=h2.2.1
 have:=(h.meet e he f hf hne p.1 (by grind) (by grind) (by grind) (by grind) hh).1
 grind
set_option maxHeartbeats 1000000 in
theorem kinds(h:Drawn V E){e:Ed}(he:e∈E):Top E e e.1∨Bot E e e.2∨∃ x∈V,Und E e x:=by
 refine Classical.byContradiction fun hno=>?_
 have nT:¬ Top E e e.1:=fun k=>hno (.inl k)
 have nB:¬ Bot E e e.2:=fun k=>hno (.inr (.inl k))
 have nU:∀ x∈V,¬ Und E e x:=fun x hx k=>hno (.inr (.inr ⟨x,hx,k⟩))
 have we:=h.way e he
 -- the next one above, at the left end
 obtain⟨e0,he0,hl0,hs0⟩:∃ f∈E,f.1=e.1∧sl e<sl f:=by
  refine Classical.byContradiction fun k=>nT ⟨rfl,fun f hf hl=>?_⟩
  refine Classical.byContradiction fun k2=>k ⟨f,hf,hl,by grind⟩
 obtain⟨e1,hm1,hmin⟩:=min_of sl (E.filter fun f=>decide (f.1=e.1∧sl e<sl f)) (fun k=>by
  have:e0∈E.filter fun f=>decide (f.1=e.1∧sl e<sl f):=List.mem_filter.2 ⟨he0,by simp[hl0,hs0]⟩
  rw[k] at this;cases this)
 have h1' := List.mem_filter.1 hm1
 have he1:=h1'.1
 have hl1:e1.1=e.1:=(of_decide_eq_true h1'.2).1
 have hs1:sl e<sl e1:=(of_decide_eq_true h1'.2).2
 have hmin:∀ f∈E,f.1=e.1→sl e<sl f→sl e1≤sl f:=fun f hf a b=>hmin f (List.mem_filter.2 ⟨hf,by simp[a,b]⟩)
 clear h1' hm1 hs0 hl0 he0
 -- one above, at the right end
 obtain⟨e2,he2,hr2,hs2⟩:∃ f∈E,f.2=e.2∧sl f<sl e:=by
  refine Classical.byContradiction fun k=>nB ⟨rfl,fun f hf hl=>?_⟩
  refine Classical.byContradiction fun k2=>k ⟨f,hf,hl,by grind⟩
 have w1:=h.way e1 he1
 have w2:=h.way e2 he2
 have l1:e1.1.1=e.1.1:=by rw[hl1]
 have r2:e2.2.1=e.2.1:=by rw[hr2]
 have ne1:e1≠e:=fun k=>by rw[k] at hs1;grind
 have ne2:e2≠e:=fun k=>by rw[k] at hs2;grind
 have up1:∀ x,e.1.1<x→ht e x<ht e1 x:=fun x hx=>(steeper hl1.symm hx).2 hs1
 have up2:∀ x,x<e.2.1→ht e x<ht e2 x:=fun x hx=>by
  have a:=ht_snd we
  have b:=ht_snd w2
  rw[hr2] at b
  have:=Rat.mul_pos (a:=e.2.1-x) (b:=sl e-sl e2) (by grind) (by grind)
  unfold ht at *
  grind
 -- the first point behind u that is on or above e and not above e1
 obtain⟨x,hx,hxmin⟩:=min_of (fun p:Q2=>p.1) (V.filter fun p=>decide (e.1.1<p.1∧p.1≤e.2.1∧ht e p.1≤p.2∧(e1.2.1≤p.1∨p.2≤ht e1 p.1))) (fun k=>by
  have:e.2∈V.filter fun p=>decide (e.1.1<p.1∧p.1≤e.2.1∧ht e p.1≤p.2∧(e1.2.1≤p.1∨p.2≤ht e1 p.1)):=List.mem_filter.2 ⟨h.snd e he,by
   have a:=ht_snd we
   have b:=up1 _ we
   simp only[decide_eq_true_eq]
   exact⟨we,by grind,by grind,by grind⟩⟩
  rw[k] at this;cases this)
 have hx' := List.mem_filter.1 hx
 have hxV:=hx'.1
 have hxp:e.1.1<x.1∧x.1≤e.2.1∧ht e x.1≤x.2∧(e1.2.1≤x.1∨x.2≤ht e1 x.1):=of_decide_eq_true hx'.2
 have hxm:∀ p∈V,p.1<x.1→e.1.1<p.1→ht e p.1≤p.2→p.1<e1.2.1∧ht e1 p.1<p.2:=fun p hp a b c=>by
  refine Classical.byContradiction fun k=>?_
  have:=hxmin p (List.mem_filter.2 ⟨hp,by
   simp only[decide_eq_true_eq]
   exact⟨b,by grind,c,by grind⟩⟩)
  grind
 clear hx hxmin hx'
 obtain⟨x1,x2,x3,x4⟩:=hxp
 have hxw:x.1≤e1.2.1:=by
  refine Classical.byContradiction fun k=>?_
  have a:=ht_snd w1
  have b:=up1 e1.2.1 (by grind)
  have:=hxm e1.2 (h.snd e1 he1) (by grind) (by grind) (by grind)
  grind
 have hx1:x.2≤ht e1 x.1:=by
  rcases x4 with k | k
  ·have e:=h.inj x hxV e1.2 (h.snd e1 he1) (by grind)
   rw[e,ht_snd w1];grind
  ·exact k
 by_cases hv:x.1=e.2.1
 ·-- it is the right end
  have ex:=h.inj x hxV e.2 (h.snd e he) hv
  have hv2:e.2.2≤ht e1 e.2.1:=by rw[← ex];exact hx1
  have hz2:=ht_snd w2
  rw[hr2] at hz2
  have ne12:e2≠e1:=fun k=>by
   rw[k] at hs2;grind
  -- e1 and e2 meet at v alone
  have fin:∀ y,y<e.2.1→e.1.1≤y→e2.1.1≤y→ht e1 y<ht e2 y→(∀ z,y<z→z=e1.1.1∨z=e1.2.1→z=e1.2.1)→False:=fun y y1 y2 y3 y4 y5=>by
   obtain⟨z,z1,z2,z3,-⟩:=cut y1 y4 (by rw[hz2];exact hv2)
   have m:=h.meet e2 he2 e1 he1 ne12 z (by grind) (by grind) (by grind) (by grind) z3
   have zw:=y5 z z1 m.2
   have zv:z=e.2.1:=by rcases m.1 with k | k <;> grind
   have e12:=h.inj e1.2 (h.snd e1 he1) e.2 (h.snd e he) (by grind)
   exact ne1 (Prod.ext hl1 e12)
  by_cases hz:e.1.1<e2.1.1
  ·have a:=up2 e2.1.1 (by grind)
   rw[ht_fst] at a
   have k:=hxm e2.1 (h.fst e2 he2) (by grind) hz (by grind)
   exact fin e2.1.1 (by grind) (by grind) (by grind) (by rw[ht_fst];exact k.2) (fun z a b=>by grind)
  ·by_cases hz' : e2.1.1=e.1.1
   ·have:=h.inj e2.1 (h.fst e2 he2) e.1 (h.fst e he) hz'
    exact ne2 (Prod.ext this hr2)
   ·have a:=up2 e.1.1 we
    have b:=ht_fst e
    have c:=ht_fst e1
    rw[hl1] at c
    exact fin e.1.1 we (by grind) (by grind) (by grind) (fun z a b=>by grind)
 ·-- e is at once below it
  have hxv:x.1<e.2.1:=by grind
  have x5:ht e x.1<x.2:=by
   refine Classical.byContradiction fun k=>?_
   obtain⟨f,hf,hfx⟩:=h.used x hxV
   have wf:=h.way f hf
   have nfe:e≠f:=fun k=>by
    subst k
    rcases hfx with k | k
    ·rw[k] at x1;grind
    ·rw[k] at hv;grind
   have hfh:ht f x.1=x.2:=by
    rcases hfx with k | k
    ·rw[← k];exact ht_fst f
    ·rw[← k];exact ht_snd wf
   have:=(h.meet e he f hf nfe x.1 (by grind) (by grind) (by rcases hfx with k | k <;> rw[← k] <;> grind) (by rcases hfx with k | k <;> rw[← k] <;> grind) (by grind)).1
   grind
  refine nU x hxV ⟨x1,hxv,x5,fun f hf f1 f2 f3=>?_⟩
  refine Classical.byContradiction fun k=>?_
  have f4:ht f x.1<x.2:=by grind
  have nfe:f≠e:=fun k=>by rw[k] at f3;grind
  have nf1:f≠e1:=fun k=>by rw[k] at f4;grind
  have wf:=h.way f hf
  have hf1:ht f x.1<ht e1 x.1:=by grind
  by_cases hp:e.1.1<f.1.1
  ·have pe:ht e f.1.1≤f.1.2:=by
    refine Classical.byContradiction fun k=>?_
    have hk:ht f f.1.1≤ht e f.1.1:=by rw[ht_fst];grind
    obtain⟨z,z1,z2,z3⟩:=cut' f1 hk f3
    have:=(h.meet f hf e he nfe z (by grind) (by grind) (by grind) (by grind) z3).2
    grind
   have k2:=hxm f.1 (h.fst f hf) f1 hp pe
   obtain⟨z,z1,z2,z3,z4⟩:=cut f1 (by rw[ht_fst];exact k2.2) (Rat.le_of_lt hf1)
   have z4:=z4 hf1
   have:=(h.meet f hf e1 he1 nf1 z (by grind) (by grind) (by grind) (by grind) z3).1
   grind
  ·by_cases hp' : f.1.1=e.1.1
   ·have e5:=h.inj f.1 (h.fst f hf) e.1 (h.fst e he) hp'
    have s1:=(steeper e5.symm x1).1 f3
    have s2:=hmin f hf e5 s1
    have s3:=(steeper (e:=f) (f:=e1) (by rw[e5,hl1]) (by grind)).1 hf1
    grind
   ·have hu:e.1.2<ht f e.1.1:=by
     refine Classical.byContradiction fun k=>?_
     have hk:ht f e.1.1≤ht e e.1.1:=by rw[ht_fst e];grind
     obtain⟨z,z1,z2,z3⟩:=cut' x1 hk f3
     have:=(h.meet f hf e he nfe z (by grind) (by grind) (by grind) (by grind) z3).1
     grind
    have c:=ht_fst e1
    rw[hl1] at c
    obtain⟨z,z1,z2,z3,z4⟩:=cut (e:=e1) (f:=f) x1 (by grind) (Rat.le_of_lt hf1)
    have z4:=z4 hf1
    have:=(h.meet f hf e1 he1 nf1 z (by grind) (by grind) (by grind) (by grind) z3).1
    grind
theorem pigeon{α β:Type}[DecidableEq β](R:α→β→Prop):∀ (l:List α) (m:List β),l.Nodup→(∀ a∈l,∃ b∈m,R a b)→(∀ a∈l,∀ c∈l,∀ b,R a b→R c b→a=c)→l.length≤m.length
 | [],_,_,_,_=>by simp
 | a :: l,m,hn,h1,h2=>by
  rw[List.nodup_cons] at hn
  obtain⟨b,hb,hr⟩:=h1 a (by simp)
  have:=pigeon R l (m.erase b) hn.2 (fun c hc=>by
   obtain⟨d,hd,hr'⟩:=h1 c (by simp[hc])
   refine⟨d,?_,hr'⟩
   refine(List.mem_erase_of_ne fun e=>?_).2 hd
   subst e
   exact hn.1 ((h2 a (by simp) c (by simp[hc]) d hr hr') ▸ hc)) (fun c hc d hd=>h2 c (by simp[hc]) d (by simp[hd]))
  rw[List.length_erase_of_mem hb] at this
  have:0<m.length:=List.length_pos_of_mem hb
  simp only[List.length_cons];omega
theorem bound(h:Drawn V E)(hn:E.Nodup):E.length≤3*V.length:=by
 have:=pigeon (β:=Nat×Q2) (fun e b=>(b.1=0∧Top E e b.2)∨(b.1=1∧Bot E e b.2)∨(b.1=2∧Und E e b.2)) E (V.map (fun p=>(0,p))++(V.map (fun p=>(1,p))++V.map fun p=>(2,p))) hn (fun e he=>by
  rcases kinds h he with k | k | ⟨x,hx,k⟩
  ·exact⟨(0,e.1),by simp[h.fst e he],.inl ⟨rfl,k⟩⟩
  ·exact⟨(1,e.2),by simp[h.snd e he],.inr (.inl ⟨rfl,k⟩)⟩
  ·exact⟨(2,x),by simp[hx],.inr (.inr ⟨rfl,k⟩)⟩) (fun e he f hf b k1 k2=>by
  rcases k1 with⟨a,k⟩ | ⟨a,k⟩ | ⟨a,k⟩ <;> rcases k2 with⟨b',k'⟩ | ⟨b',k'⟩ | ⟨b',k'⟩
  all_goals first
   | (exfalso;omega)
   | exact top_one h he hf k k'
   | exact bot_one h he hf k k'
   | exact und_one h he hf k k')
 simp only[List.length_append,List.length_map] at this
 omega
end Plane
end
end Go.Proofs.YtdnccjdlmepafaaGreat
