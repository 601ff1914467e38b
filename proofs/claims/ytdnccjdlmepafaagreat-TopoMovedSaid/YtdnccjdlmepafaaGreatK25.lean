/-
  The walk of arr's link: what is next; the cycles. Conditions: those that each lemma names.
-/
import Derived.Test.YtdnccjdlmepafaaGreatK23
import Derived.Test.YtdnccjdlmepafaaGreatK09
import Derived.Deep.LoopGhost
import Derived.Test.YtdnccjdlmepafaaGreatK24
set_option linter.unusedSimpArgs false
set_option linter.unusedVariables false
set_option linter.constructorNameAsVariable false
namespace Go.Proofs.YtdnccjdlmepafaaGreat
section
open Go.RowKit Go.BigFrame
attribute [local go_sem ↓] eqPt neqPt
def stL(gP cP gH cH gO V:Nat)(P:List Pt2)(H:List Hf)(O:List (Value×List Int))(vC vI vT:Value)(C I T:List Int):St:=⟨.slice (some ⟨gP,0,none⟩) P.length cP,.slice (some ⟨gH,0,none⟩) H.length cH,nilV,vC,vI,vT,nilV,.slice (some ⟨gO,0,none⟩) V V,P,H,[],C,I,T,[],O⟩
theorem rem_nat{a n:Nat}(hn:0<n):Int.tmod (a:Int) (n:Int)=((a % n:Nat):Int):=by
 rw[Int.tmod_eq_emod_of_nonneg (by omega)];simp
def rowO(O:List (Value×List Int))(v:Nat):List Int:=(O.getD v (nilV,[])).2
theorem mkH_congr{N:Nat}{fr:Nat→Nat}{nx nx' fc fc' : Nat→Int}(h:∀ i,i<N→nx i=nx' i)(k:∀ i,i<N→fc i=fc' i):mkH N fr nx fc=mkH N fr nx' fc' := by
 unfold mkH
 refine List.map_congr_left fun i hi=>?_
 rw[h i (List.mem_range.1 hi),k i (List.mem_range.1 hi)]
theorem Net.perm{N V:Nat}{P:List Pt2}{fr:Nat→Nat}{R:Nat→List Int}(K:Net N V P fr R):PermN N (nxN fr R):=⟨fun g hg=>(K.nx hg).2.1,fun g h hg hh e=>K.inj hg hh e⟩
def crI(P:List Pt2)(fr:Nat→Nat)(g:Nat):Int:=(pAt P (fr g)).1*(pAt P (fr (twN g))).2-(pAt P (fr (twN g))).1*(pAt P (fr g)).2
theorem crI_bd{N V:Nat}{P:List Pt2}{fr:Nat→Nat}{R:Nat→List Int}(K:Net N V P fr R){g:Nat}(hg:g<N):(crI P fr g).natAbs≤4398046511104:=by
 have h1:=okP_iff.1 (okpt K.ok (show fr g<P.length by rw[K.len];exact K.fr_lt g hg))
 have h2:=okP_iff.1 (okpt K.ok (show fr (twN g)<P.length by rw[K.len];exact K.fr_lt _ (K.tw_lt hg)))
 have m1:((pAt P (fr g)).1*(pAt P (fr (twN g))).2).natAbs≤1099511627776:=Nat.le_trans (mul_bd (A:=1048576) (B:=1048576) (by omega) (by omega)) (by decide)
 have m2:((pAt P (fr (twN g))).1*(pAt P (fr g)).2).natAbs≤1099511627776:=Nat.le_trans (mul_bd (A:=1048576) (B:=1048576) (by omega) (by omega)) (by decide)
 unfold crI
 omega
theorem sumI_bd{nx:Nat→Nat}{cr:Nat→Int}{h:Nat}(hb:∀ i,(cr (itN nx h i)).natAbs≤4398046511104):∀ i,(sumI nx cr h i).natAbs≤i*4398046511104
 | 0=>by simp[sumI]
 | i+1=>by
  rw[sumI_succ]
  have h1:=sumI_bd hb i
  have h2:=hb i
  omega
theorem stL_C{gP cP gH cH gO V g n:Nat}{P:List Pt2}{H:List Hf}{O:List (Value×List Int)}{vI vT:Value}{C I T:List Int}{j:Nat}(x:Int) :
  (stL gP cP gH cH gO V P H O (.slice (some ⟨g,0,none⟩) n n) vI vT C I T).rows.set 3 { rI (.slice (some ⟨g,0,none⟩) n n) C with xs:=(C.map iV).set j (iV x) }=(stL gP cP gH cH gO V P H O (.slice (some ⟨g,0,none⟩) n n) vI vT (C.set j x) I T).rows:=by
 have e:({ rI (.slice (some ⟨g,0,none⟩) n n) C with xs:=(C.map iV).set j (iV x) }:Rw)=rI (.slice (some ⟨g,0,none⟩) n n) (C.set j x):=by
  simp[rI,List.map_set]
 rw[e]
 rfl
set_option maxRecDepth 100000 in
set_option maxHeartbeats 8000000 in
theorem Link_any (G gP cP gO gH cH V N:Nat) (P:List Pt2) (fr:Nat→Nat) (O:List (Value×List Int)) (w0 w:World) (hs0:Since w0 w) (hG:w0.heap.size≤G) (hM:Mk w G (stL gP cP gH cH gO V P (mkH N fr (fun _=>0) (fun _=>0)) O nilV nilV nilV [] [] [])) (hOl:O.length=V) (K:Net N V P fr (rowO O)) :
  Calls Tryz.prog 65 #[.pointer (some ⟨G,0,none⟩)] w fun e w' => e=.returned (.tuple #[])∧Since w0 w' ∧ ∃ (gC:Nat) (vI vT:Value) (C I T:List Int),Mk w' G (stL gP cP gH cH gO V P (mkH N fr (nxI fr (rowO O)) (fun _=>0)) O (.slice (some ⟨gC,0,none⟩) N N) vI vT C I T)∧Cyc N (nxN fr (rowO O)) (crI P fr) N C I T:=by
 have HK:=Lib.hid K
 have hGw:G<w.heap.size:=hM.lt
 have HS0:=Lib.hid hs0
 have HM0:=Lib.hid hM
 have hNb:N≤6000:=K.le
 have hVb:V≤6000:=K.vle
 have c1:w.cell? ⟨G,1,none⟩=some (.slice (some ⟨gH,0,none⟩) N cH):=by
  have:=hM.blk.cell 1
  rw[this]
  simp[stL,mkH_len]
 clear hs0 hM K
 go_enter Tryz.func65,Tryz.ntmps65
 go_wp2_with fail
 clear c1
 go_loopw [16] (fun v16 wr=>∃ (j:Nat) (nx:Nat→Int),j≤N∧v16=.int .i64 j∧Hid (Since w0 wr)∧Hid (Mk wr G (stL gP cP gH cH gO V P (mkH N fr nx (fun _=>0)) O nilV nilV nilV [] [] []))∧Hid (∀ i,i<j→nx i=nxI fr (rowO O) i)) (fun v16 _=>N-(intOf v16).toNat)
 case atStart=>exact⟨0,fun _=>0,by omega,by go_num,HS0,HM0,fun i hi=>absurd hi (Nat.not_lt_zero _)⟩
 case round =>
  clear HS0 HM0
  obtain⟨j,nx,hj,rfl,HS,HM,HX⟩:=hrel
  obtain⟨wv,rfl⟩:∃ wv,wv=wr:=⟨_,rfl⟩
  rcases Nat.lt_or_ge j N with hlt | hge
  ·have hz:decide ((j:Int)<(N:Int))=true:=by rw[decide_eq_true_eq];omega
   obtain⟨t,ht⟩:∃ t,Hid (t=twN j):=⟨_,rfl⟩
   have htN:t<N:=by rw[ht.out];exact HK.out.tw_lt hlt
   obtain⟨v,hv⟩:∃ v,Hid (v=fr t):=⟨_,rfl⟩
   have hvV:v<V:=by rw[hv.out];exact HK.out.fr_lt t htN
   obtain⟨q,HQ⟩:∃ q:Value×List Int,Hid (q=O.getD v (nilV,[])):=⟨_,rfl⟩
   have HQ2:Hid (q.2=rowO O v):=by show _=_;rw[HQ.out];rfl
   have hmem:((t:Nat):Int)∈q.2:=by rw[HQ2.out,hv.out,ht.out];exact HK.out.tw_mem hlt
   have hql:q.2.length≤6000:=by
    have h1:=HK.out.nd v hvV
    rw[← HQ2.out] at h1
    have:=len_le_of_sub h1 (m:=(List.range N).map (fun i:Nat=>(i:Int))) (fun x hx=>by
     rw[HQ2.out] at hx
     obtain⟨h,e,hh,-⟩:=(HK.out.mem v hvV x).1 hx
     exact List.mem_map.2 ⟨h,List.mem_range.2 hh,e.symm⟩)
    simp at this
    omega
   have hi8:(stL gP cP gH cH gO V P (mkH N fr nx (fun _=>0)) O nilV nilV nilV [] [] []).rows[8+v]? = some (rI q.1 q.2):=by
    rw[HQ.out]
    exact St.rows_out (s:=(stL gP cP gH cH gO V P (mkH N fr nx (fun _=>0)) O nilV nilV nilV [] [] [])) (v:=v) (by show v<O.length;omega)
   have cO:=HM.out.rows.cell (i:=7) rfl rfl (j:=v) (by show v<O.length*1;omega)
   have cOv:wv.cell? ⟨gO,v,none⟩=some q.1:=by
    rw[cO]
    show(O.map Prod.fst)[v]? = some q.1
    rw[HQ.out]
    simp[List.getD,show v<O.length by omega]
   obtain⟨gq,cq,hqv⟩:=HM.out.rows.some_ hi8 (by show 0<q.2.length;exact List.length_pos_iff.2 (List.ne_nil_of_mem hmem))
   simp only[rI] at hqv
   have how:=HM.out.rows.ok _ _ hi8
   simp only[rI] at how
   rw[hqv] at how cOv
   have HROW:Hid (∀ i,i<q.2.length→wv.cell? ⟨gq,i,none⟩=some (.int .i64 (iAt q.2 i))):=fun i hi=>rowI_cell how hi
   obtain⟨L,HL⟩:∃ L,Hid (L=q.2):=⟨_,rfl⟩
   rw[← HL.out] at HROW hmem hql cOv
   have HLR:Hid (L=rowO O v):=by show _=_;rw[HL.out,HQ2.out]
   have hsee:=HM.out.see (gP:=gP) (cP:=cP) (gH:=gH) (cH:=cH) rfl rfl
   have HT:=Lib.hid (fun w' (k:Since wv w')=>To_any (hsee.since k) j (by show twN j<(mkH N fr nx fun _=>0).length;rw[mkH_len,← ht.out];exact htN) (by show(mkH N fr nx fun _=>0).length≤_;rw[mkH_len];omega))
   have e1:(hAt (mkH N fr nx fun _=>0) (twN j)).1=(v:Int):=by rw[← ht.out,mkH_at htN,hv.out]
   have HT2:Hid (∀ w',Since wv w' → Calls Tryz.prog 92 #[.pointer (some ⟨G,0,none⟩),.int .i64 j] w' fun e w'' => e=.returned (.int .i64 v)∧w'' = w'):=fun w' k=>by
    have:=HT.out w' k
    rw[show(stL gP cP gH cH gO V P (mkH N fr nx fun _=>0) O nilV nilV nilV [] [] []).H=mkH N fr nx fun _=>0 from rfl,e1] at this
    exact this
   have c7:wv.cell? ⟨G,7,none⟩=some (.slice (some ⟨gO,0,none⟩) V V):=HM.out.blk.cell 7
   have c1:wv.cell? ⟨G,1,none⟩=some (.slice (some ⟨gH,0,none⟩) N cH):=by
    have:=HM.out.blk.cell 1
    rw[this]
    simp[stL,mkH_len]
   have KF:=Lib.hid (fun w' (k:Since wv w')=>(show w'.cell? ⟨G,7,none⟩=some (.slice (some ⟨gO,0,none⟩) V V)∧w'.cell? ⟨gO,v,none⟩=some (.slice (some ⟨gq,0,none⟩) L.length cq) from⟨keepC k _ _ c7,keepC k _ _ cOv⟩))
   have v1:(0:Int)≤(v:Int):=by omega
   have v2:(v:Int)<(V:Int):=by omega
   clear hi8 cO how hsee HT e1 cOv c7
   go_upto_region 3 with fail
   apply region_facts 10 (fun w' => Since wv w')
   case hm=>kernel_rfl
   case hB=>kernel_rfl
   case hS=>exact(Since.rfl_ wv).drew
   case h =>
   simp only[List.take_succ_cons,List.take_zero,List.drop_succ_cons,List.drop_zero]
   iterate 6 (apply wpO_det;(case hw=>rfl);(case h=>intro hFm wx hS_ hF_ K hK;go_big_quiet_op;first | exact hK _ rfl | (apply Exists.intro;refine⟨fun _=>?_,?_⟩;(focus (first | (intro hC;have hC:=KF.out _ hC.out.1;(try simp only[hC,Result.andThen]);first | exact⟨True.intro,rfl⟩ | exact⟨rfl,rfl⟩ | rfl)));exact hK _ rfl));(case' k=>simp only[Act.put,List.setIfInBounds_toArray,List.set_cons_succ,List.set_cons_zero,List.cons_append,List.nil_append]))
   (apply wpO_det;(case hw=>rfl);(case h=>intro hFm wx hS_ hF_ K hK;go_big_quiet_op;first | exact hK _ rfl | (apply Exists.intro;refine⟨fun _=>?_,?_⟩;(focus (first | (intro hC;go_at_call 92;refine(HT2.out _ hC.out.1).mono ?_;rintro e w' ⟨rfl,rfl⟩;exact⟨rfl,hC⟩)));exact hK _ rfl));(case' k=>simp only[Act.put,List.setIfInBounds_toArray,List.set_cons_succ,List.set_cons_zero,List.cons_append,List.nil_append]))
   iterate 3 (apply wpO_det;(case hw=>rfl);(case h=>intro hFm wx hS_ hF_ K hK;go_big_quiet_op;first | exact hK _ rfl | (apply Exists.intro;refine⟨fun _=>?_,?_⟩;(focus (first | (intro hC;have hC:=KF.out _ hC.out.1;(try simp only[hC,Result.andThen]);first | exact⟨True.intro,rfl⟩ | exact⟨rfl,rfl⟩ | rfl)));exact hK _ rfl));(case' k=>simp only[Act.put,List.setIfInBounds_toArray,List.set_cons_succ,List.set_cons_zero,List.cons_append,List.nil_append]))
   refine wpO_nil ?_
   intro w5 hS hF hB
   (try simp[allF] at hF)
   (try simp[List.pairwise_cons] at hB)
   clear hF hB
   have HR5:Hid (∀ i,i<L.length→w5.cell? ⟨gq,i,none⟩=some (.int .i64 (iAt L i))):=fun i hi=>keepC hS _ _ (HROW.out i hi)
   have HW:=Lib.hid (And.intro (HS.out.trans hS) (HM.out.since hS))
   have c1:=keepC hS _ _ c1
   have HIX:=Lib.hid (IndexI_any (c:=cq) HR5.out hmem (by omega))
   have hil:L.idxOf (t:Int)<L.length:=List.idxOf_lt_length_iff.2 hmem
   have HNX:Hid (nxI fr (rowO O) j=iAt L ((L.idxOf (t:Int)+L.length-1) % L.length)):=by
    show _=_
    unfold nxI
    rw[← ht.out,← hv.out,← HLR.out]
   clear hS HS HM HT2 KF HROW
   obtain⟨i,hi⟩:∃ i,i=L.idxOf (t:Int):=⟨_,rfl⟩
   rw[← hi] at HIX hil HNX
   obtain⟨n,hn⟩:∃ n,Hid (n=L.length):=⟨_,rfl⟩
   rw[← hn.out] at HIX hil HNX HR5 hql
   rw[← hn.out]
   obtain⟨m,hm⟩:∃ m,Hid (m=(i+n-1) % n):=⟨_,rfl⟩
   have hmn:m<n:=by rw[hm.out];exact Nat.mod_lt _ (by omega)
   rw[← hm.out] at HNX
   have r0:=HR5.out m hmn
   rw[← HNX.out] at r0
   obtain⟨I,hI⟩:∃ I:Int,Hid (I=((i:Nat):Int)):=⟨_,rfl⟩
   rw[← hI.out] at HIX
   have S1:Hid (wrap64 (I+(n:Int))=I+(n:Int)):=by show _=_;have:=hI.out;exact wrap_id (by omega)
   have S2:Hid (wrap64 (I+(n:Int)-1)=I+(n:Int)-1):=by show _=_;have:=hI.out;exact wrap_id (by omega)
   have S3:Hid (Int.tmod (I+(n:Int)-1) (n:Int)=(m:Int)):=by
    show _=_
    rw[hI.out,hm.out,← rem_nat (by omega)]
    congr 1
    omega
   have s4:((n:Int) == 0)=false:=by rw[beq_eq_false_iff_ne];omega
   have t1:(0:Int)≤(m:Int):=by omega
   have t2:(m:Int)<(n:Int):=by omega
   have j1:(0:Int)≤(j:Int):=by omega
   have j2:(j:Int)<(N:Int):=by omega
   clear hi
   have hx:bits .xor .i64 (j:Int) 1=(t:Int):=by rw[ht.out];exact xorI (by omega)
   have s1:=S1.out
   have s2:=S2.out
   have s3:=S3.out
   go_wp2_with (go_at_call 42;refine HIX.out.mono ?_;rintro e w6 ⟨rfl,rfl⟩;clear HIX)
   have KF:=Lib.hid (fun w' (k:Since w6 w')=>(show w'.cell? ⟨G,1,none⟩=some (.slice (some ⟨gH,0,none⟩) N cH)∧w'.cell? ⟨gq,m,none⟩=some (.int .i64 (nxI fr (rowO O) j)) from⟨keepC k _ _ c1,keepC k _ _ r0⟩))
   apply region_facts 19 (fun w' => Since w6 w')
   case hm=>kernel_rfl
   case hB=>kernel_rfl
   case hS=>exact(Since.rfl_ w6).drew
   case h =>
   simp only[List.take_succ_cons,List.take_zero,List.drop_succ_cons,List.drop_zero]
   iterate 19 (apply wpO_det;(case hw=>rfl);(case h=>intro hFm wx hS_ hF_ K hK;go_big_quiet_op;first | exact hK _ rfl | (apply Exists.intro;refine⟨fun _=>?_,?_⟩;(focus (first | (intro hC;have hC:=KF.out _ hC.out.1;(try simp only[hC,Result.andThen]);first | exact⟨True.intro,rfl⟩ | exact⟨rfl,rfl⟩ | rfl)));exact hK _ rfl));(case' k=>simp only[Act.put,List.setIfInBounds_toArray,List.set_cons_succ,List.set_cons_zero,List.cons_append,List.nil_append]))
   refine wpO_nil ?_
   intro w7 hS hF hB
   (try simp[allF] at hF)
   (try simp[List.pairwise_cons] at hB)
   clear hF hB hx s1 s2 s3
   have hM7:=HW.out.2.since hS
   have c17:=keepC hS _ _ c1
   have rH:=hM7.rows.cell (i:=1) rfl rfl (j:=j*4+2) (by show j*4+2<(mkH N fr nx fun _=>0).length*4;rw[mkH_len];omega)
   have fH:=hM7.rows.frozen (i:=1) rfl rfl (j*4+2)
   have hst:=hM7.rows.store (i:=1) rfl rfl (j:=j*4+2) (by show j*4+2<(mkH N fr nx fun _=>0).length*4;rw[mkH_len];omega) (.int .i64 (nxI fr (rowO O) j))
   have hrw:(stL gP cP gH cH gO V P (mkH N fr nx fun _=>0) O nilV nilV nilV [] [] []).rows.set 1 ⟨.slice (some ⟨gH,0,none⟩) (mkH N fr nx fun _=>0).length cH,33,4,(mkH N fr nx fun _=>0).length,((mkH N fr nx fun _=>0).flatMap hfV).set (j*4+2) (.int .i64 (nxI fr (rowO O) j))⟩=(stL gP cP gH cH gO V P (mkH N fr (upd nx j (nxI fr (rowO O) j)) fun _=>0) O nilV nilV nilV [] [] []).rows:=by
    rw[mkH_set2 hlt]
    simp only[stL,St.rows,mkH_len]
    rfl
   have hge:=hM7.rows.ge (i:=1) rfl (g:=gH) rfl
   have hst2:Rws (w7.setCell ⟨gH,j*4+2,none⟩ (.int .i64 (nxI fr (rowO O) j))) (G+1) (stL gP cP gH cH gO V P (mkH N fr (upd nx j (nxI fr (rowO O) j)) fun _=>0) O nilV nilV nilV [] [] []).rows:=by
    rw[← hrw];exact hst
   have hblk:Blk (w7.setCell ⟨gH,j*4+2,none⟩ (.int .i64 (nxI fr (rowO O) j))) G 94 #[.slice (some ⟨gP,0,none⟩) P.length cP,.slice (some ⟨gH,0,none⟩) (mkH N fr (upd nx j (nxI fr (rowO O) j)) fun _=>0).length cH,nilV,nilV,nilV,nilV,nilV,.slice (some ⟨gO,0,none⟩) V V]:=by
    rw[mkH_len]
    have:=hM7.blk.far (p:=⟨gH,j*4+2,none⟩) (by dsimp only;omega) (.int .i64 (nxI fr (rowO O) j))
    simpa only[stL,mkH_len] using this
   have HW7:=Lib.hid (And.intro ((HW.out.1.trans hS).setCell (p:=⟨gH,j*4+2,none⟩) (by dsimp only;omega) (.int .i64 (nxI fr (rowO O) j))) (Mk.mk hblk hst2))
   have rH2:∃ u,w7.cell? ⟨gH,j*4+2,none⟩=some u:=by
    rw[rH,List.getElem?_eq_getElem (by show j*4+2<((mkH N fr nx fun _=>0).flatMap hfV).length;rw[flatH_len,mkH_len];omega)]
    exact⟨_,rfl⟩
   obtain⟨u7,rH2⟩:=rH2
   clear hst hst2 hblk hrw hM7 rH hS KF HW HR5 r0 c1
   go_wp2_with fail
   go_roundw
   case rel=>exact⟨j+1,upd nx j (nxI fr (rowO O) j),by omega,by go_num,HW7.out.1,HW7.out.2,fun i' hi' => by
    unfold upd
    split
    ·rename_i e;rw[e]
    ·exact HX.out i' (by omega)⟩
   case measure=>simp[intOf];omega
  ·obtain rfl:j=N:=by omega
   have hz:decide ((j:Int)<(j:Int))=false:=by rw[decide_eq_false_iff_not];omega
   rw[mkH_congr (nx' := nxI fr (rowO O)) (fc' := fun _=>0) HX.out (fun _ _=>rfl)] at HM
   clear HX
   have c1:wv.cell? ⟨G,1,none⟩=some (.slice (some ⟨gH,0,none⟩) j cH):=by
    have:=HM.out.blk.cell 1
    rw[this]
    simp[stL,mkH_len]
   go_upto_region 7 with fail
   have HRP:Hid (∀ w1,Blk w1 wv.heap.size 3 #[.int .i64 (-1)]→Calls Tryz.prog 93 #[.slice (some ⟨wv.heap.size,0,none⟩) 1 1,.int .i64 j] w1 fun e w' => ∃ g',e=.returned (.slice (some ⟨g',0,none⟩) j j)∧Since w1 w' ∧ w'.ownsRow w1.heap.size 3 1 (.slice (some ⟨g',0,none⟩) j j) j ((List.replicate j (-1)).map iV)):=fun w1 hb=>Repeat_any hb (by have:=HK.out.pos;omega) (by omega)
   have HBL:Hid (Blk (wv.alloc (.cells #[.int .i64 (-1)] 3)) wv.heap.size 3 #[.int .i64 (-1)]):=Blk.new wv _ _
   have HM1:Hid (Mk (wv.alloc (.cells #[.int .i64 (-1)] 3)) G (stL gP cP gH cH gO V P (mkH j fr (nxI fr (rowO O)) fun _=>0) O nilV nilV nilV [] [] [])):=HM.out.alloc _
   have HS1:Hid (Since w0 (wv.alloc (.cells #[.int .i64 (-1)] 3))):=HS.out.alloc _
   have c11:=keepC ((Since.rfl_ wv).alloc (.cells #[.int .i64 (-1)] 3)) _ _ c1
   clear HM HS c1
   go_upto_region 8 with(go_at_call 93;refine(HRP.out _ HBL.out).mono ?_;rintro e w8 ⟨gC,rfl,hs8,how8⟩;have HW8:=Lib.hid (And.intro hs8 how8);have c18:=(HM1.out.since hs8).blk.cell 3;have f18:=(HM1.out.since hs8).blk.frozen 3;simp only[stL,List.getElem?_toArray,List.getElem?_cons_zero,List.getElem?_cons_succ] at c18;clear hs8 how8 c11)
   have hge8:=(HM1.out.since HW8.out.1).lt
   have hfr:=HM1.out.rows.fresh (i:=3) (rI (.slice (some ⟨gC,0,none⟩) j j) (List.replicate j (-1))) rfl HW8.out.1 (by have:=HM1.out.lt;omega) (by simpa[rI] using HW8.out.2)
   have hM9:Mk (w8.setCell ⟨G,3,none⟩ (.slice (some ⟨gC,0,none⟩) j j)) G (stL gP cP gH cH gO V P (mkH j fr (nxI fr (rowO O)) fun _=>0) O (.slice (some ⟨gC,0,none⟩) j j) nilV nilV (List.replicate j (-1)) [] []):=⟨(HM1.out.since HW8.out.1).blk.set_ 3 _,hfr.low (Nat.lt_succ_self _) _⟩
   have hS9:Since w0 (w8.setCell ⟨G,3,none⟩ (.slice (some ⟨gC,0,none⟩) j j)):=(HS1.out.trans HW8.out.1).setCell hG _
   have c1:(w8.setCell ⟨G,3,none⟩ (.slice (some ⟨gC,0,none⟩) j j)).cell? ⟨G,1,none⟩=some (.slice (some ⟨gH,0,none⟩) j cH):=by
    have:=hM9.blk.cell 1
    rw[this]
    simp[stL,mkH_len]
   have HM9:=Lib.hid hM9
   have HS9:=Lib.hid hS9
   clear hM9 hS9 hfr HW8 HM1 HS1 HRP HBL c18 f18
   generalize hW9:w8.setCell ⟨G,3,none⟩ (.slice (some ⟨gC,0,none⟩) j j)=w9 at c1 HM9 HS9
   clear hW9
   have HP:=Lib.hid HK.out.perm
   have HNXE:Hid (∀ g,g<j→nxI fr (rowO O) g=((nxN fr (rowO O) g:Nat):Int)):=fun g hg=>(HK.out.nx hg).1
   obtain⟨nxn,HNN⟩:∃ nxn,Hid (nxn=nxN fr (rowO O)):=⟨_,rfl⟩
   rw[← HNN.out] at HP HNXE
   obtain⟨H,HH⟩:∃ H,Hid (H=mkH j fr (nxI fr (rowO O)) fun _=>0):=⟨_,rfl⟩
   rw[← HH.out] at HM9
   have HHL:Hid (H.length=j):=by show _=_;rw[HH.out,mkH_len]
   obtain⟨cr,HCR⟩:∃ cr,Hid (cr=crI P fr):=⟨_,rfl⟩
   have HCY:=Lib.hid (Cyc.start j nxn cr HP.out)
   go_wp2_with fail
   clear c1
   go_loopw [69] (fun v69 wr=>∃ (h:Nat) (vI vT:Value) (C I T:List Int),h≤j∧v69=.int .i64 h∧Hid (Since w0 wr)∧Hid (Mk wr G (stL gP cP gH cH gO V P H O (.slice (some ⟨gC,0,none⟩) j j) vI vT C I T))∧Hid (Cyc j nxn cr h C I T)) (fun v69 _=>j-(intOf v69).toNat)
   case atStart=>exact⟨0,nilV,nilV,_,[],[],by omega,by go_num,HS9,HM9,HCY⟩
   case round =>
    clear HS9 HM9 HCY
    obtain⟨h,vI,vT,C,I,T,hh,rfl,HS,HM,HCY⟩:=hrel
    obtain⟨wv,rfl⟩:∃ wv,wv=wr:=⟨_,rfl⟩
    rcases Nat.lt_or_ge h j with hlt | hge
    ·have hz:decide ((h:Int)<(j:Int))=true:=by rw[decide_eq_true_eq];omega
     have h1:(0:Int)≤(h:Int):=by omega
     have h2:(h:Int)<(j:Int):=by omega
     have c3:wv.cell? ⟨G,3,none⟩=some (.slice (some ⟨gC,0,none⟩) j j):=HM.out.blk.cell 3
     have cC:wv.cell? ⟨gC,h,none⟩=some (.int .i64 (iAt C h)):=by
      have:=HM.out.rows.cell (i:=3) rfl rfl (j:=h) (by show h<C.length*1;rw[HCY.out.lenC];omega)
      rw[this]
      simp[stL,rI,iAt,iV,List.getD,show h<C.length by rw[HCY.out.lenC];exact hlt]
     obtain⟨x,hx⟩:∃ x,Hid (x=iAt C h):=⟨_,rfl⟩
     rw[← hx.out] at cC
     by_cases hneg:0≤x
     ·have hb:decide (0≤x)=true:=decide_eq_true hneg
      go_wp2_with fail
      go_roundw
      case rel=>exact⟨h+1,vI,vT,C,I,T,by omega,by go_num,HS,HM,HCY.out.skip (by rw[← hx.out];exact hneg)⟩
      case measure=>simp[intOf];omega
     ·have hb:decide (0≤x)=false:=decide_eq_false hneg
      have HC0:Hid (iAt C h = -1):=by
       show _=_
       rcases HCY.out.rng h hlt with k | k
       ·exact k
       ·rw[← hx.out] at k;omega
      have HW0:=Lib.hid (Wlk.start HCY.out)
      go_upto_region 12 with fail
      clear c3 cC
      go_wp2_with fail
      go_loopg [6,7] j (fun gk v6 v7 wr=>∃ (i:Nat) (C' : List Int),i+gk=j∧v6=.int .i64 (sumI nxn cr h i)∧v7=.int .i64 ((itN nxn h i:Nat):Int)∧Hid (Since w0 wr)∧Hid (Mk wr G (stL gP cP gH cH gO V P H O (.slice (some ⟨gC,0,none⟩) j j) vI vT C' I T))∧Hid (Wlk j nxn C h I.length i C'))
      case atStart=>exact⟨0,C,by omega,rfl,rfl,HS,HM,HW0⟩
      case round =>
       clear HS HM HW0
       obtain⟨i,C',hgk,rfl,rfl,HS,HM,HWL⟩:=hrel
       obtain⟨w1,rfl⟩:∃ w1,w1=wr:=⟨_,rfl⟩
       obtain⟨g,HGG⟩:∃ g,Hid (g=itN nxn h i):=⟨_,rfl⟩
       rw[← HGG.out]
       have hgj:g<j:=by rw[HGG.out];exact it_lt HP.out hlt i
       have c3:w1.cell? ⟨G,3,none⟩=some (.slice (some ⟨gC,0,none⟩) j j):=HM.out.blk.cell 3
       have cC:w1.cell? ⟨gC,g,none⟩=some (.int .i64 (iAt C' g)):=by
        have:=HM.out.rows.cell (i:=3) rfl rfl (j:=g) (by show g<C'.length*1;rw[HWL.out.len];omega)
        rw[this]
        simp[stL,rI,iAt,iV,List.getD,show g<C'.length by rw[HWL.out.len];exact hgj]
       obtain⟨y,hy⟩:∃ y,Hid (y=iAt C' g):=⟨_,rfl⟩
       rw[← hy.out] at cC
       obtain⟨S,hSS⟩:∃ S,Hid (S=sumI nxn cr h i):=⟨_,rfl⟩
       rw[← hSS.out]
       have g1:(0:Int)≤(g:Int):=by omega
       have g2:(g:Int)<(j:Int):=by omega
       by_cases hyn:y<0
       ·have hb2:decide (y<0)=true:=decide_eq_true hyn
        obtain⟨m,hm⟩:∃ m,Hid (m=I.length):=⟨_,rfl⟩
        have HST:Hid (Wlk j nxn C h I.length (i+1) (C'.set g (m:Int))):=by
         show Wlk _ _ _ _ _ _ _
         rw[hm.out,HGG.out]
         exact HWL.out.step HP.out hlt HCY.out (by rw[← HGG.out,← hy.out];exact hyn)
        obtain⟨aI,cI,hvI⟩:=Rws.slice HM.out.rows (i:=4) rfl
        simp only[stL,rI] at hvI
        have c4:w1.cell? ⟨G,4,none⟩=some (.slice aI m cI):=by
         have:=HM.out.blk.cell 4
         rw[this,hm.out,← hvI]
         rfl
        go_upto_region 16 with fail
        have KF:=Lib.hid (fun w' (k:Since w1 w')=>(show w'.cell? ⟨G,3,none⟩=some (.slice (some ⟨gC,0,none⟩) j j)∧w'.cell? ⟨G,4,none⟩=some (.slice aI m cI) from⟨keepC k _ _ c3,keepC k _ _ c4⟩))
        apply region_facts 11 (fun w' => Since w1 w')
        case hm=>kernel_rfl
        case hB=>kernel_rfl
        case hS=>exact(Since.rfl_ w1).drew
        case h =>
        simp only[List.take_succ_cons,List.take_zero,List.drop_succ_cons,List.drop_zero]
        iterate 11 (apply wpO_det;(case hw=>rfl);(case h=>intro hFm wx hS_ hF_ K hK;go_big_quiet_op;first | exact hK _ rfl | (apply Exists.intro;refine⟨fun _=>?_,?_⟩;(focus (first | (intro hC;have hC:=KF.out _ hC.out.1;(try simp only[hC,Result.andThen]);first | exact⟨True.intro,rfl⟩ | exact⟨rfl,rfl⟩ | rfl)));exact hK _ rfl));(case' k=>simp only[Act.put,List.setIfInBounds_toArray,List.set_cons_succ,List.set_cons_zero,List.cons_append,List.nil_append]))
        refine wpO_nil ?_
        intro w2 hS hF hB
        (try simp[allF] at hF)
        (try simp[List.pairwise_cons] at hB)
        clear hF hB
        have c32:=keepC hS _ _ c3
        have cC2:=keepC hS _ _ cC
        have hM2:=HM.out.since hS
        have fC:=hM2.rows.frozen (i:=3) rfl rfl g
        have hst:=hM2.rows.store (i:=3) rfl rfl (j:=g) (by show g<C'.length*1;rw[HWL.out.len];omega) (iV m)
        have hgeC:=hM2.rows.ge (i:=3) rfl (g:=gC) rfl
        have hst2:=(show Rws _ _ _ from hst)
        have hrw:=stL_C (gP:=gP) (cP:=cP) (gH:=gH) (cH:=cH) (gO:=gO) (V:=V) (g:=gC) (n:=j) (P:=P) (H:=H) (O:=O) (vI:=vI) (vT:=vT) (C:=C') (I:=I) (T:=T) (j:=g) (m:Int)
        have hst3:Rws (w2.setCell ⟨gC,g,none⟩ (.int .i64 m)) (G+1) (stL gP cP gH cH gO V P H O (.slice (some ⟨gC,0,none⟩) j j) vI vT (C'.set g m) I T).rows:=by
         rw[← hrw];exact hst
        have HW2:=Lib.hid (And.intro ((HS.out.trans hS).setCell (p:=⟨gC,g,none⟩) (by dsimp only;omega) (.int .i64 m)) (show Mk (w2.setCell ⟨gC,g,none⟩ (.int .i64 m)) G (stL gP cP gH cH gO V P H O (.slice (some ⟨gC,0,none⟩) j j) vI vT (C'.set g m) I T) from⟨hM2.blk.far (p:=⟨gC,g,none⟩) (by dsimp only;omega) (.int .i64 m),hst3⟩))
        clear hst hst2 hst3 hM2 hS KF HS HM c3 cC c4
        go_upto_region 17 with fail
        refine atW (fun w' => Hid (Since w0 w' ∧ Mk w' G (stL gP cP gH cH gO V P H O (.slice (some ⟨gC,0,none⟩) j j) vI vT (C'.set g m) I T))) HW2 ?_
        clear HW2 c32 cC2 fC hrw hgeC
        rintro w3 HW3
        have hsee:See w3 G gP cP gH cH P H:=HW3.out.2.see rfl rfl
        obtain⟨u,hu⟩:∃ u,Hid (u=fr g):=⟨_,rfl⟩
        obtain⟨v,hv⟩:∃ v,Hid (v=fr (twN g)):=⟨_,rfl⟩
        have htg:twN g<j:=HK.out.tw_lt hgj
        have huV:u<V:=by rw[hu.out];exact HK.out.fr_lt g hgj
        have hvV:v<V:=by rw[hv.out];exact HK.out.fr_lt _ htg
        have hPL:=HK.out.len
        obtain⟨p,hp⟩:∃ p,Hid (p=pAt P u):=⟨_,rfl⟩
        obtain⟨q,hq⟩:∃ q,Hid (q=pAt P v):=⟨_,rfl⟩
        have HCRI:Hid (cr g=p.1*q.2-q.1*p.2):=by show _=_;rw[HCR.out,hp.out,hq.out,hu.out,hv.out];rfl
        have okp:=okP_iff.1 (okpt HK.out.ok (show u<P.length by omega))
        have okq:=okP_iff.1 (okpt HK.out.ok (show v<P.length by omega))
        rw[← hp.out] at okp
        rw[← hq.out] at okq
        have HTO:Hid (∀ w',Since w3 w' → Calls Tryz.prog 92 #[.pointer (some ⟨G,0,none⟩),.int .i64 g] w' fun e w'' => e=.returned (.int .i64 v)∧w'' = w'):=fun w' k=>by
         have:=To_any (hsee.since k) g (by rw[HHL.out];exact htg) (by rw[HHL.out];omega)
         rw[HH.out,mkH_at htg,← hv.out] at this
         exact this
        have c0:w3.cell? ⟨G,0,none⟩=some (.slice (some ⟨gP,0,none⟩) V cP):=by rw[hsee.c0,hPL]
        have c1:w3.cell? ⟨G,1,none⟩=some (.slice (some ⟨gH,0,none⟩) j cH):=by rw[hsee.c1,HHL.out]
        have cu:w3.cell? ⟨gH,g*4,none⟩=some (.int .i64 u):=by
         rw[hsee.h g (by rw[HHL.out];exact hgj),HH.out,mkH_at hgj,← hu.out]
        have cn:w3.cell? ⟨gH,g*4+2,none⟩=some (.int .i64 ((nxn g:Nat):Int)):=by
         have hr1:=HW3.out.2.rows.ok 1 _ rfl
         have:=(rowH_cells (l:=H) hr1 (j:=g) (by rw[HHL.out];exact hgj)).2.2.1
         rw[this,HH.out,mkH_at hgj,← HNXE.out g hgj]
        obtain⟨p0,p1⟩:=hsee.p u (by omega)
        obtain⟨q0,q1⟩:=hsee.p v (by omega)
        rw[← hp.out] at p0 p1
        rw[← hq.out] at q0 q1
        have KF:=Lib.hid (fun w' (k:Since w3 w')=>(show w'.cell? ⟨G,0,none⟩=some (.slice (some ⟨gP,0,none⟩) V cP)∧w'.cell? ⟨G,1,none⟩=some (.slice (some ⟨gH,0,none⟩) j cH)∧w'.cell? ⟨gH,g*4,none⟩=some (.int .i64 u)∧w'.cell? ⟨gP,u*2,none⟩=some (.int .i64 p.1)∧w'.cell? ⟨gP,u*2+1,none⟩=some (.int .i64 p.2)∧w'.cell? ⟨gP,v*2,none⟩=some (.int .i64 q.1)∧w'.cell? ⟨gP,v*2+1,none⟩=some (.int .i64 q.2) from
         ⟨keepC k _ _ c0,keepC k _ _ c1,keepC k _ _ cu,keepC k _ _ p0,keepC k _ _ p1,keepC k _ _ q0,keepC k _ _ q1⟩))
        have u1:(0:Int)≤(u:Int):=by omega
        have u2:(u:Int)<(V:Int):=by omega
        have v1:(0:Int)≤(v:Int):=by omega
        have v2:(v:Int)<(V:Int):=by omega
        have m1:(p.1*q.2).natAbs≤1099511627776:=Nat.le_trans (mul_bd (A:=1048576) (B:=1048576) (by omega) (by omega)) (by decide)
        have m2:(q.1*p.2).natAbs≤1099511627776:=Nat.le_trans (mul_bd (A:=1048576) (B:=1048576) (by omega) (by omega)) (by decide)
        have sb:S.natAbs≤i*4398046511104:=by
         rw[hSS.out]
         exact sumI_bd (fun i=>by rw[HCR.out];exact crI_bd HK.out (it_lt HP.out hlt i)) i
        have hi6:i≤6000:=by omega
        have sb2:S.natAbs≤26388279066624000:=Nat.le_trans sb (by omega)
        have W1:Hid (wrap64 (p.1*q.2)=p.1*q.2∧wrap64 (q.1*p.2)=q.1*p.2∧wrap64 (p.1*q.2-q.1*p.2)=p.1*q.2-q.1*p.2∧wrap64 (S+(p.1*q.2-q.1*p.2))=S+(p.1*q.2-q.1*p.2)):=⟨wrap_id (by omega),wrap_id (by omega),wrap_id (by omega),wrap_id (by omega)⟩
        have CN:=Lib.hid cn
        have C1:=Lib.hid c1
        clear c0 c1 cu cn p0 p1 q0 q1 hsee okp okq m1 m2 sb sb2 hPL
        obtain⟨px,py⟩:=p
        obtain⟨qx,qy⟩:=q
        dsimp only at W1 KF HCRI
        apply region_factsF 30 (fun w' => Since w3 w')
        case hm=>kernel_rfl
        case hB=>kernel_rfl
        case hS=>exact(Since.rfl_ w3).drew
        case hmono=>exact(fun a b h k=>Below.trans h k)
        case h =>
        simp only[List.take_succ_cons,List.take_zero,List.drop_succ_cons,List.drop_zero]
        iterate 23 (apply wpO_detF;(case hw=>rfl);(case h=>intro hFm wx hS_ hF_ hbx K hK;go_big_quiet_op;first | exact hK _ rfl | (apply Exists.intro;refine⟨fun _=>?_,?_⟩;(focus (first | (intro hC;have hC:=KF.out _ hC.out.1;(try simp only[hC,Result.andThen]);first | exact⟨True.intro,rfl⟩ | exact⟨rfl,rfl⟩ | rfl)));exact hK _ rfl));(case' k=>simp only[Act.put,List.setIfInBounds_toArray,List.set_cons_succ,List.set_cons_zero,List.cons_append,List.nil_append]))
        (apply wpO_detF;(case hw=>rfl);(case h=>intro hFm wx hS_ hF_ hbx K hK;go_big_quiet_op;first | exact hK _ rfl | (apply Exists.intro;refine⟨fun _=>?_,?_⟩;(focus (first | (intro hC;go_at_call 92;refine(HTO.out _ hC.out.1).mono ?_;rintro e w' ⟨rfl,rfl⟩;exact⟨rfl,hC⟩)));exact hK _ rfl));(case' k=>simp only[Act.put,List.setIfInBounds_toArray,List.set_cons_succ,List.set_cons_zero,List.cons_append,List.nil_append]))
        iterate 2 (apply wpO_detF;(case hw=>rfl);(case h=>intro hFm wx hS_ hF_ hbx K hK;go_big_quiet_op;first | exact hK _ rfl | (apply Exists.intro;refine⟨fun _=>?_,?_⟩;(focus (first | (intro hC;have hC:=KF.out _ hC.out.1;(try simp only[hC,Result.andThen]);first | exact⟨True.intro,rfl⟩ | exact⟨rfl,rfl⟩ | rfl)));exact hK _ rfl));(case' k=>simp only[Act.put,List.setIfInBounds_toArray,List.set_cons_succ,List.set_cons_zero,List.cons_append,List.nil_append]))
        apply wpO_mkfF (f:=fun g=>.pointer (some ⟨g,0,none⟩)) (t:=36) (cs := #[.int .i64 0,.int .i64 0])
        case hi=>(intro g g' h;simpa using h)
        case hw=>rfl
        case h=>(intro w;simp[go_sem])
        case k =>
        intro x8
        simp only[Act.put,List.setIfInBounds_toArray,List.set_cons_succ,List.set_cons_zero,List.cons_append,List.nil_append]
        apply wpO_mkfF (f:=fun g=>.pointer (some ⟨g,0,none⟩)) (t:=36) (cs := #[.int .i64 0,.int .i64 0])
        case hi=>(intro g g' h;simpa using h)
        case hw=>rfl
        case h=>(intro w;simp[go_sem])
        case k =>
        intro x9
        simp only[Act.put,List.setIfInBounds_toArray,List.set_cons_succ,List.set_cons_zero,List.cons_append,List.nil_append]
        apply wpO_fillF (j:=26) (t:=36) (cs := #[.int .i64 px,.int .i64 py]) x8
        case hT=>rfl
        case hj=>decide
        case hw=>rfl
        case hd=>rfl
        case hp=>decide
        case h =>
         intro w' hS_ hF_
         obtain⟨⟨cs',hcs,hb⟩,hg⟩:=factsOf_at (j:=26) (by decide) hF_
         obtain⟨x,y,rfl⟩:=two_of_size hcs
         refine⟨_,_,hg,hb,rfl,?_,(fill2 (.int .i64 px) (.int .i64 py) hb).1,(fill2 (.int .i64 px) (.int .i64 py) hb).2⟩
         have c0:=hb.cell 0
         have c1:=hb.cell 1
         have f0:=hb.frozen 0
         have f1:=hb.frozen 1
         simp only[List.getElem?_toArray,List.getElem?_cons_zero,List.getElem?_cons_succ] at c0 c1
         simp[go_sem,c0,c1,f0,f1,cSetS,cSetO]
        case k =>
        simp only[Act.put,List.setIfInBounds_toArray,List.set_cons_succ,List.set_cons_zero,List.cons_append,List.nil_append]
        apply wpO_fillF (j:=27) (t:=36) (cs := #[.int .i64 qx,.int .i64 qy]) x9
        case hT=>rfl
        case hj=>decide
        case hw=>rfl
        case hd=>rfl
        case hp=>decide
        case h =>
         intro w' hS_ hF_
         obtain⟨⟨cs',hcs,hb⟩,hg⟩:=factsOf_at (j:=27) (by decide) hF_
         obtain⟨x,y,rfl⟩:=two_of_size hcs
         refine⟨_,_,hg,hb,rfl,?_,(fill2 (.int .i64 qx) (.int .i64 qy) hb).1,(fill2 (.int .i64 qx) (.int .i64 qy) hb).2⟩
         have c0:=hb.cell 0
         have c1:=hb.cell 1
         have f0:=hb.frozen 0
         have f1:=hb.frozen 1
         simp only[List.getElem?_toArray,List.getElem?_cons_zero,List.getElem?_cons_succ] at c0 c1
         simp[go_sem,c0,c1,f0,f1,cSetS,cSetO]
        case k =>
        simp only[Act.put,List.setIfInBounds_toArray,List.set_cons_succ,List.set_cons_zero,List.cons_append,List.nil_append]
        refine wpO_nilF ?_
        intro w5 hS hF hB
        (try simp[allF] at hF)
        (try simp[List.pairwise_cons] at hB)
        obtain⟨-,-,⟨k5,-⟩,k6,-⟩:=hF
        have d0:=k5.cell 0
        have d1:=k5.cell 1
        have e0:=k6.cell 0
        have e1:=k6.cell 1
        simp only[List.getElem?_toArray,List.getElem?_cons_zero,List.getElem?_cons_succ] at d0 d1 e0 e1
        have cn:=keepC hS _ _ CN.out
        have c1:=keepC hS _ _ C1.out
        have HW5:=Lib.hid (And.intro (HW3.out.1.trans hS) (HW3.out.2.since hS))
        obtain⟨w_1,w_2,w_3,w_4⟩:=W1.out
        clear k5 k6 hS hB KF HTO HW3
        go_wp2_with fail
        have e6:wrap64 (S+(px*qy-qx*py))=sumI nxn cr h (i+1):=by rw[w_4,sumI_succ,← hSS.out,← HGG.out,HCRI.out]
        have e7:nxn g=itN nxn h (i+1):=by rw[HGG.out];rfl
        have hgk2:i+1≤j:=HST.out.le
        clear w_1 w_2 w_3 w_4
        go_roundg (gk-1)
        case measure=>omega
        case rel=>exact⟨i+1,C'.set g m,by omega,by rw[e6],by rw[e7],HW5.out.1,HW5.out.2,HST⟩
       ·have hb2 : decide (y<0)=false:=decide_eq_false hyn
        have HCY2:Hid (Cyc j nxn cr (h+1) C' (I++[(h:Int)]) (T++[S])):=by
         show Cyc _ _ _ _ _ _ _
         rw[hSS.out]
         exact HCY.out.step HP.out hlt HWL.out HC0.out (by rw[← HGG.out,← hy.out];omega)
        go_upto_region 19 with fail
        obtain⟨aI,cI,hvI⟩:∃ a c,vI=.slice a I.length c:=Rws.slice HM.out.rows (i:=4) rfl
        obtain⟨aT,cT,hvT⟩:∃ a c,vT=.slice a T.length c:=Rws.slice HM.out.rows (i:=5) rfl
        subst hvI hvT
        obtain⟨i2,hi2,hy0,hy1,hy3⟩:=info_parts infoI
        have HI2:=Lib.hid (And.intro hi2 (And.intro hy0 (And.intro hy1 hy3)))
        have hIl:I.length≤6000:=by have:=HCY.out.le;omega
        have hTl:T.length≤6000:=by rw[HCY.out.lenT];exact hIl
        clear hi2 hy0 hy1 hy3 c3 cC HWL
        obtain⟨A1,HA1⟩:∃ A:Ap,Hid (A=⟨.slice aI I.length cI,3,1,I.length,I.map iV,1,[.int .i64 h]⟩):=⟨_,rfl⟩
        obtain⟨A2,HA2⟩:∃ A:Ap,Hid (A=⟨.slice aT T.length cT,3,1,T.length,T.map iV,1,[.int .i64 S]⟩):=⟨_,rfl⟩
        have HV1:Hid (A1.v=.slice aI I.length cI):=by show _=_;rw[HA1.out]
        have HV2:Hid (A2.v=.slice aT T.length cT):=by show _=_;rw[HA2.out]
        have HLO:Hid (∀ A' ∈ [A1,A2],∀ g,A'.v.ownBlock=some g→G+1≤g∧g<w1.heap.size):=fun A' hA' g e=>by
         simp only[List.mem_cons,List.not_mem_nil,or_false] at hA'
         rcases hA' with rfl | rfl
         ·rw[HV1.out] at e;exact HM.out.rows.ge (i:=4) rfl e
         ·rw[HV2.out] at e;exact HM.out.rows.ge (i:=5) rfl e
        have HAP:Hid (∀ A∈[A1,A2],∀ A' ∈ [A1,A2],A' ≠ A→∀ g,A.v.ownBlock=some g→A'.v.ownBlock≠some g):=fun A hA A' hA' hne g e e' => by
         simp only[List.mem_cons,List.not_mem_nil,or_false] at hA hA'
         rcases hA with rfl | rfl <;> rcases hA' with rfl | rfl
         ·exact hne rfl
         ·rw[HV1.out] at e;rw[HV2.out] at e'
          exact HM.out.rows.ap 4 5 _ _ (by decide) rfl rfl g e e'
         ·rw[HV2.out] at e;rw[HV1.out] at e'
          exact HM.out.rows.ap 4 5 _ _ (by decide) rfl rfl g e' e
         ·exact hne rfl
        letI RG:RegG:=apG (G+1) w1.heap.size [A1,A2] (fun A' hA' g e=>(HLO.out A' hA' g e).2)
        have KB:Hid (∀ w',SinceG w1 w' → Blk w' G 94 #[.slice (some ⟨gP,0,none⟩) P.length cP,.slice (some ⟨gH,0,none⟩) H.length cH,nilV,.slice (some ⟨gC,0,none⟩) j j,.slice aI I.length cI,.slice aT T.length cT,nilV,.slice (some ⟨gO,0,none⟩) V V]):=fun w' k =>
         ApK.blk k (fun A hA e=>by have:=(HLO.out A hA G e).1;omega) HM.out.blk
        have KF:=Lib.hid (fun w' (k:SinceG w1 w')=>(show w'.cell? ⟨G,4,none⟩=some (.slice aI I.length cI)∧w'.cell? ⟨G,5,none⟩=some (.slice aT T.length cT) from⟨(KB.out w' k).cell 4,(KB.out w' k).cell 5⟩))
        refine wp_region_any (by kernel_rfl) ?_
        change wpAny _ _ _ _ _ _ _ (World.drew _)
        refine wpAny_takeD (i:=1) 149 (v:=.pointer (some ⟨G,0,none⟩)) rfl rfl (by kernel_rfl) (by kernel_rfl) (by kernel_rfl) (fun _ _ _ h=>h) (Or.inl ⟨by rfl,fun w=>by rfl⟩) ?_
        simp only[Act.put,List.setIfInBounds_toArray,List.set_cons_succ,List.set_cons_zero,List.cons_append,List.nil_append]
        apply region_factsX 16 [1] (fun w' => SinceG w1 w')
        case hB=>kernel_rfl
        case hS=>exact(SinceG.rfl_ w1).drew
        case hmono=>exact(fun _ _ h k=>h.trans k)
        case hTb=>exact(fun g hg=>hg)
        case hf=>kernel_rfl
        rotate_left
        simp only[List.toList_toArray,List.take_succ_cons,List.take_zero,List.drop_succ_cons,List.drop_zero]
        case h =>
         iterate 7 (apply wpO_detN;(case hw=>rfl);(case h=>intro hFm wx hS_ hF_ K hK;go_big_quiet_op;first | exact hK _ rfl | (apply Exists.intro;refine⟨fun _=>?_,?_⟩;(focus (first | (intro hC;have hC:=KF.out _ hC.out.1;(try simp only[hC,Result.andThen]);first | exact⟨True.intro,rfl⟩ | exact⟨rfl,rfl⟩ | rfl)));exact hK _ rfl));(case' k=>simp only[Act.put,List.setIfInBounds_toArray,List.set_cons_succ,List.set_cons_zero,List.cons_append,List.nil_append]))
         apply wpO_mkN (f:=fun g=>.slice (some ⟨g,0,none⟩) 1 1) (t:=3) (cs := #[.int .i64 h])
         case hk=>trivial
         case hi=>(intro g g' h;simpa using h)
         case hw=>rfl
         case h=>(intro w;simp[go_sem])
         case k =>
         intro b1
         simp only[Act.put,List.setIfInBounds_toArray,List.set_cons_succ,List.set_cons_zero,List.cons_append,List.nil_append]
         apply wpO_anyN (R:=fun v' w' => w'.ownsRow (G+1) (A1).t (A1).k v' ((A1).n+(A1).m) ((A1).xs++(A1).news)∧(v'.ownBlock=(A1).v.ownBlock∨∃ b,v'.ownBlock=some b∧w1.heap.size≤b))
         case hR=>exact fun v' w' w'' h k=>⟨k.post _ (List.mem_cons_self ..) v' h.2 h.1,h.2⟩
         case hw=>rfl
         case h =>
          intro wx hS_ hF_
          refine runVG_appN _ _ _ rfl rfl rfl ?_
          (
                   obtain⟨hbg,-,-⟩:=factsOf_at (j:=7) (by decide) hF_
                   exact ap_two (List.mem_cons_self ..) HA1.out HAP.out HLO.out (HM.out.rows.ok 4 _ rfl) hS_ (by have:=HM.out.lt;omega) (Nat.le_refl _) _ _ i2 _ 8 Tryz.underlying22 HI2.out.1 HI2.out.2.1 HI2.out.2.2.1 HI2.out.2.2.2 rfl (by decide) _ _ rfl (blk1 hbg) (one1 _ _) (by unfold maxLen;omega) (by omega))
         case k =>
         intro v1
         simp only[Act.put,List.setIfInBounds_toArray,List.set_cons_succ,List.set_cons_zero,List.cons_append,List.nil_append]
         iterate 5 (apply wpO_detN;(case hw=>rfl);(case h=>intro hFm wx hS_ hF_ K hK;go_big_quiet_op;first | exact hK _ rfl | (apply Exists.intro;refine⟨fun _=>?_,?_⟩;(focus (first | (intro hC;have hC:=KF.out _ hC.out.1;(try simp only[hC,Result.andThen]);first | exact⟨True.intro,rfl⟩ | exact⟨rfl,rfl⟩ | rfl)));exact hK _ rfl));(case' k=>simp only[Act.put,List.setIfInBounds_toArray,List.set_cons_succ,List.set_cons_zero,List.cons_append,List.nil_append]))
         apply wpO_mkN (f:=fun g=>.slice (some ⟨g,0,none⟩) 1 1) (t:=3) (cs := #[.int .i64 S])
         case hk=>trivial
         case hi=>(intro g g' h;simpa using h)
         case hw=>rfl
         case h=>(intro w;simp[go_sem])
         case k =>
         intro b2
         simp only[Act.put,List.setIfInBounds_toArray,List.set_cons_succ,List.set_cons_zero,List.cons_append,List.nil_append]
         apply wpO_anyN (R:=fun v' w' => w'.ownsRow (G+1) (A2).t (A2).k v' ((A2).n+(A2).m) ((A2).xs++(A2).news)∧(v'.ownBlock=(A2).v.ownBlock∨∃ b,v'.ownBlock=some b∧w1.heap.size≤b))
         case hR=>exact fun v' w' w'' h k=>⟨k.post _ (List.mem_cons_of_mem _ (List.mem_cons_self ..)) v' h.2 h.1,h.2⟩
         case hw=>rfl
         case h =>
          intro wx hS_ hF_
          refine runVG_appN _ _ _ rfl rfl rfl ?_
          (
                   obtain⟨hbg,-,-⟩:=factsOf_at (j:=14) (by decide) hF_
                   exact ap_two (List.mem_cons_of_mem _ (List.mem_cons_self ..)) HA2.out HAP.out HLO.out (HM.out.rows.ok 5 _ rfl) hS_ (by have:=HM.out.lt;omega) (Nat.le_refl _) _ _ i2 _ 8 Tryz.underlying22 HI2.out.1 HI2.out.2.1 HI2.out.2.2.1 HI2.out.2.2.2 rfl (by decide) _ _ rfl (blk1 hbg) (one1 _ _) (by unfold maxLen;omega) (by omega))
         case k =>
         intro v2
         simp only[Act.put,List.setIfInBounds_toArray,List.set_cons_succ,List.set_cons_zero,List.cons_append,List.nil_append]
         refine wpO_nilN ?_
         intro w2 hS hF hB
         (try simp[allF] at hF)
         (try simp[List.pairwise_cons] at hB)
         obtain⟨-,⟨⟨ho1,hl1⟩,-⟩,-,⟨ho2,hl2⟩,-⟩:=hF
         have hne:=hB.2.1.2
         have hb2' := KB.out _ hS
         have hS2:=ApK.since hS HS.out (by omega) (fun A' hA' g e=>(HLO.out A' hA' g e).1)
         have hr2:=HM.out.rows.app2 (i:=4) (j:=5) (by decide) rfl rfl HV1.out HV2.out (Nat.le_refl _) hS (rI v1 (I++[(h:Int)])) (rI v2 (T++[S])) (by
          rw[HA1.out] at ho1
          simpa[rI,iV] using ho1) (by
          rw[HA2.out] at ho2
          simpa[rI,iV] using ho2) hl1 hl2 (fun g g' k k' => hne g g' k.1 k.2 k'.1 k'.2)
         have hr3:Rws w2 (G+1) (stL gP cP gH cH gO V P H O (.slice (some ⟨gC,0,none⟩) j j) v1 v2 C' (I++[(h:Int)]) (T++[S])).rows:=hr2
         obtain⟨av1,cv1,hv1⟩:∃ a c,v1=.slice a (I.length+1) c:=by obtain⟨a,c,e⟩:=Rws.slice hr3 (i:=4) rfl;exact⟨a,c,by simpa[rI,stL] using e⟩
         obtain⟨av2,cv2,hv2⟩:∃ a c,v2=.slice a (T.length+1) c:=by obtain⟨a,c,e⟩:=Rws.slice hr3 (i:=5) rfl;exact⟨a,c,by simpa[rI,stL] using e⟩
         subst hv1 hv2
         have d4:=hb2'.cell 4
         have d5:=hb2'.cell 5
         have e4:=hb2'.frozen 4
         have e5:=hb2'.frozen 5
         simp only[List.getElem?_toArray,List.getElem?_cons_zero,List.getElem?_cons_succ] at d4 d5
         have hM2:Mk ((w2.setCell ⟨G,4,none⟩ (.slice av1 (I.length+1) cv1)).setCell ⟨G,5,none⟩ (.slice av2 (T.length+1) cv2)) G (stL gP cP gH cH gO V P H O (.slice (some ⟨gC,0,none⟩) j j) (.slice av1 (I.length+1) cv1) (.slice av2 (T.length+1) cv2) C' (I++[(h:Int)]) (T++[S])):=⟨(hb2'.set_ 4 (.slice av1 (I.length+1) cv1)).set_ 5 (.slice av2 (T.length+1) cv2),(hr3.low (Nat.lt_succ_self _) (.slice av1 (I.length+1) cv1)).low (Nat.lt_succ_self _) (.slice av2 (T.length+1) cv2)⟩
         have HW2:=Lib.hid (And.intro ((hS2.setCell (p:=⟨G,4,none⟩) hG (.slice av1 (I.length+1) cv1)).setCell (p:=⟨G,5,none⟩) hG (.slice av2 (T.length+1) cv2)) hM2)
         clear ho1 hl1 ho2 hl2 hne hS2 hr2 hr3 hM2 hb2' hS hB KF KB
         clear RG
         clear HAP HLO HV1 HV2 HA1 HA2 HM HS HI2 HCY hb2 hyn
         go_wp2_with fail
         go_roundw
         case rel=>exact⟨h+1,(.slice av1 (I.length+1) cv1),(.slice av2 (T.length+1) cv2),C',_,_,by omega,by go_num,HW2.out.1,HW2.out.2,HCY2⟩
         case measure=>simp[intOf];omega
        case hE =>
         intro e he
         obtain rfl:e=1:=by simpa using he
         exact⟨_,149,rfl,rfl,rfl⟩
    ·obtain rfl:h=j:=by omega
     have hz:decide ((h:Int)<(h:Int))=false:=by rw[decide_eq_false_iff_not];omega
     go_wp2_with fail
     go_end0
     exact⟨rfl,HS.out,gC,vI,vT,C,I,T,by rw[← HH.out];exact HM.out,by rw[← HNN.out,← HCR.out];exact HCY.out⟩
end
end Go.Proofs.YtdnccjdlmepafaaGreat
