/-
  The walk of arr's parts: the connected parts of a drawing; The walk of arr's inside: whether a point is inside of a boundary. Conditions: those that each lemma names.
-/
import Derived.Test.YtdnccjdlmepafaaGreatK23
import Derived.Test.YtdnccjdlmepafaaGreatK25
set_option linter.unusedSimpArgs false
set_option linter.unusedVariables false
set_option linter.constructorNameAsVariable false
namespace Go.Proofs.YtdnccjdlmepafaaGreat
section
open Go.RowKit Go.BigFrame
attribute [local go_sem ↓] eqPt neqPt
def stA(gP cP gH cH gO V:Nat)(P:List Pt2)(H:List Hf)(O:List (Value×List Int))(vC vI vT vA:Value)(C I T A:List Int):St:=⟨.slice (some ⟨gP,0,none⟩) P.length cP,.slice (some ⟨gH,0,none⟩) H.length cH,nilV,vC,vI,vT,vA,.slice (some ⟨gO,0,none⟩) V V,P,H,[],C,I,T,A,O⟩
theorem stA_A{gP cP gH cH gO V g n:Nat}{P:List Pt2}{H:List Hf}{O:List (Value×List Int)}{vC vI vT:Value}{C I T A:List Int}{j:Nat}(x:Int) :
  (stA gP cP gH cH gO V P H O vC vI vT (.slice (some ⟨g,0,none⟩) n n) C I T A).rows.set 6 { rI (.slice (some ⟨g,0,none⟩) n n) A with xs:=(A.map iV).set j (iV x) }=(stA gP cP gH cH gO V P H O vC vI vT (.slice (some ⟨g,0,none⟩) n n) C I T (A.set j x)).rows:=by
 have e:({ rI (.slice (some ⟨g,0,none⟩) n n) A with xs:=(A.map iV).set j (iV x) }:Rw)=rI (.slice (some ⟨g,0,none⟩) n n) (A.set j x):=by
  simp[rI,List.map_set]
 rw[e]
 rfl
theorem rowI_at{w:World}{B:Nat}{L:List Rw}(h:Rws w B L){i g n c:Nat}{A:List Int}(hi:L[i]? = some (rI (.slice (some ⟨g,0,none⟩) n c) A)){j:Nat}(hj:j<A.length):w.cell? ⟨g,j,none⟩=some (.int .i64 (iAt A j)):=by
 rw[h.cell hi rfl (j:=j) (by simpa[rI] using hj)]
 simp[rI,iAt,iV,List.getD,hj]
theorem since_grown{w0 w w' : World}{g:Nat}(h:Since w0 w)(hg:w.grownBy w' (some g))(hb:w0.heap.size≤g):Since w0 w' :=
 ⟨hg.os.trans h.os,hg.tape.trans h.tape,hg.output.trans h.output,Nat.le_trans h.size hg.size,fun k hk=>(hg.block k (Nat.lt_of_lt_of_le hk h.size) fun e=>by injection e;omega).trans (h.block k hk)⟩
set_option maxRecDepth 100000 in
set_option maxHeartbeats 8000000 in
theorem Parts_any (G gP cP gO gH cH V:Nat) (P:List Pt2) (H:List Hf) (O:List (Value×List Int)) (vC vI vT:Value) (C I T:List Int) (te:Int→Nat) (w0 w:World) (hs0:Since w0 w) (hG:w0.heap.size≤G) (hM:Mk w G (stL gP cP gH cH gO V P H O vC vI vT C I T)) (hOl:O.length=V) (hV:V=P.length) (hpos:0<V) (hV6:V≤6000) (hHl:H.length≤6000)
  (hT:∀ v,v<V→∀ x∈rowO O v,∃ h:Nat,x=h∧twN h<H.length∧(hAt H (twN h)).1=(te x:Int)∧te x<V) (hRl:∀ v,v<V→(rowO O v).length≤6000) :
  Calls Tryz.prog 66 #[.pointer (some ⟨G,0,none⟩)] w fun e w' => e=.returned (.tuple #[])∧Since w0 w' ∧ ∃ gA,Mk w' G (stA gP cP gH cH gO V P H O vC vI vT (.slice (some ⟨gA,0,none⟩) V V) C I T (prtK te (rowO O) V V)):=by
 have HRV:Hid (∀ v,v<V→∀ x∈rowO O v,te x<V):=fun v hv x hx=>by obtain⟨h,-,-,-,k⟩:=hT v hv x hx;exact k
 have HT:=Lib.hid hT
 have HRL:=Lib.hid hRl
 have HHL:=Lib.hid hHl
 have hGw:G<w.heap.size:=hM.lt
 have c0:w.cell? ⟨G,0,none⟩=some (.slice (some ⟨gP,0,none⟩) V cP):=by
  have:=hM.blk.cell 0
  rw[this,hV];rfl
 have HP:=Lib.hid hV
 have HS1:Hid (Since w0 (w.alloc (.cells #[.int .i64 (-1)] 3))):=hs0.alloc _
 have HM1:Hid (Mk (w.alloc (.cells #[.int .i64 (-1)] 3)) G (stL gP cP gH cH gO V P H O vC vI vT C I T)):=hM.alloc _
 have HBL:Hid (Blk (w.alloc (.cells #[.int .i64 (-1)] 3)) w.heap.size 3 #[.int .i64 (-1)]):=Blk.new w _ _
 have HRP:Hid (∀ w1,Blk w1 w.heap.size 3 #[.int .i64 (-1)]→Calls Tryz.prog 93 #[.slice (some ⟨w.heap.size,0,none⟩) 1 1,.int .i64 V] w1 fun e w' => ∃ g',e=.returned (.slice (some ⟨g',0,none⟩) V V)∧Since w1 w' ∧ w'.ownsRow w1.heap.size 3 1 (.slice (some ⟨g',0,none⟩) V V) V ((List.replicate V (-1)).map iV)):=fun w1 hb=>Repeat_any hb hpos (by omega)
 have c01:=keepC ((Since.rfl_ w).alloc (.cells #[.int .i64 (-1)] 3)) _ _ c0
 clear hT hRl hs0 hM hV c0 hHl
 obtain⟨R,HR⟩:∃ R,Hid (R=rowO O):=⟨_,rfl⟩
 rw[← HR.out] at HT HRL HRV ⊢
 go_enter Tryz.func66,Tryz.ntmps66
 go_upto_region 1 with(go_at_call 93;refine(HRP.out _ HBL.out).mono ?_;rintro e w8 ⟨gA,rfl,hs8,how8⟩;have HW8:=Lib.hid (And.intro hs8 how8);have c68:=(HM1.out.since hs8).blk.cell 6;have f68:=(HM1.out.since hs8).blk.frozen 6;simp only[stL,List.getElem?_toArray,List.getElem?_cons_zero,List.getElem?_cons_succ] at c68;clear hs8 how8 c01)
 have hM8:=HM1.out.since HW8.out.1
 have hfr:=HM1.out.rows.fresh (i:=6) (rI (.slice (some ⟨gA,0,none⟩) V V) (List.replicate V (-1))) rfl HW8.out.1 (by have:=HM1.out.lt;omega) (by simpa[rI] using HW8.out.2)
 have hM9:Mk (w8.setCell ⟨G,6,none⟩ (.slice (some ⟨gA,0,none⟩) V V)) G (stA gP cP gH cH gO V P H O vC vI vT (.slice (some ⟨gA,0,none⟩) V V) C I T (prtK te R V 0)):=⟨hM8.blk.set_ 6 _,hfr.low (Nat.lt_succ_self _) _⟩
 have HM9:=Lib.hid hM9
 have HS9:Hid (Since w0 (w8.setCell ⟨G,6,none⟩ (.slice (some ⟨gA,0,none⟩) V V))):=(HS1.out.trans HW8.out.1).setCell hG _
 have c6:(w8.setCell ⟨G,6,none⟩ (.slice (some ⟨gA,0,none⟩) V V)).cell? ⟨G,6,none⟩=some (.slice (some ⟨gA,0,none⟩) V V):=hM9.blk.cell 6
 clear hM9 hM8 hfr HW8 HM1 HS1 HRP HBL c68 f68 hGw
 generalize hW9:w8.setCell ⟨G,6,none⟩ (.slice (some ⟨gA,0,none⟩) V V)=w9 at c6 HM9 HS9
 clear hW9
 go_wp2_with fail
 clear c6
 go_loopw [23] (fun v23 wr=>∃ (k:Nat),k≤V∧v23=.int .i64 k∧Hid (Since w0 wr)∧Hid (Mk wr G (stA gP cP gH cH gO V P H O vC vI vT (.slice (some ⟨gA,0,none⟩) V V) C I T (prtK te R V k)))) (fun v23 _=>V-(intOf v23).toNat)
 case atStart=>exact⟨0,by omega,by go_num,HS9,HM9⟩
 case round =>
  clear HS9 HM9
  obtain⟨k,hk,rfl,HS,HM⟩:=hrel
  obtain⟨wv,rfl⟩:∃ wv,wv=wr:=⟨_,rfl⟩
  rcases Nat.lt_or_ge k V with hlt | hge
  ·have hz:decide ((k:Int)<(V:Int))=true:=by rw[decide_eq_true_eq];omega
   have k1:(0:Int)≤(k:Int):=by omega
   have k2:(k:Int)<(V:Int):=by omega
   obtain⟨A,HA⟩:∃ A,Hid (A=prtK te R V k):=⟨_,rfl⟩
   rw[← HA.out] at HM
   have HAL:Hid (A.length=V):=by show _=_;rw[HA.out];exact prtK_len HRV.out k hk
   have c6:wv.cell? ⟨G,6,none⟩=some (.slice (some ⟨gA,0,none⟩) V V):=HM.out.blk.cell 6
   have cA:wv.cell? ⟨gA,k,none⟩=some (.int .i64 (iAt A k)):=rowI_at HM.out.rows (i:=6) rfl (by show k<A.length;rw[HAL.out];exact hlt)
   obtain⟨x,hx⟩:∃ x,Hid (x=iAt A k):=⟨_,rfl⟩
   rw[← hx.out] at cA
   by_cases hneg:0≤x
   ·have hb:decide (0≤x)=true:=decide_eq_true hneg
    go_wp2_with fail
    go_roundw
    case rel =>
     refine⟨k+1,by omega,by go_num,HS,?_⟩
     rw[show prtK te R V (k+1)=A by rw[prtK_succ,← HA.out];unfold prtV;rw[if_pos (by rw[← hx.out];exact hneg)]]
     exact HM
    case measure=>simp[intOf];omega
   ·have hb:decide (0≤x)=false:=decide_eq_false hneg
    go_upto_region 5 with fail
    have f6:=HM.out.rows.frozen (i:=6) rfl rfl k
    have hst:=HM.out.rows.store (i:=6) rfl rfl (j:=k) (by show k<A.length*1;rw[HAL.out];omega) (iV k)
    have hge6:=HM.out.rows.ge (i:=6) rfl (g:=gA) rfl
    have hrw:=stA_A (gP:=gP) (cP:=cP) (gH:=gH) (cH:=cH) (gO:=gO) (V:=V) (g:=gA) (n:=V) (P:=P) (H:=H) (O:=O) (vC:=vC) (vI:=vI) (vT:=vT) (C:=C) (I:=I) (T:=T) (A:=A) (j:=k) (k:Int)
    have hst3:Rws (wv.setCell ⟨gA,k,none⟩ (.int .i64 k)) (G+1) (stA gP cP gH cH gO V P H O vC vI vT (.slice (some ⟨gA,0,none⟩) V V) C I T (A.set k k)).rows:=by
     rw[← hrw];exact hst
    have HW2:=Lib.hid (And.intro (HS.out.setCell (p:=⟨gA,k,none⟩) (by dsimp only;omega) (.int .i64 k)) (show Mk (wv.setCell ⟨gA,k,none⟩ (.int .i64 k)) G (stA gP cP gH cH gO V P H O vC vI vT (.slice (some ⟨gA,0,none⟩) V V) C I T (A.set k k)) from⟨HM.out.blk.far (p:=⟨gA,k,none⟩) (by dsimp only;omega) (.int .i64 k),hst3⟩))
    clear hst hst3
    go_upto_region 6 with fail
    refine atW (fun w' => Hid (Since w0 w' ∧ Mk w' G (stA gP cP gH cH gO V P H O vC vI vT (.slice (some ⟨gA,0,none⟩) V V) C I T (A.set k k)))) HW2 ?_
    clear HW2 c6 cA f6 hge6 hrw HS HM
    rintro w3 HW3
    have hB3:G+1≤w3.heap.size:=HW3.out.2.lt
    have HQ0:Hid (QueS (w3.alloc (.cells #[iV k] 3)) (G+1) (stA gP cP gH cH gO V P H O vC vI vT (.slice (some ⟨gA,0,none⟩) V V) C I T (A.set k k)).rows (.slice (some ⟨w3.heap.size,0,none⟩) 1 1) [(k:Int)] 0):=QueS.start HW3.out.2.rows hB3 k
    have HS3:Hid (Since w0 (w3.alloc (.cells #[iV k] 3))):=HW3.out.1.alloc _
    have HM3:Hid (MkQ (w3.alloc (.cells #[iV k] 3)) G (stA gP cP gH cH gO V P H O vC vI vT (.slice (some ⟨gA,0,none⟩) V V) C I T (A.set k k)) (.slice (some ⟨w3.heap.size,0,none⟩) 1 1) [(k:Int)] 0):=⟨((Since.rfl_ w3).alloc _).blk HW3.out.2.blk,HQ0.out⟩
    have HPS:Hid (PrtS V V (A.set k k,[(k:Int)])):=prtS_start HAL.out hlt (by rw[← hx.out];omega)
    have HFI:Hid (prtQ te R k V (A.set k k,[(k:Int)])=prtK te R V (k+1)):=by
     show _=_
     rw[prtK_succ,← HA.out]
     unfold prtV
     rw[if_neg (by rw[← hx.out];exact hneg),HAL.out]
     exact(prtQ_more V (V+1) _ HPS.out.q HPS.out.len (by omega) HRV.out HPS.out.meas (by omega)).symm
    clear HW3 HQ0 hx HA
    go_wp2_with fail
    go_loopg [3] V (fun gm v3 wr=>∃ (A1:List Int) (q:List Int),gm≤V∧Hid (Since w0 wr)∧Hid (MkQ wr G (stA gP cP gH cH gO V P H O vC vI vT (.slice (some ⟨gA,0,none⟩) V V) C I T A1) v3 q (V-gm))∧Hid (PrtS V gm (A1,q))∧Hid (prtQ te R k gm (A1,q)=prtK te R V (k+1)))
    case atStart=>exact⟨_,_,Nat.le_refl _,HS3,by rw[Nat.sub_self];exact HM3,HPS,HFI⟩
    case round =>
     clear HS3 HM3 HPS HFI hb hneg
     obtain⟨A1,q,hgm,HS,HM,HPS,HFI⟩:=hrel
     obtain⟨w1,rfl⟩:∃ w1,w1=wr:=⟨_,rfl⟩
     cases q with
     | nil =>
      obtain⟨a,c,rfl,-⟩:=HM.out.que
      have HFA:Hid (A1=prtK te R V (k+1)):=by
       show _=_
       rw[← HFI.out]
       cases gk <;> rfl
      go_wp2_with fail
      go_roundw
      case rel=>exact⟨k+1,by omega,by go_num,HS,by rw[← HFA.out];exact HM.out.maker⟩
      case measure=>simp[intOf];omega
     | cons t q =>
      obtain⟨u,rfl,huV⟩:=HPS.out.q t (List.mem_cons_self ..)
      obtain⟨m,rfl⟩:∃ m,gk=m+1:=⟨gk-1,by have:=HPS.out.meas;simp only[List.length_cons] at this;omega⟩
      obtain⟨g3,o3,c3,rfl,hc3,ct⟩:=HM.out.que.head
      obtain⟨n3,HN3⟩:∃ n3,Hid (n3=q.length+1):=⟨_,rfl⟩
      rw[← HN3.out] at HM hc3 ⊢
      have hb2:decide ((0:Int)<(n3:Int))=true:=by rw[decide_eq_true_eq];have:=HN3.out;omega
      have n1:(0:Int)<(n3:Int):=by have:=HN3.out;omega
      have n10:0<n3:=by have:=HN3.out;omega
      have u1:(0:Int)≤(u:Int):=by omega
      have u2:(u:Int)<(V:Int):=by omega
      obtain⟨r,HR1⟩:∃ r:Value×List Int,Hid (r=O.getD u (nilV,[])):=⟨_,rfl⟩
      have HR2:Hid (r.2=R u):=by show _=_;rw[HR1.out,HR.out];rfl
      have HI8:Hid (∀ A',(stA gP cP gH cH gO V P H O vC vI vT (.slice (some ⟨gA,0,none⟩) V V) C I T A').rows[8+u]? = some (rI r.1 r.2)):=fun A' => by
       rw[HR1.out]
       exact St.rows_out (s:=(stA gP cP gH cH gO V P H O vC vI vT (.slice (some ⟨gA,0,none⟩) V V) C I T A')) (v:=u) (by show u<O.length;omega)
      have cO:=HM.out.maker.rows.cell (i:=7) rfl rfl (j:=u) (by show u<O.length*1;omega)
      have cOv:w1.cell? ⟨gO,u,none⟩=some r.1:=by
       rw[cO]
       show(O.map Prod.fst)[u]? = some r.1
       rw[HR1.out]
       simp[List.getD,show u<O.length by omega]
      obtain⟨aR,cR,hrv⟩:=Rws.slice HM.out.maker.rows (HI8.out A1)
      simp only[rI] at hrv
      obtain⟨n,HN⟩:∃ n,Hid (n=r.2.length):=⟨_,rfl⟩
      have hn6:n≤6000:=by rw[HN.out,HR2.out];exact HRL.out u huV
      rw[hrv,← HN.out] at cOv
      have c7:w1.cell? ⟨G,7,none⟩=some (.slice (some ⟨gO,0,none⟩) V V):=HM.out.blk.cell 7
      have KF:=Lib.hid (fun w' (k:Since w1 w')=>(show w'.cell? ⟨G,7,none⟩=some (.slice (some ⟨gO,0,none⟩) V V)∧w'.cell? ⟨gO,u,none⟩=some (.slice aR n cR)∧w'.cell? ⟨g3,o3,none⟩=some (.int .i64 u) from⟨keepC k _ _ c7,keepC k _ _ cOv,keepC k _ _ ct⟩))
      have HRV1:=Lib.hid hrv
      clear cO cOv c7 ct hrv
      go_upto_region 9 with fail
      apply region_facts 11 (fun w' => Since w1 w')
      case hm=>kernel_rfl
      case hB=>kernel_rfl
      case hS=>exact(Since.rfl_ w1).drew
      case h =>
      simp only[List.take_succ_cons,List.take_zero,List.drop_succ_cons,List.drop_zero]
      iterate 11 (apply wpO_det;(case hw=>rfl);(case h=>intro hFm wx hS_ hF_ K hK;go_big_quiet_op;first | exact hK _ rfl | (apply Exists.intro;refine⟨fun _=>?_,?_⟩;(focus (first | (intro hC;have hC:=KF.out _ hC.out.1;(try simp only[hC,Result.andThen]);first | exact⟨True.intro,rfl⟩ | exact⟨rfl,rfl⟩ | rfl)));exact hK _ rfl));(case' k=>simp only[Act.put,List.setIfInBounds_toArray,List.set_cons_succ,List.set_cons_zero,List.cons_append,List.nil_append]))
      refine wpO_nil ?_
      intro w2 hS hF hB
      (try simp[allF] at hF)
      (try simp[List.pairwise_cons] at hB)
      clear hF hB
      have HS2:Hid (Since w0 w2):=HS.out.trans hS
      have HM2:Hid (MkQ w2 G (stA gP cP gH cH gO V P H O vC vI vT (.slice (some ⟨gA,0,none⟩) V V) C I T (prtI te k (r.2.take 0) (A1,(u:Int) :: q)).1) (.slice (some ⟨g3,o3,none⟩) n3 c3) (prtI te k (r.2.take 0) (A1,(u:Int) :: q)).2 (V-(m+1))):=HM.out.since hS
      clear hS HS HM KF hb2 n1 u1 u2 hc3
      go_wp2_with fail
      go_loopg [3,58] n (fun gj v3 v58 wr=>∃ j,j+gj=n∧v58=.int .i64 (j:Nat)∧Hid (Since w0 wr)∧Hid (MkQ wr G (stA gP cP gH cH gO V P H O vC vI vT (.slice (some ⟨gA,0,none⟩) V V) C I T (prtI te k (r.2.take j) (A1,(u:Int) :: q)).1) v3 (prtI te k (r.2.take j) (A1,(u:Int) :: q)).2 (V-(m+1))))
      case atStart=>exact⟨0,by omega,by go_num,HS2,HM2⟩
      case round =>
       clear HS2 HM2
       obtain⟨j,hj,rfl,HS,HM⟩:=hrel
       have hjn:j≤n:=by omega
       obtain⟨w3,rfl⟩:∃ w3,w3=wr:=⟨_,rfl⟩
       rcases Nat.lt_or_ge j n with hlt2 | hge2
       ·have hz2:decide ((j:Int)<(n:Int))=true:=by rw[decide_eq_true_eq];omega
        have HTK:=prtI_take (te:=te) (v:=(k:Int)) (l:=r.2) (j:=j) (by rw[← HN.out];exact hlt2) (A1,(u:Int) :: q)
        have HPJ:=prtI_ok (te:=te) (v:=(k:Int)) (by omega) (r.2.take j) _ (fun x hx=>HRV.out u huV x (by rw[← HR2.out];exact List.mem_of_mem_take hx)) HPS.out
        obtain⟨l1,hl1⟩:=prtI_grow (te:=te) (v:=(k:Int)) (r.2.take j) (A1,(u:Int) :: q)
        have hq1:0<(prtI te k (r.2.take j) (A1,(u:Int) :: q)).2.length:=by rw[hl1];simp
        obtain⟨s1,HS1⟩:∃ s1,Hid (s1=prtI te k (r.2.take j) (A1,(u:Int) :: q)):=⟨_,rfl⟩
        rw[← HS1.out] at HTK HPJ hq1 HM
        have HTK:=Lib.hid HTK
        have HPJ:=Lib.hid HPJ
        clear hl1
        obtain⟨h,hx,ht,hte,hteV⟩:=HT.out u huV (iAt r.2 j) (by rw[← HR2.out];exact iAt_mem (by rw[← HN.out];exact hlt2))
        obtain⟨b,HBB⟩:∃ b,Hid (b=te (iAt r.2 j)):=⟨_,rfl⟩
        rw[← HBB.out] at hte hteV
        rw[← HBB.out] at HTK
        have HTE:=Lib.hid hte
        obtain⟨gR,cR',hrv2⟩:=HM.out.maker.rows.some_ (HI8.out s1.1) (by show 0<r.2.length;rw[← HN.out];omega)
        simp only[rI] at hrv2
        have e1:=HRV1.out.symm.trans hrv2
        injection e1 with e1 _ e2
        subst e1
        subst e2
        have hi8:=HI8.out s1.1
        rw[hrv2] at hi8
        have cx:=rowI_at HM.out.maker.rows hi8 (j:=j) (by rw[← HN.out];exact hlt2)
        rw[hx] at cx
        have HTO:Hid (Calls Tryz.prog 92 #[.pointer (some ⟨G,0,none⟩),.int .i64 h] w3 fun e w' => e=.returned (.int .i64 b)∧w' = w3):=by
         have:=To_any (HM.out.maker.see (gP:=gP) (cP:=cP) (gH:=gH) (cH:=cH) rfl rfl) h ht (by have:=HHL.out;show H.length≤_;omega)
         rw[show(stA gP cP gH cH gO V P H O vC vI vT (.slice (some ⟨gA,0,none⟩) V V) C I T s1.1).H=H from rfl,HTE.out] at this
         exact this
        have c6:w3.cell? ⟨G,6,none⟩=some (.slice (some ⟨gA,0,none⟩) V V):=HM.out.blk.cell 6
        have cb:w3.cell? ⟨gA,b,none⟩=some (.int .i64 (iAt s1.1 b)):=rowI_at HM.out.maker.rows (i:=6) rfl (by show b<s1.1.length;rw[HPJ.out.len];exact hteV)
        obtain⟨y,HY⟩:∃ y,Hid (y=iAt s1.1 b):=⟨_,rfl⟩
        rw[← HY.out] at cb HTK
        have j1:(0:Int)≤(j:Int):=by omega
        have j2:(j:Int)<(n:Int):=by omega
        have b1:(0:Int)≤(b:Int):=by omega
        have b2:(b:Int)<(V:Int):=by omega
        clear hi8 hrv2 hte ht hx
        by_cases hyn:y<0
        ·have hb3:decide (y<0)=true:=decide_eq_true hyn
         go_upto_region 14 with(go_at_call 92;refine HTO.out.mono ?_;rintro e w4 ⟨rfl,rfl⟩;clear HTO)
         obtain⟨a3,c3',hv3,-⟩:=HM.out.que
         subst hv3
         have f6:=HM.out.maker.rows.frozen (i:=6) rfl rfl b
         have hst:=HM.out.que.store (i:=6) rfl rfl (j:=b) (by show b<s1.1.length*1;rw[HPJ.out.len];omega) (iV k)
         have hge6:=HM.out.maker.rows.ge (i:=6) rfl (g:=gA) rfl
         have hrw:=stA_A (gP:=gP) (cP:=cP) (gH:=gH) (cH:=cH) (gO:=gO) (V:=V) (g:=gA) (n:=V) (P:=P) (H:=H) (O:=O) (vC:=vC) (vI:=vI) (vT:=vT) (C:=C) (I:=I) (T:=T) (A:=s1.1) (j:=b) (k:Int)
         have hst3:QueS (w4.setCell ⟨gA,b,none⟩ (.int .i64 k)) (G+1) (stA gP cP gH cH gO V P H O vC vI vT (.slice (some ⟨gA,0,none⟩) V V) C I T (s1.1.set b k)).rows (.slice a3 s1.2.length c3') s1.2 (V-(m+1)):=by
          rw[← hrw];exact hst
         have HW4:=Lib.hid (And.intro (HS.out.setCell (p:=⟨gA,b,none⟩) (by dsimp only;omega) (.int .i64 k)) (show MkQ (w4.setCell ⟨gA,b,none⟩ (.int .i64 k)) G (stA gP cP gH cH gO V P H O vC vI vT (.slice (some ⟨gA,0,none⟩) V V) C I T (s1.1.set b k)) (.slice a3 s1.2.length c3') s1.2 (V-(m+1)) from⟨HM.out.blk.far (p:=⟨gA,b,none⟩) (by dsimp only;omega) (.int .i64 k),hst3⟩))
         clear hst hst3
         go_upto_region 15 with fail
         refine atW (fun w' => Hid (Since w0 w' ∧ MkQ w' G (stA gP cP gH cH gO V P H O vC vI vT (.slice (some ⟨gA,0,none⟩) V V) C I T (s1.1.set b k)) (.slice a3 s1.2.length c3') s1.2 (V-(m+1)))) HW4 ?_
         clear HW4 c6 cb cx f6 hge6 hrw HS HM
         rintro w5 HW5
         have hB5:G+1≤w5.heap.size:=HW5.out.2.maker.lt
         have hms:=HPJ.out.meas
         have HPU:Hid (∀ ty,∃ v' w',(Builtin.append_ #[22,22] ty #[.slice a3 s1.2.length c3',.slice (some ⟨w5.heap.size,0,none⟩) 1 1]).run Tryz.prog (w5.alloc (.cells #[.int .i64 b] 3))=.ok v' w' ∧ (QueS w' (G+1) (stA gP cP gH cH gO V P H O vC vI vT (.slice (some ⟨gA,0,none⟩) V V) C I T (s1.1.set b k)).rows v' (s1.2++[(b:Int)]) (V-(m+1))∧∃ g,(w5.alloc (.cells #[.int .i64 b] 3)).grownBy w' (some g)∧G+1≤g)):=fun ty=>by
          obtain⟨v',w',h1,h2,h3⟩:=(HW5.out.2.que.since ((Since.rfl_ w5).alloc (.cells #[.int .i64 b] 3))).push (c2:=1) (x:=b) (ad:=⟨w5.heap.size,0,none⟩) ty hq1 (by simp;omega) (blk1 (Blk.new w5 _ _)) (by omega)
          exact⟨v',w',h1,h2,h3⟩
         go_wp2_with (at_builtin;refine wpList_append_suf rfl _ _ rfl rfl rfl (HPU.out _) ?_)
         rintro v' w6 hq6 g6 hgr6 hg6
         have HM6:Hid (MkQ w6 G (stA gP cP gH cH gO V P H O vC vI vT (.slice (some ⟨gA,0,none⟩) V V) C I T (s1.1.set b k)) v' (s1.2++[(b:Int)]) (V-(m+1))):=⟨(hgr6.block G (by simp;omega) (fun e=>by injection e;omega)).trans (((Since.rfl_ w5).alloc _).blk HW5.out.2.blk),hq6⟩
         have HS6:Hid (Since w0 w6):=since_grown (HW5.out.1.alloc _) hgr6 (by omega)
         clear hq6 hgr6 HPU HW5 hms
         go_wp2_with fail
         go_roundg (gk-1)
         case measure=>omega
         case rel=>exact⟨j+1,by omega,by go_num,HS6,by rw[HTK.out,if_pos hyn];exact HM6⟩
        ·have hb3:decide (y<0)=false:=decide_eq_false hyn
         go_wp2_with (go_at_call 92;refine HTO.out.mono ?_;rintro e w4 ⟨rfl,rfl⟩;clear HTO)
         go_roundg (gk-1)
         case measure=>omega
         case rel=>exact⟨j+1,by omega,by go_num,HS,by rw[HTK.out,if_neg (by omega)];exact HM⟩
       ·obtain rfl:j=n:=by omega
        have hz2:decide ((j:Int)<(j:Int))=false:=by rw[decide_eq_false_iff_not];omega
        obtain⟨l1,hl1⟩:=prtI_grow (te:=te) (v:=(k:Int)) (R u) (A1,(u:Int) :: q)
        rw[show r.2.take j=R u by rw[HN.out,List.take_length,HR2.out],hl1] at HM
        have HPN:=prtS_next (te:=te) (v:=(k:Int)) (R:=R) (by omega) HRV.out HPS.out
        rw[Int.toNat_natCast,hl1] at HPN
        have HFI2:Hid (prtQ te R k m ((prtI te k (R u) (A1,(u:Int) :: q)).1,((u:Int) :: q++l1).drop 1)=prtK te R V (k+1)):=by
         show _=_
         rw[← HFI.out,← hl1]
         rfl
        obtain⟨B1,HB1⟩:∃ B1,Hid (B1=(prtI te k (R u) (A1,(u:Int) :: q)).1):=⟨_,rfl⟩
        obtain⟨q2,HQ2⟩:∃ q2,Hid (q2=q++l1):=⟨_,rfl⟩
        simp only[List.cons_append,List.drop_succ_cons,List.drop_zero] at HM HPN HFI2
        rw[← HB1.out,← HQ2.out] at HM HPN HFI2
        have HPN:=Lib.hid HPN
        clear hl1
        obtain⟨g4,o4,c4,rfl,hc4,-⟩:=HM.out.que.head
        obtain⟨n4,HN4⟩:∃ n4,Hid (n4=q2.length+1):=⟨_,rfl⟩
        have HMT:Hid (∀ a,(1<c4→a=some ⟨g4,o4+1,none⟩)→MkQ w3 G (stA gP cP gH cH gO V P H O vC vI vT (.slice (some ⟨gA,0,none⟩) V V) C I T B1) (.slice a (n4-1) (c4-1)) q2 (V-m)):=fun a h=>by
         refine⟨HM.out.blk,?_⟩
         rw[show n4-1=q2.length by have:=HN4.out;omega,show V-m=V-(m+1)+1 by omega]
         exact HM.out.que.tail a h
        rw[← HN4.out]
        have n41:(1:Int)≤(n4:Int):=by have:=HN4.out;omega
        rw[← HN4.out] at hc4
        have n40:1≤n4:=by have:=HN4.out;omega
        clear HM HN4
        go_wp2_with fail
        ·go_roundg m
         case measure=>omega
         case rel=>exact⟨B1,q2,by omega,HS,by rename_i e;have:=HMT.out (some ⟨g4,o4,none⟩) (fun k=>by omega);rw[show c4-1=0 by omega] at this;exact this,HPN,HFI2⟩
        ·go_roundg m
         case measure=>omega
         case rel=>exact⟨B1,q2,by omega,HS,HMT.out _ (fun _=>rfl),HPN,HFI2⟩
  ·obtain rfl:k=V:=by omega
   have hz:decide ((k:Int)<(k:Int))=false:=by rw[decide_eq_false_iff_not];omega
   go_wp2_with fail
   go_end0
   exact⟨rfl,HS.out,gA,HM.out⟩
end
section
open Go.RowKit Go.BigFrame
attribute [local go_sem ↓] eqPt neqPt
structure Way(N V:Nat)(P:List Pt2)(fr nxn:Nat→Nat):Prop where
 le:N≤6000
 vle:V≤6000
 len:P.length=V
 perm:PermN N nxn
 fr_lt:∀ g,g<N→fr g<V
 tw_lt:∀ g,g<N→twN g<N
set_option maxRecDepth 100000 in
set_option maxHeartbeats 8000000 in
theorem Inside_any(G gP cP gH cH gI cI nI c N V h0:Nat)(P:List Pt2)(fr nxn:Nat→Nat)(fc:Nat→Int)(px py:Int)(w:World)(HWY:Way N V P fr nxn)(hsee:See w G gP cP gH cH P (mkH N fr (fun g=>nxn g) fc))(hn:∀ g,g<N→w.cell? ⟨gH,g*4+2,none⟩=some (.int .i64 (nxn g:Nat)))
  (c4:w.cell? ⟨G,4,none⟩=some (.slice (some ⟨gI,0,none⟩) nI cI)) (hc:c<nI) (cc:w.cell? ⟨gI,c,none⟩=some (.int .i64 (h0:Nat))) (h0N:h0<N) :
  Calls Tryz.prog 94 #[.pointer (some ⟨G,0,none⟩),.int .i64 c,.agg #[.int .i64 px,.int .i64 py]] w fun e w' => e=.returned (.bool (insV P fr nxn (px,py) h0))∧Since w w' := by
 obtain⟨n,hr,hnN⟩:=HWY.perm.round h0N
 have hres:=insV_eq (P:=P) (fr:=fr) (p:=(px,py)) hr
 have HWY:=Lib.hid HWY
 have HR:=Lib.hid hr
 have HRES:=Lib.hid hres
 have HSE:=Lib.hid hsee
 have HN:=Lib.hid hn
 have hn6:n≤6000:=by have:=HWY.out.le;omega
 have hn1:0<n:=hr.1
 have C4:=Lib.hid c4
 have CC:=Lib.hid cc
 have hw:w.heap.size≤w.heap.size:=Nat.le_refl _
 have HSZ:Hid (Blk (w.alloc (.cells #[.int .i64 px,.int .i64 py] 36)) w.heap.size 36 #[.int .i64 px,.int .i64 py]):=Blk.new w _ _
 have HS1:Hid (Since w (w.alloc (.cells #[.int .i64 px,.int .i64 py] 36))):=(Since.rfl_ w).alloc _
 have k1:(0:Int)≤(c:Int):=by omega
 have k2:(c:Int)<(nI:Int):=by omega
 have c41:=keepC HS1.out _ _ c4
 have cc1:=keepC HS1.out _ _ cc
 clear hres hr hsee hn c4 cc hw
 go_enter Tryz.func94,Tryz.ntmps94
 obtain⟨B,HB⟩:∃ B,Hid (B=w.heap.size):=⟨_,rfl⟩
 go_wp2_with fail
 clear c41 cc1
 generalize hW1:w.alloc (.cells #[.int .i64 px,.int .i64 py] 36)=w1 at HSZ HS1
 rw[← HB.out] at HSZ ⊢
 clear hW1
 go_loopg [7,8] n (fun gm v7 v8 wr=>∃ (i:Nat),i+gm=n∧i<n∧v7=.bool (insI P fr nxn (px,py) h0 i)∧v8=.int .i64 ((itN nxn h0 i:Nat):Int)∧Hid (Since w wr)∧Hid (Blk wr B 36 #[.int .i64 px,.int .i64 py]))
 case atStart=>exact⟨0,by omega,by omega,rfl,rfl,HS1,HSZ⟩
 case round =>
  clear HSZ HS1
  obtain⟨i,hgk,hin,rfl,rfl,HS,HBP⟩:=hrel
  obtain⟨w3,rfl⟩:∃ w3,w3=wr:=⟨_,rfl⟩
  obtain⟨g,HGG⟩:∃ g,Hid (g=itN nxn h0 i):=⟨_,rfl⟩
  rw[← HGG.out]
  have hgN:g<N:=by rw[HGG.out];exact it_lt HWY.out.perm h0N i
  have HSW:=Lib.hid (HSE.out.since HS.out)
  obtain⟨u,hu⟩:∃ u,Hid (u=fr g):=⟨_,rfl⟩
  obtain⟨v,hv⟩:∃ v,Hid (v=fr (twN g)):=⟨_,rfl⟩
  have htg:twN g<N:=HWY.out.tw_lt g hgN
  have huV:u<V:=by rw[hu.out];exact HWY.out.fr_lt g hgN
  have hvV:v<V:=by rw[hv.out];exact HWY.out.fr_lt _ htg
  have hPL:=HWY.out.len
  obtain⟨a,ha⟩:∃ a,Hid (a=pAt P u):=⟨_,rfl⟩
  obtain⟨b,hb⟩:∃ b,Hid (b=pAt P v):=⟨_,rfl⟩
  have HCR:Hid (crsB P fr (px,py) g=((decide (a.2≤py) != decide (b.2≤py)) && (decide (0<turnV a.1 a.2 b.1 b.2 px py) == decide (a.2<b.2)))):=by
   show _=_
   rw[ha.out,hb.out,hu.out,hv.out];rfl
  have HTO:Hid (∀ w',Since w3 w' → Calls Tryz.prog 92 #[.pointer (some ⟨G,0,none⟩),.int .i64 g] w' fun e w'' => e=.returned (.int .i64 v)∧w'' = w'):=fun w' k=>by
   have:=To_any (HSW.out.since k) g (by rw[mkH_len];exact htg) (by rw[mkH_len];have:=HWY.out.le;omega)
   rw[mkH_at htg,← hv.out] at this
   exact this
  have c0:w3.cell? ⟨G,0,none⟩=some (.slice (some ⟨gP,0,none⟩) V cP):=by rw[HSW.out.c0,hPL]
  have c1:w3.cell? ⟨G,1,none⟩=some (.slice (some ⟨gH,0,none⟩) N cH):=by rw[HSW.out.c1,mkH_len]
  have cu:w3.cell? ⟨gH,g*4,none⟩=some (.int .i64 u):=by
   rw[HSW.out.h g (by rw[mkH_len];exact hgN),mkH_at hgN,← hu.out]
  obtain⟨p0,p1⟩:=HSW.out.p u (by omega)
  obtain⟨q0,q1⟩:=HSW.out.p v (by omega)
  rw[← ha.out] at p0 p1
  rw[← hb.out] at q0 q1
  have KF:=Lib.hid (fun w' (k:Since w3 w')=>(show w'.cell? ⟨G,0,none⟩=some (.slice (some ⟨gP,0,none⟩) V cP)∧w'.cell? ⟨G,1,none⟩=some (.slice (some ⟨gH,0,none⟩) N cH)∧w'.cell? ⟨gH,g*4,none⟩=some (.int .i64 u)∧w'.cell? ⟨gP,u*2,none⟩=some (.int .i64 a.1)∧w'.cell? ⟨gP,u*2+1,none⟩=some (.int .i64 a.2)∧w'.cell? ⟨gP,v*2,none⟩=some (.int .i64 b.1)∧w'.cell? ⟨gP,v*2+1,none⟩=some (.int .i64 b.2) from
   ⟨keepC k _ _ c0,keepC k _ _ c1,keepC k _ _ cu,keepC k _ _ p0,keepC k _ _ p1,keepC k _ _ q0,keepC k _ _ q1⟩))
  have u1:(0:Int)≤(u:Int):=by omega
  have u2:(u:Int)<(V:Int):=by omega
  have v1:(0:Int)≤(v:Int):=by omega
  have v2:(v:Int)<(V:Int):=by omega
  have g1:(0:Int)≤(g:Int):=by omega
  have g2:(g:Int)<(N:Int):=by omega
  clear c0 c1 cu p0 p1 q0 q1 hPL
  obtain⟨ax,ay⟩:=a
  obtain⟨bx,by_⟩:=b
  dsimp only at KF HCR
  go_upto_region 3 with fail
  apply region_factsF 30 (fun w' => Since w3 w')
  case hm=>kernel_rfl
  case hB=>kernel_rfl
  case hS=>exact(Since.rfl_ w3).drew
  case hmono=>exact(fun a b h k=>Below.trans h k)
  case h =>
  simp only[List.take_succ_cons,List.take_zero,List.drop_succ_cons,List.drop_zero]
  iterate 23 (apply wpO_detF;(case hw=>rfl);(case h=>intro hFm wx hS_ hF_ hbx K hK;go_big_quiet_op;first | exact hK _ rfl | (apply Exists.intro;refine⟨fun _=>?_,?_⟩;(focus (first | (intro hC;have hC:=KF.out _ hC.out.1;(try simp only[hC,Result.andThen]);first | exact⟨True.intro,rfl⟩ | exact⟨rfl,rfl⟩ | rfl)));exact hK _ rfl));(case' k=>simp only[Act.put,List.setIfInBounds_toArray,List.set_cons_succ,List.set_cons_zero,List.cons_append,List.nil_append]))
  (apply wpO_detF;(case hw=>rfl);(case h=>intro hFm wx hS_ hF_ hbx K hK;go_big_quiet_op;first | exact hK _ rfl | (apply Exists.intro;refine⟨fun _=>?_,?_⟩;(focus (first | (intro hC;go_at_call 92;refine(HTO.out _ hC.out.1).mono ?_;rintro e w' ⟨rfl,rfl⟩;exact⟨rfl,hC⟩)));exact hK _ rfl));(case' k=>simp only[Act.put,List.setIfInBounds_toArray,List.set_cons_succ,List.set_cons_zero,List.cons_append,List.nil_append]))
  iterate 2 (apply wpO_detF;(case hw=>rfl);(case h=>intro hFm wx hS_ hF_ hbx K hK;go_big_quiet_op;first | exact hK _ rfl | (apply Exists.intro;refine⟨fun _=>?_,?_⟩;(focus (first | (intro hC;have hC:=KF.out _ hC.out.1;(try simp only[hC,Result.andThen]);first | exact⟨True.intro,rfl⟩ | exact⟨rfl,rfl⟩ | rfl)));exact hK _ rfl));(case' k=>simp only[Act.put,List.setIfInBounds_toArray,List.set_cons_succ,List.set_cons_zero,List.cons_append,List.nil_append]))
  apply wpO_mkfF (f:=fun g=>.pointer (some ⟨g,0,none⟩)) (t:=36) (cs := #[.int .i64 0,.int .i64 0])
  case hi=>(intro g g' h;simpa using h)
  case hw=>rfl
  case h=>(intro w;simp[go_sem])
  case k =>
  intro x8
  simp only[Act.put,List.setIfInBounds_toArray,List.set_cons_succ,List.set_cons_zero,List.cons_append,List.nil_append]
  apply wpO_mkfF (f:=fun g=>.pointer (some ⟨g,0,none⟩)) (t:=36) (cs := #[.int .i64 0,.int .i64 0])
  case hi=>(intro g g' h;simpa using h)
  case hw=>rfl
  case h=>(intro w;simp[go_sem])
  case k =>
  intro x9
  simp only[Act.put,List.setIfInBounds_toArray,List.set_cons_succ,List.set_cons_zero,List.cons_append,List.nil_append]
  apply wpO_fillF (j:=26) (t:=36) (cs := #[.int .i64 ax,.int .i64 ay]) x8
  case hT=>rfl
  case hj=>decide
  case hw=>rfl
  case hd=>rfl
  case hp=>decide
  case h =>
   intro w' hS_ hF_
   obtain⟨⟨cs',hcs,hb⟩,hg⟩:=factsOf_at (j:=26) (by decide) hF_
   obtain⟨x,y,rfl⟩:=two_of_size hcs
   refine⟨_,_,hg,hb,rfl,?_,(fill2 (.int .i64 ax) (.int .i64 ay) hb).1,(fill2 (.int .i64 ax) (.int .i64 ay) hb).2⟩
   have c0:=hb.cell 0
   have c1:=hb.cell 1
   have f0:=hb.frozen 0
   have f1:=hb.frozen 1
   simp only[List.getElem?_toArray,List.getElem?_cons_zero,List.getElem?_cons_succ] at c0 c1
   simp[go_sem,c0,c1,f0,f1,cSetS,cSetO]
  case k =>
  simp only[Act.put,List.setIfInBounds_toArray,List.set_cons_succ,List.set_cons_zero,List.cons_append,List.nil_append]
  apply wpO_fillF (j:=27) (t:=36) (cs := #[.int .i64 bx,.int .i64 by_]) x9
  case hT=>rfl
  case hj=>decide
  case hw=>rfl
  case hd=>rfl
  case hp=>decide
  case h =>
   intro w' hS_ hF_
   obtain⟨⟨cs',hcs,hb⟩,hg⟩:=factsOf_at (j:=27) (by decide) hF_
   obtain⟨x,y,rfl⟩:=two_of_size hcs
   refine⟨_,_,hg,hb,rfl,?_,(fill2 (.int .i64 bx) (.int .i64 by_) hb).1,(fill2 (.int .i64 bx) (.int .i64 by_) hb).2⟩
   have c0:=hb.cell 0
   have c1:=hb.cell 1
   have f0:=hb.frozen 0
   have f1:=hb.frozen 1
   simp only[List.getElem?_toArray,List.getElem?_cons_zero,List.getElem?_cons_succ] at c0 c1
   simp[go_sem,c0,c1,f0,f1,cSetS,cSetO]
  case k =>
  simp only[Act.put,List.setIfInBounds_toArray,List.set_cons_succ,List.set_cons_zero,List.cons_append,List.nil_append]
  refine wpO_nilF ?_
  intro w5 hS hF hB
  (try simp[allF] at hF)
  (try simp[List.pairwise_cons] at hB)
  obtain⟨-,-,⟨k5,-⟩,k6,-⟩:=hF
  have HS5:Hid (Since w w5):=HS.out.trans hS
  have HBP5:=Lib.hid (hS.blk HBP.out)
  have HK5:=Lib.hid k5
  have HK6:=Lib.hid k6
  clear k5 k6 hS hB KF HTO HS HBP HSW
  have KF:=Lib.hid (fun w' (k:Since w5 w')=>(show w'.cell? ⟨x8,0,none⟩=some (.int .i64 ax)∧w'.cell? ⟨x8,1,none⟩=some (.int .i64 ay)∧w'.cell? ⟨x9,0,none⟩=some (.int .i64 bx)∧w'.cell? ⟨x9,1,none⟩=some (.int .i64 by_)∧w'.cell? ⟨B,0,none⟩=some (.int .i64 px)∧w'.cell? ⟨B,1,none⟩=some (.int .i64 py) from
   ⟨(k.blk HK5.out).cell 0,(k.blk HK5.out).cell 1,(k.blk HK6.out).cell 0,(k.blk HK6.out).cell 1,(k.blk HBP5.out).cell 0,(k.blk HBP5.out).cell 1⟩))
  go_upto_region 4 with fail
  go_cut [67] from 44 to 88 (fun v67 w' => v67=.bool (crsB P fr (px,py) g)∧Since w5 w')
  case first =>
   obtain⟨tv,HTV⟩:∃ tv,Hid (tv=turnV ax ay bx by_ px py):=⟨_,rfl⟩
   have HTN:Hid (∀ w',Calls Tryz.prog 52 #[.agg #[.int .i64 ax,.int .i64 ay],.agg #[.int .i64 bx,.int .i64 by_],.agg #[.int .i64 px,.int .i64 py]] w' fun e w'' => e=.returned (.int .i64 tv)∧Since w' w''):=fun w' => by
    rw[HTV.out];exact Turn_any _ _ _ _ _ _ _
   rw[← HTV.out] at HCR
   cases hA:decide (ay≤py) <;> cases hD:decide (by_≤py)
   case false.false =>
    apply region_facts 24 (fun w' => Since w5 w')
    case hm=>kernel_rfl
    case hB=>kernel_rfl
    case hS=>exact(Since.rfl_ w5).drew
    case h =>
    simp only[List.take_succ_cons,List.take_zero,List.drop_succ_cons,List.drop_zero]
    iterate 12 (apply wpO_det;(case hw=>rfl);(case h=>intro hFm wx hS_ hF_ K hK;go_big_quiet_op;first | exact hK _ rfl | (apply Exists.intro;refine⟨fun _=>?_,?_⟩;(focus (first | (intro hC;have hC:=KF.out _ hC.out.1;(try simp only[hC,Result.andThen]);first | exact⟨True.intro,rfl⟩ | exact⟨rfl,rfl⟩ | rfl)));exact hK _ rfl));(case' k=>simp only[Act.put,List.setIfInBounds_toArray,List.set_cons_succ,List.set_cons_zero,List.cons_append,List.nil_append]))
    apply wpO_skip
    case hw=>rfl
    case k =>
    simp only[Act.put,List.setIfInBounds_toArray,List.set_cons_succ,List.set_cons_zero,List.cons_append,List.nil_append]
    apply wpO_skip
    case hw=>rfl
    case k =>
    simp only[Act.put,List.setIfInBounds_toArray,List.set_cons_succ,List.set_cons_zero,List.cons_append,List.nil_append]
    apply wpO_skip
    case hw=>rfl
    case k =>
    simp only[Act.put,List.setIfInBounds_toArray,List.set_cons_succ,List.set_cons_zero,List.cons_append,List.nil_append]
    apply wpO_skip
    case hw=>rfl
    case k =>
    simp only[Act.put,List.setIfInBounds_toArray,List.set_cons_succ,List.set_cons_zero,List.cons_append,List.nil_append]
    apply wpO_skip
    case hw=>rfl
    case k =>
    simp only[Act.put,List.setIfInBounds_toArray,List.set_cons_succ,List.set_cons_zero,List.cons_append,List.nil_append]
    apply wpO_skip
    case hw=>rfl
    case k =>
    simp only[Act.put,List.setIfInBounds_toArray,List.set_cons_succ,List.set_cons_zero,List.cons_append,List.nil_append]
    apply wpO_skip
    case hw=>rfl
    case k =>
    simp only[Act.put,List.setIfInBounds_toArray,List.set_cons_succ,List.set_cons_zero,List.cons_append,List.nil_append]
    apply wpO_skip
    case hw=>rfl
    case k =>
    simp only[Act.put,List.setIfInBounds_toArray,List.set_cons_succ,List.set_cons_zero,List.cons_append,List.nil_append]
    apply wpO_skip
    case hw=>rfl
    case k =>
    simp only[Act.put,List.setIfInBounds_toArray,List.set_cons_succ,List.set_cons_zero,List.cons_append,List.nil_append]
    apply wpO_skip
    case hw=>rfl
    case k =>
    simp only[Act.put,List.setIfInBounds_toArray,List.set_cons_succ,List.set_cons_zero,List.cons_append,List.nil_append]
    apply wpO_skip
    case hw=>rfl
    case k =>
    simp only[Act.put,List.setIfInBounds_toArray,List.set_cons_succ,List.set_cons_zero,List.cons_append,List.nil_append]
    (apply wpO_det;(case hw=>rfl);(case h=>intro hFm wx hS_ hF_ K hK;go_big_quiet_op;first | exact hK _ rfl | (apply Exists.intro;refine⟨fun _=>?_,?_⟩;(focus (first | (intro hC;have hC:=hC.out;(try simp only[hC,Result.andThen]);first | exact⟨True.intro,rfl⟩ | exact⟨rfl,rfl⟩ | rfl)));exact hK _ rfl));(case' k=>simp only[Act.put,List.setIfInBounds_toArray,List.set_cons_succ,List.set_cons_zero,List.cons_append,List.nil_append]))
    refine wpO_nil ?_
    intro w6 hS hF hB
    (try simp[allF] at hF)
    (try simp[List.pairwise_cons] at hB)
    clear hF hB
    go_wp2_with fail
    go_meet
    exact⟨by rw[HCR.out,hA,hD];rfl,hS⟩
   case true.true =>
    apply region_facts 24 (fun w' => Since w5 w')
    case hm=>kernel_rfl
    case hB=>kernel_rfl
    case hS=>exact(Since.rfl_ w5).drew
    case h =>
    simp only[List.take_succ_cons,List.take_zero,List.drop_succ_cons,List.drop_zero]
    iterate 12 (apply wpO_det;(case hw=>rfl);(case h=>intro hFm wx hS_ hF_ K hK;go_big_quiet_op;first | exact hK _ rfl | (apply Exists.intro;refine⟨fun _=>?_,?_⟩;(focus (first | (intro hC;have hC:=KF.out _ hC.out.1;(try simp only[hC,Result.andThen]);first | exact⟨True.intro,rfl⟩ | exact⟨rfl,rfl⟩ | rfl)));exact hK _ rfl));(case' k=>simp only[Act.put,List.setIfInBounds_toArray,List.set_cons_succ,List.set_cons_zero,List.cons_append,List.nil_append]))
    apply wpO_skip
    case hw=>rfl
    case k =>
    simp only[Act.put,List.setIfInBounds_toArray,List.set_cons_succ,List.set_cons_zero,List.cons_append,List.nil_append]
    apply wpO_skip
    case hw=>rfl
    case k =>
    simp only[Act.put,List.setIfInBounds_toArray,List.set_cons_succ,List.set_cons_zero,List.cons_append,List.nil_append]
    apply wpO_skip
    case hw=>rfl
    case k =>
    simp only[Act.put,List.setIfInBounds_toArray,List.set_cons_succ,List.set_cons_zero,List.cons_append,List.nil_append]
    apply wpO_skip
    case hw=>rfl
    case k =>
    simp only[Act.put,List.setIfInBounds_toArray,List.set_cons_succ,List.set_cons_zero,List.cons_append,List.nil_append]
    apply wpO_skip
    case hw=>rfl
    case k =>
    simp only[Act.put,List.setIfInBounds_toArray,List.set_cons_succ,List.set_cons_zero,List.cons_append,List.nil_append]
    apply wpO_skip
    case hw=>rfl
    case k =>
    simp only[Act.put,List.setIfInBounds_toArray,List.set_cons_succ,List.set_cons_zero,List.cons_append,List.nil_append]
    apply wpO_skip
    case hw=>rfl
    case k =>
    simp only[Act.put,List.setIfInBounds_toArray,List.set_cons_succ,List.set_cons_zero,List.cons_append,List.nil_append]
    apply wpO_skip
    case hw=>rfl
    case k =>
    simp only[Act.put,List.setIfInBounds_toArray,List.set_cons_succ,List.set_cons_zero,List.cons_append,List.nil_append]
    apply wpO_skip
    case hw=>rfl
    case k =>
    simp only[Act.put,List.setIfInBounds_toArray,List.set_cons_succ,List.set_cons_zero,List.cons_append,List.nil_append]
    apply wpO_skip
    case hw=>rfl
    case k =>
    simp only[Act.put,List.setIfInBounds_toArray,List.set_cons_succ,List.set_cons_zero,List.cons_append,List.nil_append]
    apply wpO_skip
    case hw=>rfl
    case k =>
    simp only[Act.put,List.setIfInBounds_toArray,List.set_cons_succ,List.set_cons_zero,List.cons_append,List.nil_append]
    (apply wpO_det;(case hw=>rfl);(case h=>intro hFm wx hS_ hF_ K hK;go_big_quiet_op;first | exact hK _ rfl | (apply Exists.intro;refine⟨fun _=>?_,?_⟩;(focus (first | (intro hC;have hC:=hC.out;(try simp only[hC,Result.andThen]);first | exact⟨True.intro,rfl⟩ | exact⟨rfl,rfl⟩ | rfl)));exact hK _ rfl));(case' k=>simp only[Act.put,List.setIfInBounds_toArray,List.set_cons_succ,List.set_cons_zero,List.cons_append,List.nil_append]))
    refine wpO_nil ?_
    intro w6 hS hF hB
    (try simp[allF] at hF)
    (try simp[List.pairwise_cons] at hB)
    clear hF hB
    go_wp2_with fail
    go_meet
    exact⟨by rw[HCR.out,hA,hD];rfl,hS⟩
   case true.false =>
    have hL:decide (ay<by_)=true:=by
     rw[decide_eq_true_eq] at hA ⊢
     rw[decide_eq_false_iff_not] at hD
     omega
    cases hT:decide (0<tv)
    case false =>
     apply region_facts 24 (fun w' => Since w5 w')
     case hm=>kernel_rfl
     case hB=>kernel_rfl
     case hS=>exact(Since.rfl_ w5).drew
     case h =>
     simp only[List.take_succ_cons,List.take_zero,List.drop_succ_cons,List.drop_zero]
     iterate 15 (apply wpO_det;(case hw=>rfl);(case h=>intro hFm wx hS_ hF_ K hK;go_big_quiet_op;first | exact hK _ rfl | (apply Exists.intro;refine⟨fun _=>?_,?_⟩;(focus (first | (intro hC;have hC:=KF.out _ hC.out.1;(try simp only[hC,Result.andThen]);first | exact⟨True.intro,rfl⟩ | exact⟨rfl,rfl⟩ | rfl)));exact hK _ rfl));(case' k=>simp only[Act.put,List.setIfInBounds_toArray,List.set_cons_succ,List.set_cons_zero,List.cons_append,List.nil_append]))
     (apply wpO_det;(case hw=>rfl);(case h=>intro hFm wx hS_ hF_ K hK;go_big_quiet_op;first | exact hK _ rfl | (apply Exists.intro;refine⟨fun _=>?_,?_⟩;(focus (first | (intro hC;go_at_call 52;refine(HTN.out _).mono ?_;rintro e w' ⟨rfl,hb⟩;refine⟨rfl,?_⟩;exact cls_call hFm hC hb)));exact hK _ rfl));(case' k=>simp only[Act.put,List.setIfInBounds_toArray,List.set_cons_succ,List.set_cons_zero,List.cons_append,List.nil_append]))
     iterate 8 (apply wpO_det;(case hw=>rfl);(case h=>intro hFm wx hS_ hF_ K hK;go_big_quiet_op;first | exact hK _ rfl | (apply Exists.intro;refine⟨fun _=>?_,?_⟩;(focus (first | (intro hC;have hC:=KF.out _ hC.out.1;(try simp only[hC,Result.andThen]);first | exact⟨True.intro,rfl⟩ | exact⟨rfl,rfl⟩ | rfl)));exact hK _ rfl));(case' k=>simp only[Act.put,List.setIfInBounds_toArray,List.set_cons_succ,List.set_cons_zero,List.cons_append,List.nil_append]))
     refine wpO_nil ?_
     intro w6 hS hF hB
     (try simp[allF] at hF)
     (try simp[List.pairwise_cons] at hB)
     clear hF hB
     go_wp2_with fail
     go_meet
     exact⟨by rw[HCR.out,hA,hD,hL,hT];rfl,hS⟩
    case true =>
     apply region_facts 24 (fun w' => Since w5 w')
     case hm=>kernel_rfl
     case hB=>kernel_rfl
     case hS=>exact(Since.rfl_ w5).drew
     case h =>
     simp only[List.take_succ_cons,List.take_zero,List.drop_succ_cons,List.drop_zero]
     iterate 15 (apply wpO_det;(case hw=>rfl);(case h=>intro hFm wx hS_ hF_ K hK;go_big_quiet_op;first | exact hK _ rfl | (apply Exists.intro;refine⟨fun _=>?_,?_⟩;(focus (first | (intro hC;have hC:=KF.out _ hC.out.1;(try simp only[hC,Result.andThen]);first | exact⟨True.intro,rfl⟩ | exact⟨rfl,rfl⟩ | rfl)));exact hK _ rfl));(case' k=>simp only[Act.put,List.setIfInBounds_toArray,List.set_cons_succ,List.set_cons_zero,List.cons_append,List.nil_append]))
     (apply wpO_det;(case hw=>rfl);(case h=>intro hFm wx hS_ hF_ K hK;go_big_quiet_op;first | exact hK _ rfl | (apply Exists.intro;refine⟨fun _=>?_,?_⟩;(focus (first | (intro hC;go_at_call 52;refine(HTN.out _).mono ?_;rintro e w' ⟨rfl,hb⟩;refine⟨rfl,?_⟩;exact cls_call hFm hC hb)));exact hK _ rfl));(case' k=>simp only[Act.put,List.setIfInBounds_toArray,List.set_cons_succ,List.set_cons_zero,List.cons_append,List.nil_append]))
     iterate 8 (apply wpO_det;(case hw=>rfl);(case h=>intro hFm wx hS_ hF_ K hK;go_big_quiet_op;first | exact hK _ rfl | (apply Exists.intro;refine⟨fun _=>?_,?_⟩;(focus (first | (intro hC;have hC:=KF.out _ hC.out.1;(try simp only[hC,Result.andThen]);first | exact⟨True.intro,rfl⟩ | exact⟨rfl,rfl⟩ | rfl)));exact hK _ rfl));(case' k=>simp only[Act.put,List.setIfInBounds_toArray,List.set_cons_succ,List.set_cons_zero,List.cons_append,List.nil_append]))
     refine wpO_nil ?_
     intro w6 hS hF hB
     (try simp[allF] at hF)
     (try simp[List.pairwise_cons] at hB)
     clear hF hB
     go_wp2_with fail
     go_meet
     exact⟨by rw[HCR.out,hA,hD,hL,hT];rfl,hS⟩
   case false.true =>
    have hL:decide (ay<by_)=false:=by
     rw[decide_eq_true_eq] at hD
     rw[decide_eq_false_iff_not] at hA ⊢
     omega
    cases hT:decide (0<tv)
    case false =>
     apply region_facts 24 (fun w' => Since w5 w')
     case hm=>kernel_rfl
     case hB=>kernel_rfl
     case hS=>exact(Since.rfl_ w5).drew
     case h =>
     simp only[List.take_succ_cons,List.take_zero,List.drop_succ_cons,List.drop_zero]
     iterate 15 (apply wpO_det;(case hw=>rfl);(case h=>intro hFm wx hS_ hF_ K hK;go_big_quiet_op;first | exact hK _ rfl | (apply Exists.intro;refine⟨fun _=>?_,?_⟩;(focus (first | (intro hC;have hC:=KF.out _ hC.out.1;(try simp only[hC,Result.andThen]);first | exact⟨True.intro,rfl⟩ | exact⟨rfl,rfl⟩ | rfl)));exact hK _ rfl));(case' k=>simp only[Act.put,List.setIfInBounds_toArray,List.set_cons_succ,List.set_cons_zero,List.cons_append,List.nil_append]))
     (apply wpO_det;(case hw=>rfl);(case h=>intro hFm wx hS_ hF_ K hK;go_big_quiet_op;first | exact hK _ rfl | (apply Exists.intro;refine⟨fun _=>?_,?_⟩;(focus (first | (intro hC;go_at_call 52;refine(HTN.out _).mono ?_;rintro e w' ⟨rfl,hb⟩;refine⟨rfl,?_⟩;exact cls_call hFm hC hb)));exact hK _ rfl));(case' k=>simp only[Act.put,List.setIfInBounds_toArray,List.set_cons_succ,List.set_cons_zero,List.cons_append,List.nil_append]))
     iterate 8 (apply wpO_det;(case hw=>rfl);(case h=>intro hFm wx hS_ hF_ K hK;go_big_quiet_op;first | exact hK _ rfl | (apply Exists.intro;refine⟨fun _=>?_,?_⟩;(focus (first | (intro hC;have hC:=KF.out _ hC.out.1;(try simp only[hC,Result.andThen]);first | exact⟨True.intro,rfl⟩ | exact⟨rfl,rfl⟩ | rfl)));exact hK _ rfl));(case' k=>simp only[Act.put,List.setIfInBounds_toArray,List.set_cons_succ,List.set_cons_zero,List.cons_append,List.nil_append]))
     refine wpO_nil ?_
     intro w6 hS hF hB
     (try simp[allF] at hF)
     (try simp[List.pairwise_cons] at hB)
     clear hF hB
     go_wp2_with fail
     go_meet
     exact⟨by rw[HCR.out,hA,hD,hL,hT];rfl,hS⟩
    case true =>
     apply region_facts 24 (fun w' => Since w5 w')
     case hm=>kernel_rfl
     case hB=>kernel_rfl
     case hS=>exact(Since.rfl_ w5).drew
     case h =>
     simp only[List.take_succ_cons,List.take_zero,List.drop_succ_cons,List.drop_zero]
     iterate 15 (apply wpO_det;(case hw=>rfl);(case h=>intro hFm wx hS_ hF_ K hK;go_big_quiet_op;first | exact hK _ rfl | (apply Exists.intro;refine⟨fun _=>?_,?_⟩;(focus (first | (intro hC;have hC:=KF.out _ hC.out.1;(try simp only[hC,Result.andThen]);first | exact⟨True.intro,rfl⟩ | exact⟨rfl,rfl⟩ | rfl)));exact hK _ rfl));(case' k=>simp only[Act.put,List.setIfInBounds_toArray,List.set_cons_succ,List.set_cons_zero,List.cons_append,List.nil_append]))
     (apply wpO_det;(case hw=>rfl);(case h=>intro hFm wx hS_ hF_ K hK;go_big_quiet_op;first | exact hK _ rfl | (apply Exists.intro;refine⟨fun _=>?_,?_⟩;(focus (first | (intro hC;go_at_call 52;refine(HTN.out _).mono ?_;rintro e w' ⟨rfl,hb⟩;refine⟨rfl,?_⟩;exact cls_call hFm hC hb)));exact hK _ rfl));(case' k=>simp only[Act.put,List.setIfInBounds_toArray,List.set_cons_succ,List.set_cons_zero,List.cons_append,List.nil_append]))
     iterate 8 (apply wpO_det;(case hw=>rfl);(case h=>intro hFm wx hS_ hF_ K hK;go_big_quiet_op;first | exact hK _ rfl | (apply Exists.intro;refine⟨fun _=>?_,?_⟩;(focus (first | (intro hC;have hC:=KF.out _ hC.out.1;(try simp only[hC,Result.andThen]);first | exact⟨True.intro,rfl⟩ | exact⟨rfl,rfl⟩ | rfl)));exact hK _ rfl));(case' k=>simp only[Act.put,List.setIfInBounds_toArray,List.set_cons_succ,List.set_cons_zero,List.cons_append,List.nil_append]))
     refine wpO_nil ?_
     intro w6 hS hF hB
     (try simp[allF] at hF)
     (try simp[List.pairwise_cons] at hB)
     clear hF hB
     go_wp2_with fail
     go_meet
     exact⟨by rw[HCR.out,hA,hD,hL,hT];rfl,hS⟩
  case rest =>
   clear KF
   obtain⟨hcv,hcs⟩:=hcut
   subst hcv
   have HSC:=Lib.hid (And.intro (HS5.out.trans hcs) (hcs.blk HBP5.out))
   clear hcs HS5 HBP5 HK5 HK6
   obtain⟨w7,rfl⟩:∃ w7,w7=wc:=⟨_,rfl⟩
   obtain⟨cr,HCV⟩:∃ cr,Hid (cr=crsB P fr (px,py) g):=⟨_,rfl⟩
   rw[← HCV.out]
   have HSN:Hid (insI P fr nxn (px,py) h0 (i+1)=if cr then !insI P fr nxn (px,py) h0 i else insI P fr nxn (px,py) h0 i):=by
    show _=_
    rw[insI_succ,HCV.out,HGG.out]
   obtain⟨s,HSI⟩:∃ s,Hid (s=insI P fr nxn (px,py) h0 i):=⟨_,rfl⟩
   rw[← HSI.out] at HSN ⊢
   obtain⟨m,HMM⟩:∃ m,Hid (m=nxn g):=⟨_,rfl⟩
   have HMI:Hid (m=itN nxn h0 (i+1)):=by show _=_;rw[HMM.out,HGG.out];rfl
   have c1:w7.cell? ⟨G,1,none⟩=some (.slice (some ⟨gH,0,none⟩) N cH):=by rw[(HSE.out.since HSC.out.1).c1,mkH_len]
   have cn:w7.cell? ⟨gH,g*4+2,none⟩=some (.int .i64 m):=by
    have:=keepC HSC.out.1 _ _ (HN.out g hgN)
    rw[this,HMM.out]
   have c4:=keepC HSC.out.1 _ _ C4.out
   have cc:=keepC HSC.out.1 _ _ CC.out
   clear HCR
   rcases Nat.lt_or_ge (i+1) n with hlt | hge
   ·have hne:¬ m=h0:=by rw[HMI.out];exact HR.out.2.2 (i+1) (by omega) hlt
    have hq:((m:Int) == (h0:Int))=false:=by rw[beq_eq_false_iff_ne];omega
    cases cr
    ·go_wp2_with fail
     go_roundg (gk-1)
     case measure=>omega
     case rel=>exact⟨i+1,by omega,hlt,by rw[HSN.out];rfl,by rw[HMI.out],HSC.out.1,HSC.out.2⟩
    ·go_wp2_with fail
     go_roundg (gk-1)
     case measure=>omega
     case rel=>exact⟨i+1,by omega,hlt,by rw[HSN.out];rfl,by rw[HMI.out],HSC.out.1,HSC.out.2⟩
   ·obtain rfl:i+1=n:=by omega
    have hmh:m=h0:=by rw[HMI.out];exact HR.out.2.1
    clear HMM HMI
    subst hmh
    cases cr
    ·go_wp2_with fail
     go_ret
     exact⟨by rw[HRES.out,HSN.out];rfl,HSC.out.1⟩
    ·go_wp2_with fail
     go_ret
     exact⟨by rw[HRES.out,HSN.out];rfl,HSC.out.1⟩
end
end Go.Proofs.YtdnccjdlmepafaaGreat
