/-
  The walk of arr's faces: the faces are numbered. Conditions: those that each lemma names.
-/
import Derived.Test.YtdnccjdlmepafaaGreatK26
set_option linter.unusedSimpArgs false
set_option linter.unusedVariables false
set_option linter.constructorNameAsVariable false
namespace Go.Proofs.YtdnccjdlmepafaaGreat
section
open Go.RowKit Go.BigFrame
attribute [local go_sem ↓] eqPt neqPt
structure MkX(w:World)(G:Nat)(s:St)(M:List Rw):Prop where
 blk:Blk w G 94 #[s.vP,s.vH,s.vF,s.vC,s.vI,s.vT,s.vA,s.vO]
 rows:Rws w (G+1) (s.rows++M)
section
variable {w w' : World} {G : Nat} {s : St} {M : List Rw}
theorem MkX.maker(h:MkX w G s M):Mk w G s:=⟨h.blk,h.rows.init⟩
theorem MkX.since(h:MkX w G s M)(hs:Since w w'):MkX w' G s M:=⟨hs.blk h.blk,h.rows.since hs⟩
theorem MkX.lt(h:MkX w G s M):G<w.heap.size:=h.blk.lt
theorem at_last(L:List Rw)(r:Rw):(L++[r])[L.length]? = some r:=by rw[List.getElem?_append_right (Nat.le_refl _),Nat.sub_self];rfl
theorem set_last(L:List Rw)(r r' : Rw):(L++[r]).set L.length r' = L++[r']:=by rw[List.set_append_right _ _ (Nat.le_refl _),Nat.sub_self];rfl
theorem MkX.start(h:Mk w G s){g n:Nat}{f:List Int}(hs:Since w w')(hl:f.length=n)(ho:w'.ownsRow w.heap.size 3 1 (.slice (some ⟨g,0,none⟩) n n) n (f.map iV)):MkX w' G s [rI (.slice (some ⟨g,0,none⟩) n n) f]:=by
 refine⟨hs.blk h.blk,?_⟩
 have h2:=(h.rows.more [⟨.slice none 0 0,3,1,0,[]⟩] (fun r hr=>by rw[List.mem_singleton.1 hr];exact⟨rfl,rfl,rfl⟩)).fresh (i:=s.rows.length) (rI (.slice (some ⟨g,0,none⟩) n n) f) (at_last _ _) hs h.lt (by simp only[rI,hl];exact ho)
 rw[set_last] at h2
 exact h2
theorem MkX.cell{g n:Nat}{f:List Int}(h:MkX w G s [rI (.slice (some ⟨g,0,none⟩) n n) f]){j:Nat}(hj:j<f.length):w.cell? ⟨g,j,none⟩=some (.int .i64 (iAt f j)):=rowI_at h.rows (at_last _ _) hj
theorem MkX.frozen{g n:Nat}{f:List Int}(h:MkX w G s [rI (.slice (some ⟨g,0,none⟩) n n) f])(j:Nat):w.frozen? ⟨g,j,none⟩=false:=h.rows.frozen (at_last _ _) rfl j
theorem MkX.ge{g n:Nat}{f:List Int}(h:MkX w G s [rI (.slice (some ⟨g,0,none⟩) n n) f]):G+1≤g:=(h.rows.ge (g:=g) (at_last _ _) rfl).1
theorem MkX.put{g n:Nat}{f:List Int}(h:MkX w G s [rI (.slice (some ⟨g,0,none⟩) n n) f]){j:Nat}(hj:j<f.length)(x:Int):MkX (w.setCell ⟨g,j,none⟩ (.int .i64 x)) G s [rI (.slice (some ⟨g,0,none⟩) n n) (f.set j x)]:=by
 have hg:=h.ge
 refine⟨h.blk.far (p:=⟨g,j,none⟩) (by dsimp only;omega) _,?_⟩
 have h2:=h.rows.store (at_last _ _) rfl (j:=j) (by simpa[rI] using hj) (.int .i64 x)
 rw[set_last] at h2
 have e:({ rI (.slice (some ⟨g,0,none⟩) n n) f with xs:=(rI (.slice (some ⟨g,0,none⟩) n n) f).xs.set j (.int .i64 x) }:Rw)=rI (.slice (some ⟨g,0,none⟩) n n) (f.set j x):=by
  simp[rI,List.map_set,iV]
 rw[e] at h2
 exact h2
end
def stF(gP cP gH cH gO V:Nat)(P:List Pt2)(H:List Hf)(O:List (Value×List Int))(vF vC vI vT vA:Value)(F C I T A:List Int):St:=⟨.slice (some ⟨gP,0,none⟩) P.length cP,.slice (some ⟨gH,0,none⟩) H.length cH,vF,vC,vI,vT,vA,.slice (some ⟨gO,0,none⟩) V V,P,H,F,C,I,T,A,O⟩
theorem stF_H{gP cP gH cH gO V N:Nat}{P:List Pt2}{fr:Nat→Nat}{nx fc:Nat→Int}{O:List (Value×List Int)}{vF vC vI vT vA:Value}{F C I T A:List Int}{M:List Rw}{h:Nat}(hh:h<N)(y:Int) :
  ((stF gP cP gH cH gO V P (mkH N fr nx fc) O vF vC vI vT vA F C I T A).rows++M).set 1 ⟨.slice (some ⟨gH,0,none⟩) (mkH N fr nx fc).length cH,33,4,(mkH N fr nx fc).length,((mkH N fr nx fc).flatMap hfV).set (h*4+3) (.int .i64 y)⟩=(stF gP cP gH cH gO V P (mkH N fr nx (upd fc h y)) O vF vC vI vT vA F C I T A).rows++M:=by
 rw[mkH_set3 hh]
 simp only[stF,St.rows,mkH_len]
 rfl
theorem stF_F{gP cP gH cH gO V g n c:Nat}{P:List Pt2}{H:List Hf}{O:List (Value×List Int)}{vC vI vT vA:Value}{F C I T A:List Int}{M:List Rw}(x:Int) :
  ((stF gP cP gH cH gO V P H O (.slice (some ⟨g,0,none⟩) n c) vC vI vT vA F C I T A).rows++M).set 2 { rI (.slice (some ⟨g,0,none⟩) n c) F with xs:=(F.map iV).set 0 (iV x) }=(stF gP cP gH cH gO V P H O (.slice (some ⟨g,0,none⟩) n c) vC vI vT vA (F.set 0 x) C I T A).rows++M:=by
 have e:({ rI (.slice (some ⟨g,0,none⟩) n c) F with xs:=(F.map iV).set 0 (iV x) }:Rw)=rI (.slice (some ⟨g,0,none⟩) n c) (F.set 0 x):=by
  simp[rI,List.map_set]
 rw[e]
 rfl
set_option maxRecDepth 100000 in
set_option maxHeartbeats 8000000 in
theorem Faces_any (G gP cP gO gH cH gC gI cI gT cT gA N V m:Nat) (P:List Pt2) (fr nxn:Nat→Nat) (O:List (Value×List Int)) (C I T A:List Int) (w0 w:World) (hs0:Since w0 w) (hG:w0.heap.size≤G) (HWY:Way N V P fr nxn) (hm:m=I.length) (hm0:0<m) (hmN:m≤N) (hTl:T.length=m) (hCl:C.length=N) (hAl:A.length=V)
  (hI:∀ c,c<m→∃ g:Nat,iAt I c=g∧g<N) (hC:∀ g,g<N→∃ c:Nat,iAt C g=c∧c<m)
  (hM:Mk w G (stF gP cP gH cH gO V P (mkH N fr (fun g=>nxn g) (fun _=>0)) O nilV (.slice (some ⟨gC,0,none⟩) N N) (.slice (some ⟨gI,0,none⟩) m cI) (.slice (some ⟨gT,0,none⟩) m cT) (.slice (some ⟨gA,0,none⟩) V V) [] C I T A)) :
  Calls Tryz.prog 67 #[.pointer (some ⟨G,0,none⟩)] w fun e w' => e=.returned (.tuple #[])∧Since w0 w' ∧
   ∃ vF,Mk w' G (stF gP cP gH cH gO V P (mkH N fr (fun g=>nxn g) (fun h=>iAt (fac2 P fr nxn I T A m) (iAt C h).toNat)) O vF (.slice (some ⟨gC,0,none⟩) N N) (.slice (some ⟨gI,0,none⟩) m cI) (.slice (some ⟨gT,0,none⟩) m cT) (.slice (some ⟨gA,0,none⟩) V V) (fac3 (fac2 P fr nxn I T A m) C (fac1 I T m).2 N) C I T A):=by
 obtain⟨i2,hi2,hy0,hy1,hy3⟩:=info_parts infoI
 have HI2:=Lib.hid (And.intro hi2 (And.intro hy0 (And.intro hy1 hy3)))
 have hN6:N≤6000:=HWY.le
 have hV6:V≤6000:=HWY.vle
 have HWY:=Lib.hid HWY
 have HML:=Lib.hid hm
 have HTL:=Lib.hid hTl
 have HCL:=Lib.hid hCl
 have HAL:=Lib.hid hAl
 have HII:=Lib.hid hI
 have HCC:=Lib.hid hC
 have hGw:G<w.heap.size:=hM.lt
 have hszw:(w.setCell ⟨G,2,none⟩ (.slice (some ⟨w.heap.size,0,none⟩) 1 1)).heap.size=w.heap.size:=by simp
 have hR0:=hM.rows.low (p:=⟨G,2,none⟩) (Nat.lt_succ_self _) (.slice (some ⟨w.heap.size,0,none⟩) 1 1)
 have hfr:=hR0.fresh (i:=2) (w' := (w.setCell ⟨G,2,none⟩ (.slice (some ⟨w.heap.size,0,none⟩) 1 1)).alloc (.cells #[.int .i64 (-1)] 3)) (rI (.slice (some ⟨w.heap.size,0,none⟩) 1 1) [-1]) rfl ((Since.rfl_ _).alloc _) (by rw[hszw];exact hGw) ⟨rfl,.inr ⟨w.heap.size,1,_,rfl,by rw[hszw];exact Nat.le_refl _,Blk.new' (by simp),Nat.le_refl _,by unfold maxLen;omega,rfl,rfl⟩⟩
 have hM1:Mk ((w.setCell ⟨G,2,none⟩ (.slice (some ⟨w.heap.size,0,none⟩) 1 1)).alloc (.cells #[.int .i64 (-1)] 3)) G (stF gP cP gH cH gO V P (mkH N fr (fun g=>nxn g) (fun _=>0)) O (.slice (some ⟨w.heap.size,0,none⟩) 1 1) (.slice (some ⟨gC,0,none⟩) N N) (.slice (some ⟨gI,0,none⟩) m cI) (.slice (some ⟨gT,0,none⟩) m cT) (.slice (some ⟨gA,0,none⟩) V V) [-1] C I T A) :=
  ⟨((hM.blk.set_ 2 _).alloc _),hfr⟩
 have HM1:=Lib.hid (And.intro ((hs0.setCell (p:=⟨G,2,none⟩) hG (.slice (some ⟨w.heap.size,0,none⟩) 1 1)).alloc (.cells #[.int .i64 (-1)] 3)) hM1)
 have c2:=(hM.blk.alloc (.cells #[.int .i64 (-1)] 3)).cell 2
 have f2:=(hM.blk.alloc (.cells #[.int .i64 (-1)] 3)).frozen 2
 simp only[stF,List.getElem?_toArray,List.getElem?_cons_zero,List.getElem?_cons_succ] at c2
 clear hs0 hfr hM hM1 hR0 hszw hm hTl hCl hAl hI hC hi2 hy0 hy1 hy3
 go_enter Tryz.func67,Tryz.ntmps67
 go_upto_region 1 with fail
 refine atW (fun w' => Hid (Since w0 w' ∧ Mk w' G (stF gP cP gH cH gO V P (mkH N fr (fun g=>nxn g) (fun _=>0)) O (.slice (some ⟨w.heap.size,0,none⟩) 1 1) (.slice (some ⟨gC,0,none⟩) N N) (.slice (some ⟨gI,0,none⟩) m cI) (.slice (some ⟨gT,0,none⟩) m cT) (.slice (some ⟨gA,0,none⟩) V V) [-1] C I T A))) HM1 ?_
 clear HM1 c2 f2
 rintro w1 HM1
 have c4:w1.cell? ⟨G,4,none⟩=some (.slice (some ⟨gI,0,none⟩) m cI):=HM1.out.2.blk.cell 4
 have hw1:G<w1.heap.size:=HM1.out.2.lt
 go_upto_region 2 with(at_make;refine wpList_make_full _ rfl _ _ 22 rfl w1.heap.size 3 i2 _ 1 Tryz.underlying22 HI2.out.1 HI2.out.2.1 HI2.out.2.2.1 .i64 .i64 _ _ m rfl rfl rfl rfl (by rw[HI2.out.2.2.2];omega) (by unfold maxLen;omega) (Nat.le_refl _) ?_;intro w2 hown hgrow)
 have hs12:Since w1 w2:=⟨hgrow.os,hgrow.tape,hgrow.output,hgrow.size,fun i hi=>hgrow.block i hi (by simp)⟩
 have HS3:=Lib.hid (HM1.out.1.trans hs12)
 have HM3:Hid (MkX w2 G (stF gP cP gH cH gO V P (mkH N fr (fun g=>nxn g) (fun _=>0)) O (.slice (some ⟨w.heap.size,0,none⟩) 1 1) (.slice (some ⟨gC,0,none⟩) N N) (.slice (some ⟨gI,0,none⟩) m cI) (.slice (some ⟨gT,0,none⟩) m cT) (.slice (some ⟨gA,0,none⟩) V V) (fac1 I T 0).2 C I T A) [rI (.slice (some ⟨w1.heap.size,0,none⟩) m m) (fac1 I T 0).1]) :=
  MkX.start HM1.out.2 hs12 (by rw[fac1_len];exact HML.out.symm) (by
   have e:(fac1 I T 0).1.map iV=(madeCells (Value.int IntKind.i64 0).cells (m*1)).toList:=by
    show(List.replicate I.length (0:Int)).map iV=_
    rw[← HML.out,List.map_replicate]
    apply List.ext_getElem
    ·simp[madeCells]
    ·intro i h1 h2
     simp[madeCells,iV,Value.cells,Nat.mod_one]
   rw[e];exact hown)
 have c4:=keepC hs12 _ _ c4
 obtain⟨gf,HGF⟩:∃ gf,Hid (gf=w1.heap.size):=⟨_,rfl⟩
 rw[← HGF.out] at HM3 ⊢
 clear hs12 hgrow hown HM1 hw1
 go_wp2_with fail
 clear c4
 obtain⟨H,HH⟩:∃ H,Hid (H=mkH N fr (fun g=>nxn g) (fun _=>0)):=⟨_,rfl⟩
 rw[← HH.out] at HM3
 go_loopw [27] (fun v27 wr=>∃ (c:Nat) (vF:Value),c≤m∧v27=.int .i64 c∧Hid (Since w0 wr)∧Hid (MkX wr G (stF gP cP gH cH gO V P H O vF (.slice (some ⟨gC,0,none⟩) N N) (.slice (some ⟨gI,0,none⟩) m cI) (.slice (some ⟨gT,0,none⟩) m cT) (.slice (some ⟨gA,0,none⟩) V V) (fac1 I T c).2 C I T A) [rI (.slice (some ⟨gf,0,none⟩) m m) (fac1 I T c).1])) (fun v27 _=>m-(intOf v27).toNat)
 case atStart=>exact⟨0,_,by omega,by go_num,HS3,HM3⟩
 case round =>
  clear HS3 HM3
  obtain⟨c,vF,hc,rfl,HS,HM⟩:=hrel
  obtain⟨wv,rfl⟩:∃ wv,wv=wr:=⟨_,rfl⟩
  rcases Nat.lt_or_ge c m with hlt | hge
  ·have hz:decide ((c:Int)<(m:Int))=true:=by rw[decide_eq_true_eq];omega
   have k1:(0:Int)≤(c:Int):=by omega
   have k2:(c:Int)<(m:Int):=by omega
   have HFS:=Lib.hid (fac1_succ I T c)
   have HFL:=Lib.hid (fac1_len I T c)
   have HFF:=Lib.hid (fac1_lenF I T c)
   obtain⟨f,Hf⟩:∃ f,Hid (f=(fac1 I T c).1):=⟨_,rfl⟩
   obtain⟨F,HF⟩:∃ F,Hid (F=(fac1 I T c).2):=⟨_,rfl⟩
   have HFS2:Hid (fac1 I T (c+1)=if 0<iAt T c then(f.set c F.length,F++[iAt I c]) else(f,F)):=by
    show _=_
    rw[HFS.out,Hf.out,HF.out]
   rw[← Hf.out,← HF.out] at HM
   rw[← Hf.out] at HFL
   rw[← HF.out] at HFF
   clear HFS
   have c5:wv.cell? ⟨G,5,none⟩=some (.slice (some ⟨gT,0,none⟩) m cT):=HM.out.blk.cell 5
   have cT1:wv.cell? ⟨gT,c,none⟩=some (.int .i64 (iAt T c)):=rowI_at HM.out.maker.rows (i:=5) rfl (by show c<T.length;rw[HTL.out];exact hlt)
   obtain⟨t,ht⟩:∃ t,Hid (t=iAt T c):=⟨_,rfl⟩
   rw[← ht.out] at cT1 HFS2
   by_cases htp:0<t
   ·have hb:decide (0<t)=true:=decide_eq_true htp
    obtain⟨aF,cF,hvF⟩:∃ a c,vF=.slice a F.length c:=Rws.slice HM.out.maker.rows (i:=2) rfl
    subst hvF
    obtain⟨nF,HNF⟩:∃ nF,Hid (nF=F.length):=⟨_,rfl⟩
    rw[← HNF.out] at HM HFS2 HFF
    have c2:wv.cell? ⟨G,2,none⟩=some (.slice aF nF cF):=HM.out.blk.cell 2
    have cf:=HM.out.cell (j:=c) (by rw[HFL.out,← HML.out];exact hlt)
    have ff:=HM.out.frozen c
    go_upto_region 7 with fail
    have HMP:=HM.out.put (j:=c) (by rw[HFL.out,← HML.out];exact hlt) (nF:Int)
    have hgf:=HM.out.ge
    have HWP:=Lib.hid (And.intro (HS.out.setCell (p:=⟨gf,c,none⟩) (by dsimp only;omega) (.int .i64 nF)) HMP)
    refine atW (fun w' => Hid (Since w0 w' ∧ MkX w' G (stF gP cP gH cH gO V P H O (.slice aF nF cF) (.slice (some ⟨gC,0,none⟩) N N) (.slice (some ⟨gI,0,none⟩) m cI) (.slice (some ⟨gT,0,none⟩) m cT) (.slice (some ⟨gA,0,none⟩) V V) F C I T A) [rI (.slice (some ⟨gf,0,none⟩) m m) (f.set c nF)])) HWP ?_
    clear HWP HMP HM HS c5 cT1 c2 cf ff hgf
    rintro w3 HW3
    obtain⟨x,hx⟩:∃ x,Hid (x=iAt I c):=⟨_,rfl⟩
    have cI1:w3.cell? ⟨gI,c,none⟩=some (.int .i64 x):=by rw[hx.out];exact rowI_at HW3.out.2.maker.rows (i:=4) rfl (by show c<I.length;rw[← HML.out];exact hlt)
    obtain⟨A1,HA1⟩:∃ A:Ap,Hid (A=⟨.slice aF nF cF,3,1,F.length,F.map iV,1,[.int .i64 x]⟩):=⟨_,rfl⟩
    have HV1:Hid (A1.v=.slice aF nF cF):=by show _=_;rw[HA1.out]
    have HLO:Hid (∀ A' ∈ [A1],∀ g,A'.v.ownBlock=some g→G+1≤g∧g<w3.heap.size):=HW3.out.2.rows.lo (i:=2) rfl HV1.out
    have HNO:Hid (∀ A' ∈ [A1],A'.v.ownBlock≠some gI):=fun A' hA' e=>by
     rw[List.mem_singleton.1 hA',HV1.out] at e
     exact HW3.out.2.rows.ap 2 4 _ _ (by decide) rfl rfl gI e rfl
    letI RG:RegG:=apG (G+1) w3.heap.size [A1] (fun A' hA' g e=>(HLO.out A' hA' g e).2)
    have KB:Hid (∀ w',SinceG w3 w' → Blk w' G 94 #[.slice (some ⟨gP,0,none⟩) P.length cP,.slice (some ⟨gH,0,none⟩) H.length cH,.slice aF nF cF,.slice (some ⟨gC,0,none⟩) N N,.slice (some ⟨gI,0,none⟩) m cI,.slice (some ⟨gT,0,none⟩) m cT,.slice (some ⟨gA,0,none⟩) V V,.slice (some ⟨gO,0,none⟩) V V]):=fun w' k =>
     ApK.blk k (fun A hA e=>by have:=(HLO.out A hA G e).1;omega) HW3.out.2.blk
    have KF:=Lib.hid (fun w' (k:SinceG w3 w')=>(show w'.cell? ⟨G,2,none⟩=some (.slice aF nF cF)∧w'.cell? ⟨G,4,none⟩=some (.slice (some ⟨gI,0,none⟩) m cI)∧w'.cell? ⟨gI,c,none⟩=some (.int .i64 x) from⟨(KB.out w' k).cell 2,(KB.out w' k).cell 4,ApK.cell k HNO.out cI1⟩))
    clear cI1
    apply region_factsG 15 (fun w' => SinceG w3 w')
    case hm=>kernel_rfl
    case hB=>kernel_rfl
    case hS=>exact(SinceG.rfl_ w3).drew
    case hmono=>exact(fun _ _ h k=>h.trans k)
    case hTb=>exact(fun g hg=>hg)
    case h =>
    simp only[List.take_succ_cons,List.take_zero,List.drop_succ_cons,List.drop_zero]
    iterate 13 (apply wpO_detG;(case hw=>rfl);(case h=>intro hFm wx hS_ hF_ K hK;go_big_quiet_op;first | exact hK _ rfl | (apply Exists.intro;refine⟨fun _=>?_,?_⟩;(focus (first | (intro hC;have hC:=KF.out _ hC.out.1;(try simp only[hC,Result.andThen]);first | exact⟨True.intro,rfl⟩ | exact⟨rfl,rfl⟩ | rfl)));exact hK _ rfl));(case' k=>simp only[Act.put,List.setIfInBounds_toArray,List.set_cons_succ,List.set_cons_zero,List.cons_append,List.nil_append]))
    apply wpO_mkG (f:=fun g=>.slice (some ⟨g,0,none⟩) 1 1) (t:=3) (cs := #[.int .i64 x])
    case hk=>trivial
    case hi=>(intro g g' h;simpa using h)
    case hw=>rfl
    case h=>(intro w;simp[go_sem])
    case k =>
    intro gs
    simp only[Act.put,List.setIfInBounds_toArray,List.set_cons_succ,List.set_cons_zero,List.cons_append,List.nil_append]
    apply wpO_anyG (R:=fun v' w' => w'.ownsRow (G+1) (A1).t (A1).k v' ((A1).n+(A1).m) ((A1).xs++(A1).news)∧(v'.ownBlock=(A1).v.ownBlock∨∃ b,v'.ownBlock=some b∧w3.heap.size≤b))
    case hR=>exact fun v' w' w'' h k=>⟨k.post _ (List.mem_singleton.2 rfl) v' h.2 h.1,h.2⟩
    case hw=>rfl
    case h =>
     intro wx hS_ hF_
     refine runVG_app _ _ _ rfl rfl rfl ?_
     (
         obtain⟨hbg,-,-⟩:=factsOf_at (j:=13) (by decide) hF_
         exact ap_one HA1.out HLO.out (HW3.out.2.rows.ok 2 _ rfl) hS_ (by have:=HW3.out.2.lt;omega) (Nat.le_refl _) _ _ i2 _ 8 Tryz.underlying22 HI2.out.1 HI2.out.2.1 HI2.out.2.2.1 HI2.out.2.2.2 rfl (by decide) _ _ rfl (blk1 hbg) (one1 _ _) (by have:=HFF.out.2;have:=HNF.out;unfold maxLen;omega) (by have:=HFF.out.2;have:=HNF.out;omega))
    case k =>
    intro v'
    simp only[Act.put,List.setIfInBounds_toArray,List.set_cons_succ,List.set_cons_zero,List.cons_append,List.nil_append]
    refine wpO_nilG ?_
    intro w10 hS hF hB
    (try simp[allF] at hF)
    (try simp[List.pairwise_cons] at hB)
    obtain⟨-,hown,hloc⟩:=hF
    have hb10:=KB.out _ hS
    have hS10:=ApK.since hS HW3.out.1 (by omega) (fun A' hA' g e=>(HLO.out A' hA' g e).1)
    have hr10:=HW3.out.2.rows.app (i:=2) rfl HV1.out (Nat.le_refl _) hS (rI v' (F++[x])) (by
     rw[HA1.out] at hown
     simpa[rI,iV] using hown) hloc
    obtain⟨av,cv,hv'⟩:∃ a c,v' = .slice a (nF+1) c:=by
     obtain⟨a,c,e⟩:=Rws.slice hr10 (i:=2) rfl
     exact⟨a,c,by simpa[rI,HNF.out] using e⟩
    subst hv'
    have d2:=hb10.cell 2
    have e2:=hb10.frozen 2
    simp only[List.getElem?_toArray,List.getElem?_cons_zero,List.getElem?_cons_succ] at d2
    have hM10:MkX (w10.setCell ⟨G,2,none⟩ (.slice av (nF+1) cv)) G (stF gP cP gH cH gO V P H O (.slice av (nF+1) cv) (.slice (some ⟨gC,0,none⟩) N N) (.slice (some ⟨gI,0,none⟩) m cI) (.slice (some ⟨gT,0,none⟩) m cT) (.slice (some ⟨gA,0,none⟩) V V) (F++[x]) C I T A) [rI (.slice (some ⟨gf,0,none⟩) m m) (f.set c nF)]:=⟨hb10.set_ 2 _,Rws.low hr10 (p:=⟨G,2,none⟩) (Nat.lt_succ_self _) _⟩
    have HW10:=Lib.hid (And.intro (hS10.setCell (p:=⟨G,2,none⟩) hG (.slice av (nF+1) cv)) hM10)
    clear hown hloc hS10 hr10 hM10 hb10 hS hB KF KB
    clear RG
    clear HNO HLO HV1 HA1 HW3 hb
    go_wp2_with fail
    go_roundw
    case rel=>exact⟨c+1,_,by omega,by go_num,HW10.out.1,by rw[HFS2.out,if_pos htp,← hx.out];exact HW10.out.2⟩
    case measure=>simp[intOf];omega
   ·have hb:decide (0<t)=false:=decide_eq_false htp
    go_wp2_with fail
    go_roundw
    case rel=>exact⟨c+1,vF,by omega,by go_num,HS,by rw[HFS2.out,if_neg (by omega)];exact HM⟩
    case measure=>simp[intOf];omega
  ·obtain rfl:m=c:=by omega
   have hz:decide ((m:Int)<(m:Int))=false:=by rw[decide_eq_false_iff_not];omega
   have HF0:Hid ((fac1 I T m).1=fac2 P fr nxn I T A 0):=by show _=_;rw[HML.out];rfl
   rw[HF0.out] at HM
   obtain⟨F,HF⟩:∃ F,Hid (F=(fac1 I T m).2):=⟨_,rfl⟩
   rw[← HF.out] at HM
   have c4:wv.cell? ⟨G,4,none⟩=some (.slice (some ⟨gI,0,none⟩) m cI):=HM.out.blk.cell 4
   go_wp2_with fail
   clear c4
   go_loopg [71] m (fun gc v71 wr=>∃ (c:Nat),c+gc=m∧v71=.int .i64 c∧Hid (Since w0 wr)∧Hid (MkX wr G (stF gP cP gH cH gO V P H O vF (.slice (some ⟨gC,0,none⟩) N N) (.slice (some ⟨gI,0,none⟩) m cI) (.slice (some ⟨gT,0,none⟩) m cT) (.slice (some ⟨gA,0,none⟩) V V) F C I T A) [rI (.slice (some ⟨gf,0,none⟩) m m) (fac2 P fr nxn I T A c)]))
   case atStart=>exact⟨0,by omega,by go_num,HS,HM⟩
   case round =>
    clear HS HM
    obtain⟨c,hgc,rfl,HS,HM⟩:=hrel
    obtain⟨w1,rfl⟩:∃ w1,w1=wr:=⟨_,rfl⟩
    have HFL:=Lib.hid (fac2_len P fr nxn I T A c)
    obtain⟨f,Hf⟩:∃ f,Hid (f=fac2 P fr nxn I T A c):=⟨_,rfl⟩
    have HFS:Hid (fac2 P fr nxn I T A (c+1)=if 0<iAt T c then f else if 0≤bstV P fr nxn I T A c m then f.set c (iAt f (bstV P fr nxn I T A c m).toNat) else f):=by
     show _=_
     rw[fac2_succ,Hf.out,← HML.out]
    rw[← Hf.out] at HM HFL
    rcases Nat.lt_or_ge c m with hlt | hge
    ·have hz2:decide ((c:Int)<(m:Int))=true:=by rw[decide_eq_true_eq];omega
     have k1:(0:Int)≤(c:Int):=by omega
     have k2:(c:Int)<(m:Int):=by omega
     have c5:w1.cell? ⟨G,5,none⟩=some (.slice (some ⟨gT,0,none⟩) m cT):=HM.out.blk.cell 5
     have cT1:w1.cell? ⟨gT,c,none⟩=some (.int .i64 (iAt T c)):=rowI_at HM.out.maker.rows (i:=5) rfl (by show c<T.length;rw[HTL.out];exact hlt)
     obtain⟨t,ht⟩:∃ t,Hid (t=iAt T c):=⟨_,rfl⟩
     rw[← ht.out] at cT1 HFS
     by_cases htp:0<t
     ·have hb:decide (0<t)=true:=decide_eq_true htp
      go_wp2_with fail
      go_roundg (gk-1)
      case measure=>omega
      case rel=>exact⟨c+1,by omega,by go_num,HS,by rw[HFS.out,if_pos htp];exact HM⟩
     ·have hb:decide (0<t)=false:=decide_eq_false htp
      go_upto_region 13 with fail
      clear c5 cT1
      obtain⟨g,hg,hgN⟩:=HII.out c hlt
      have HGI:=Lib.hid hg
      have HFC:Hid (frC fr I c=fr g):=by show _=_;unfold frC;rw[hg,Int.toNat_natCast]
      obtain⟨u,hu⟩:∃ u,Hid (u=fr g):=⟨_,rfl⟩
      have huV:u<V:=by rw[hu.out];exact HWY.out.fr_lt g hgN
      have c1:w1.cell? ⟨G,1,none⟩=some (.slice (some ⟨gH,0,none⟩) N cH):=by
       have:=HM.out.blk.cell 1
       rw[this]
       simp[stF,HH.out,mkH_len]
      have c4:w1.cell? ⟨G,4,none⟩=some (.slice (some ⟨gI,0,none⟩) m cI):=HM.out.blk.cell 4
      have cI1:w1.cell? ⟨gI,c,none⟩=some (.int .i64 (g:Nat)):=by rw[← hg];exact rowI_at HM.out.maker.rows (i:=4) rfl (by show c<I.length;rw[← HML.out];exact hlt)
      have cu:w1.cell? ⟨gH,g*4,none⟩=some (.int .i64 (u:Nat)):=by
       have:=(HM.out.maker.see (gP:=gP) (cP:=cP) (gH:=gH) (cH:=cH) rfl rfl).h g (by show g<H.length;rw[HH.out,mkH_len];exact hgN)
       rw[this]
       show some (Value.int IntKind.i64 (hAt H g).1)=_
       rw[HH.out,mkH_at hgN,← hu.out]
      have KF:=Lib.hid (fun w' (k:Since w1 w')=>(show w'.cell? ⟨G,1,none⟩=some (.slice (some ⟨gH,0,none⟩) N cH)∧w'.cell? ⟨G,4,none⟩=some (.slice (some ⟨gI,0,none⟩) m cI)∧w'.cell? ⟨gI,c,none⟩=some (.int .i64 (g:Nat))∧w'.cell? ⟨gH,g*4,none⟩=some (.int .i64 (u:Nat)) from⟨keepC k _ _ c1,keepC k _ _ c4,keepC k _ _ cI1,keepC k _ _ cu⟩))
      have g1:(0:Int)≤(g:Int):=by omega
      have g2:(g:Int)<(N:Int):=by omega
      clear c1 c4 cI1 cu hg
      apply region_facts 15 (fun w' => Since w1 w')
      case hm=>kernel_rfl
      case hB=>kernel_rfl
      case hS=>exact(Since.rfl_ w1).drew
      case h =>
      simp only[List.take_succ_cons,List.take_zero,List.drop_succ_cons,List.drop_zero]
      iterate 15 (apply wpO_det;(case hw=>rfl);(case h=>intro hFm wx hS_ hF_ K hK;go_big_quiet_op;first | exact hK _ rfl | (apply Exists.intro;refine⟨fun _=>?_,?_⟩;(focus (first | (intro hC;have hC:=KF.out _ hC.out.1;(try simp only[hC,Result.andThen]);first | exact⟨True.intro,rfl⟩ | exact⟨rfl,rfl⟩ | rfl)));exact hK _ rfl));(case' k=>simp only[Act.put,List.setIfInBounds_toArray,List.set_cons_succ,List.set_cons_zero,List.cons_append,List.nil_append]))
      refine wpO_nil ?_
      intro w2 hS hF hB
      (try simp[allF] at hF)
      (try simp[List.pairwise_cons] at hB)
      clear hF hB KF
      have HS2:Hid (Since w0 w2):=HS.out.trans hS
      have HM2:=Lib.hid (HM.out.since hS)
      have c4:w2.cell? ⟨G,4,none⟩=some (.slice (some ⟨gI,0,none⟩) m cI):=HM2.out.blk.cell 4
      clear hS HS HM g1 g2 hb
      go_wp2_with fail
      clear c4
      have hcm:c<m:=hlt
      go_loopg [6,102] m (fun gd v6 v102 wr=>∃ (d:Nat),d+gd=m∧v102=.int .i64 d∧v6=.int .i64 (bstV P fr nxn I T A c d)∧Hid (Since w0 wr)∧Hid (MkX wr G (stF gP cP gH cH gO V P H O vF (.slice (some ⟨gC,0,none⟩) N N) (.slice (some ⟨gI,0,none⟩) m cI) (.slice (some ⟨gT,0,none⟩) m cT) (.slice (some ⟨gA,0,none⟩) V V) F C I T A) [rI (.slice (some ⟨gf,0,none⟩) m m) f]))
      case atStart=>exact⟨0,by omega,by go_num,rfl,HS2,HM2⟩
      case round =>
       clear HS2 HM2
       obtain⟨d,hgd,rfl,rfl,HS,HM⟩:=hrel
       obtain⟨w3,rfl⟩:∃ w3,w3=wr:=⟨_,rfl⟩
       have HBS:=Lib.hid (bstV_succ P fr nxn I T A c d)
       have HBR:=Lib.hid (bstV_rng P fr nxn I T A c d)
       obtain⟨b,Hb⟩:∃ b,Hid (b=bstV P fr nxn I T A c d):=⟨_,rfl⟩
       rw[← Hb.out] at HBS HBR ⊢
       rcases Nat.lt_or_ge d m with hltd | hged
       ·have hz3:decide ((d:Int)<(m:Int))=true:=by rw[decide_eq_true_eq];omega
        have d1:(0:Int)≤(d:Int):=by omega
        have d2:(d:Int)<(m:Int):=by omega
        obtain⟨g',hg',hgN'⟩:=HII.out d hltd
        have HFD:Hid (frC fr I d=fr g'):=by show _=_;unfold frC;rw[hg',Int.toNat_natCast]
        obtain⟨u',hu'⟩:∃ u',Hid (u' = fr g'):=⟨_,rfl⟩
        have huV' : u' < V:=by rw[hu'.out];exact HWY.out.fr_lt g' hgN'
        have hsee:=HM.out.maker.see (gP:=gP) (cP:=cP) (gH:=gH) (cH:=cH) rfl rfl
        have c0:w3.cell? ⟨G,0,none⟩=some (.slice (some ⟨gP,0,none⟩) V cP):=by
         rw[hsee.c0];show some (Value.slice _ P.length cP)=_;rw[HWY.out.len]
        have c1:w3.cell? ⟨G,1,none⟩=some (.slice (some ⟨gH,0,none⟩) N cH):=by
         rw[hsee.c1];show some (Value.slice _ H.length cH)=_;rw[HH.out,mkH_len]
        have c4:w3.cell? ⟨G,4,none⟩=some (.slice (some ⟨gI,0,none⟩) m cI):=HM.out.blk.cell 4
        have c5:w3.cell? ⟨G,5,none⟩=some (.slice (some ⟨gT,0,none⟩) m cT):=HM.out.blk.cell 5
        have c6:w3.cell? ⟨G,6,none⟩=some (.slice (some ⟨gA,0,none⟩) V V):=HM.out.blk.cell 6
        have cI1:w3.cell? ⟨gI,d,none⟩=some (.int .i64 (g' : Nat)):=by rw[← hg'];exact rowI_at HM.out.maker.rows (i:=4) rfl (by show d<I.length;rw[← HML.out];exact hltd)
        have cu:w3.cell? ⟨gH,g' * 4,none⟩=some (.int .i64 (u' : Nat)):=by
         rw[hsee.h g' (by show g' < H.length;rw[HH.out,mkH_len];exact hgN')]
         show some (Value.int IntKind.i64 (hAt H g').1)=_
         rw[HH.out,mkH_at hgN',← hu'.out]
        have cA0:w3.cell? ⟨gA,u',none⟩=some (.int .i64 (iAt A u')):=rowI_at HM.out.maker.rows (i:=6) rfl (by show u' < A.length;rw[HAL.out];exact huV')
        have cA1:w3.cell? ⟨gA,u,none⟩=some (.int .i64 (iAt A u)):=rowI_at HM.out.maker.rows (i:=6) rfl (by show u<A.length;rw[HAL.out];exact huV)
        have cT1:w3.cell? ⟨gT,d,none⟩=some (.int .i64 (iAt T d)):=rowI_at HM.out.maker.rows (i:=5) rfl (by show d<T.length;rw[HTL.out];exact hltd)
        have cTb:∀ e:Nat,e<m→w3.cell? ⟨gT,e,none⟩=some (.int .i64 (iAt T e)):=fun e he=>rowI_at HM.out.maker.rows (i:=5) rfl (by show e<T.length;rw[HTL.out];exact he)
        obtain⟨⟨px,py⟩,hp⟩:∃ p,Hid (p=pAt P u):=⟨_,rfl⟩
        obtain⟨p0,p1⟩:=hsee.p u (by show u<P.length;rw[HWY.out.len];exact huV)
        change w3.cell? ⟨gP,u*2,none⟩=some (.int .i64 (pAt P u).1) at p0
        change w3.cell? ⟨gP,u*2+1,none⟩=some (.int .i64 (pAt P u).2) at p1
        rw[← hp.out] at p0 p1
        obtain⟨a0,HA0⟩:∃ a0,Hid (a0=iAt A u'):=⟨_,rfl⟩
        obtain⟨a1,HA1⟩:∃ a1,Hid (a1=iAt A u):=⟨_,rfl⟩
        obtain⟨t2,HT2⟩:∃ t2,Hid (t2=iAt T d):=⟨_,rfl⟩
        rw[← HA0.out] at cA0
        rw[← HA1.out] at cA1
        rw[← HT2.out] at cT1
        obtain⟨ii,HIV⟩:∃ ii,Hid (ii=insV P fr nxn (px,py) g'):=⟨_,rfl⟩
        have HBB:Hid (betB P fr nxn I T A c b d↔0<t2∧a0≠a1∧(b<0∨t2<iAt T b.toNat)∧ii=true):=by
         show _↔_
         unfold betB
         rw[HFD.out,HFC.out,← hu'.out,← hu.out,← HA0.out,← HA1.out,← HT2.out,← hp.out,hg',Int.toNat_natCast,← HIV.out]
        have HIN:Hid (∀ w',Since w3 w' → Calls Tryz.prog 94 #[.pointer (some ⟨G,0,none⟩),.int .i64 d,.agg #[.int .i64 px,.int .i64 py]] w' fun e w'' => e=.returned (.bool ii)∧Since w' w''):=fun w' k=>by
         rw[HIV.out]
         have hse:=hsee.since k
         rw[show(stF gP cP gH cH gO V P H O vF (.slice (some ⟨gC,0,none⟩) N N) (.slice (some ⟨gI,0,none⟩) m cI) (.slice (some ⟨gT,0,none⟩) m cT) (.slice (some ⟨gA,0,none⟩) V V) F C I T A).H=mkH N fr (fun g=>nxn g) (fun _=>0) from HH.out] at hse
         refine Inside_any G gP cP gH cH gI cI m d N V g' P fr nxn (fun _=>0) px py w' HWY.out hse (fun q hq=>?_) (keepC k _ _ c4) hltd (keepC k _ _ cI1) hgN'
         have hr1:=(HM.out.since k).maker.rows.ok 1 _ rfl
         have:=(rowH_cells (l:=H) hr1 (j:=q) (by rw[HH.out,mkH_len];exact hq)).2.2.1
         rw[this,HH.out,mkH_at hq]
        have KF:=Lib.hid (fun w' (k:Since w3 w')=>(show w'.cell? ⟨G,0,none⟩=some (.slice (some ⟨gP,0,none⟩) V cP)∧w'.cell? ⟨G,1,none⟩=some (.slice (some ⟨gH,0,none⟩) N cH)∧w'.cell? ⟨G,4,none⟩=some (.slice (some ⟨gI,0,none⟩) m cI)∧w'.cell? ⟨G,5,none⟩=some (.slice (some ⟨gT,0,none⟩) m cT)∧w'.cell? ⟨G,6,none⟩=some (.slice (some ⟨gA,0,none⟩) V V)∧w'.cell? ⟨gI,d,none⟩=some (.int .i64 (g' : Nat))∧w'.cell? ⟨gH,g' * 4,none⟩=some (.int .i64 (u' : Nat))∧w'.cell? ⟨gA,u',none⟩=some (.int .i64 a0)∧w'.cell? ⟨gA,u,none⟩=some (.int .i64 a1)∧w'.cell? ⟨gT,d,none⟩=some (.int .i64 t2)∧w'.cell? ⟨gP,u*2,none⟩=some (.int .i64 px)∧w'.cell? ⟨gP,u*2+1,none⟩=some (.int .i64 py) from⟨keepC k _ _ c0,keepC k _ _ c1,keepC k _ _ c4,keepC k _ _ c5,keepC k _ _ c6,keepC k _ _ cI1,keepC k _ _ cu,keepC k _ _ cA0,keepC k _ _ cA1,keepC k _ _ cT1,keepC k _ _ p0,keepC k _ _ p1⟩))
        have KT:=Lib.hid (fun(e:Nat) (he:e<m) w' (k:Since w3 w')=>keepC k _ _ (cTb e he))
        have u1:(0:Int)≤(u:Int):=by omega
        have u2:(u:Int)<(V:Int):=by omega
        have v1:(0:Int)≤(u' : Int):=by omega
        have v2:(u' : Int)<(V:Int):=by omega
        have g1:(0:Int)≤(g' : Int):=by omega
        have g2:(g' : Int)<(N:Int):=by omega
        clear hg' hsee c0 c1 c4 c5 c6 cI1 cu cA0 cA1 cT1 cTb p0 p1
        go_upto_region 18 with fail
        apply region_facts 29 (fun w' => Since w3 w')
        case hm=>kernel_rfl
        case hB=>kernel_rfl
        case hS=>exact(Since.rfl_ w3).drew
        case h =>
        simp only[List.take_succ_cons,List.take_zero,List.drop_succ_cons,List.drop_zero]
        iterate 29 (apply wpO_det;(case hw=>rfl);(case h=>intro hFm wx hS_ hF_ K hK;go_big_quiet_op;first | exact hK _ rfl | (apply Exists.intro;refine⟨fun _=>?_,?_⟩;(focus (first | (intro hC;have hC:=KF.out _ hC.out.1;(try simp only[hC,Result.andThen]);first | exact⟨True.intro,rfl⟩ | exact⟨rfl,rfl⟩ | rfl)));exact hK _ rfl));(case' k=>simp only[Act.put,List.setIfInBounds_toArray,List.set_cons_succ,List.set_cons_zero,List.cons_append,List.nil_append]))
        refine wpO_nil ?_
        intro w4 hS hF hB
        (try simp[allF] at hF)
        (try simp[List.pairwise_cons] at hB)
        clear hF hB
        have HS4:=Lib.hid hS
        clear hS
        obtain⟨ot,HOT⟩:∃ ot,Hid (ot=(a0 != a1)):=⟨_,rfl⟩
        rw[← HOT.out]
        go_upto_region 19 with fail
        go_cut [178] from 103 to 180 (fun v178 w' => ∃ bb:Bool,v178=.bool bb∧(bb=true↔betB P fr nxn I T A c b d)∧Since w3 w')
        case first =>
         cases hq2:decide (0<t2)
         case false =>
          apply region_facts 45 (fun w' => Since w3 w')
          case hm=>kernel_rfl
          case hB=>kernel_rfl
          case hS=>exact HS4.out.drew
          case h =>
          simp only[List.take_succ_cons,List.take_zero,List.drop_succ_cons,List.drop_zero]
          iterate 9 (apply wpO_det;(case hw=>rfl);(case h=>intro hFm wx hS_ hF_ K hK;go_big_quiet_op;first | exact hK _ rfl | (apply Exists.intro;refine⟨fun _=>?_,?_⟩;(focus (first | (intro hC;have hC:=KF.out _ hC.out.1;(try simp only[hC,Result.andThen]);first | exact⟨True.intro,rfl⟩ | exact⟨rfl,rfl⟩ | rfl)));exact hK _ rfl));(case' k=>simp only[Act.put,List.setIfInBounds_toArray,List.set_cons_succ,List.set_cons_zero,List.cons_append,List.nil_append]))
          apply wpO_skip
          case hw=>rfl
          case k =>
          simp only[Act.put,List.setIfInBounds_toArray,List.set_cons_succ,List.set_cons_zero,List.cons_append,List.nil_append]
          iterate 2 (apply wpO_det;(case hw=>rfl);(case h=>intro hFm wx hS_ hF_ K hK;go_big_quiet_op;first | exact hK _ rfl | (apply Exists.intro;refine⟨fun _=>?_,?_⟩;(focus (first | (intro hC;have hC:=hC.out;(try simp only[hC,Result.andThen]);first | exact⟨True.intro,rfl⟩ | exact⟨rfl,rfl⟩ | rfl)));exact hK _ rfl));(case' k=>simp only[Act.put,List.setIfInBounds_toArray,List.set_cons_succ,List.set_cons_zero,List.cons_append,List.nil_append]))
          apply wpO_skip
          case hw=>rfl
          case k =>
          simp only[Act.put,List.setIfInBounds_toArray,List.set_cons_succ,List.set_cons_zero,List.cons_append,List.nil_append]
          apply wpO_skip
          case hw=>rfl
          case k =>
          simp only[Act.put,List.setIfInBounds_toArray,List.set_cons_succ,List.set_cons_zero,List.cons_append,List.nil_append]
          apply wpO_skip
          case hw=>rfl
          case k =>
          simp only[Act.put,List.setIfInBounds_toArray,List.set_cons_succ,List.set_cons_zero,List.cons_append,List.nil_append]
          apply wpO_skip
          case hw=>rfl
          case k =>
          simp only[Act.put,List.setIfInBounds_toArray,List.set_cons_succ,List.set_cons_zero,List.cons_append,List.nil_append]
          apply wpO_skip
          case hw=>rfl
          case k =>
          simp only[Act.put,List.setIfInBounds_toArray,List.set_cons_succ,List.set_cons_zero,List.cons_append,List.nil_append]
          apply wpO_skip
          case hw=>rfl
          case k =>
          simp only[Act.put,List.setIfInBounds_toArray,List.set_cons_succ,List.set_cons_zero,List.cons_append,List.nil_append]
          apply wpO_skip
          case hw=>rfl
          case k =>
          simp only[Act.put,List.setIfInBounds_toArray,List.set_cons_succ,List.set_cons_zero,List.cons_append,List.nil_append]
          apply wpO_skip
          case hw=>rfl
          case k =>
          simp only[Act.put,List.setIfInBounds_toArray,List.set_cons_succ,List.set_cons_zero,List.cons_append,List.nil_append]
          apply wpO_skip
          case hw=>rfl
          case k =>
          simp only[Act.put,List.setIfInBounds_toArray,List.set_cons_succ,List.set_cons_zero,List.cons_append,List.nil_append]
          apply wpO_skip
          case hw=>rfl
          case k =>
          simp only[Act.put,List.setIfInBounds_toArray,List.set_cons_succ,List.set_cons_zero,List.cons_append,List.nil_append]
          apply wpO_skip
          case hw=>rfl
          case k =>
          simp only[Act.put,List.setIfInBounds_toArray,List.set_cons_succ,List.set_cons_zero,List.cons_append,List.nil_append]
          apply wpO_skip
          case hw=>rfl
          case k =>
          simp only[Act.put,List.setIfInBounds_toArray,List.set_cons_succ,List.set_cons_zero,List.cons_append,List.nil_append]
          apply wpO_skip
          case hw=>rfl
          case k =>
          simp only[Act.put,List.setIfInBounds_toArray,List.set_cons_succ,List.set_cons_zero,List.cons_append,List.nil_append]
          apply wpO_skip
          case hw=>rfl
          case k =>
          simp only[Act.put,List.setIfInBounds_toArray,List.set_cons_succ,List.set_cons_zero,List.cons_append,List.nil_append]
          apply wpO_skip
          case hw=>rfl
          case k =>
          simp only[Act.put,List.setIfInBounds_toArray,List.set_cons_succ,List.set_cons_zero,List.cons_append,List.nil_append]
          apply wpO_skip
          case hw=>rfl
          case k =>
          simp only[Act.put,List.setIfInBounds_toArray,List.set_cons_succ,List.set_cons_zero,List.cons_append,List.nil_append]
          apply wpO_skip
          case hw=>rfl
          case k =>
          simp only[Act.put,List.setIfInBounds_toArray,List.set_cons_succ,List.set_cons_zero,List.cons_append,List.nil_append]
          apply wpO_skip
          case hw=>rfl
          case k =>
          simp only[Act.put,List.setIfInBounds_toArray,List.set_cons_succ,List.set_cons_zero,List.cons_append,List.nil_append]
          apply wpO_skip
          case hw=>rfl
          case k =>
          simp only[Act.put,List.setIfInBounds_toArray,List.set_cons_succ,List.set_cons_zero,List.cons_append,List.nil_append]
          iterate 2 (apply wpO_det;(case hw=>rfl);(case h=>intro hFm wx hS_ hF_ K hK;go_big_quiet_op;first | exact hK _ rfl | (apply Exists.intro;refine⟨fun _=>?_,?_⟩;(focus (first | (intro hC;have hC:=hC.out;(try simp only[hC,Result.andThen]);first | exact⟨True.intro,rfl⟩ | exact⟨rfl,rfl⟩ | rfl)));exact hK _ rfl));(case' k=>simp only[Act.put,List.setIfInBounds_toArray,List.set_cons_succ,List.set_cons_zero,List.cons_append,List.nil_append]))
          apply wpO_skip
          case hw=>rfl
          case k =>
          simp only[Act.put,List.setIfInBounds_toArray,List.set_cons_succ,List.set_cons_zero,List.cons_append,List.nil_append]
          apply wpO_skip
          case hw=>rfl
          case k =>
          simp only[Act.put,List.setIfInBounds_toArray,List.set_cons_succ,List.set_cons_zero,List.cons_append,List.nil_append]
          apply wpO_skip
          case hw=>rfl
          case k =>
          simp only[Act.put,List.setIfInBounds_toArray,List.set_cons_succ,List.set_cons_zero,List.cons_append,List.nil_append]
          apply wpO_skip
          case hw=>rfl
          case k =>
          simp only[Act.put,List.setIfInBounds_toArray,List.set_cons_succ,List.set_cons_zero,List.cons_append,List.nil_append]
          apply wpO_skip
          case hw=>rfl
          case k =>
          simp only[Act.put,List.setIfInBounds_toArray,List.set_cons_succ,List.set_cons_zero,List.cons_append,List.nil_append]
          apply wpO_skip
          case hw=>rfl
          case k =>
          simp only[Act.put,List.setIfInBounds_toArray,List.set_cons_succ,List.set_cons_zero,List.cons_append,List.nil_append]
          apply wpO_skip
          case hw=>rfl
          case k =>
          simp only[Act.put,List.setIfInBounds_toArray,List.set_cons_succ,List.set_cons_zero,List.cons_append,List.nil_append]
          apply wpO_skip
          case hw=>rfl
          case k =>
          simp only[Act.put,List.setIfInBounds_toArray,List.set_cons_succ,List.set_cons_zero,List.cons_append,List.nil_append]
          apply wpO_skip
          case hw=>rfl
          case k =>
          simp only[Act.put,List.setIfInBounds_toArray,List.set_cons_succ,List.set_cons_zero,List.cons_append,List.nil_append]
          apply wpO_skip
          case hw=>rfl
          case k =>
          simp only[Act.put,List.setIfInBounds_toArray,List.set_cons_succ,List.set_cons_zero,List.cons_append,List.nil_append]
          apply wpO_skip
          case hw=>rfl
          case k =>
          simp only[Act.put,List.setIfInBounds_toArray,List.set_cons_succ,List.set_cons_zero,List.cons_append,List.nil_append]
          (apply wpO_det;(case hw=>rfl);(case h=>intro hFm wx hS_ hF_ K hK;go_big_quiet_op;first | exact hK _ rfl | (apply Exists.intro;refine⟨fun _=>?_,?_⟩;(focus (first | (intro hC;have hC:=hC.out;(try simp only[hC,Result.andThen]);first | exact⟨True.intro,rfl⟩ | exact⟨rfl,rfl⟩ | rfl)));exact hK _ rfl));(case' k=>simp only[Act.put,List.setIfInBounds_toArray,List.set_cons_succ,List.set_cons_zero,List.cons_append,List.nil_append]))
          refine wpO_nil ?_
          intro w5 hS hF hB
          (try simp[allF] at hF)
          (try simp[List.pairwise_cons] at hB)
          clear hF hB
          go_wp2_with fail
          go_meet
          exact⟨false,rfl,⟨fun h=>(by cases h),fun h=>absurd (HBB.out.1 h).1 (of_decide_eq_false hq2)⟩,hS⟩
         case true =>
          cases ot
          case false =>
           apply region_facts 45 (fun w' => Since w3 w')
           case hm=>kernel_rfl
           case hB=>kernel_rfl
           case hS=>exact HS4.out.drew
           case h =>
           simp only[List.take_succ_cons,List.take_zero,List.drop_succ_cons,List.drop_zero]
           iterate 12 (apply wpO_det;(case hw=>rfl);(case h=>intro hFm wx hS_ hF_ K hK;go_big_quiet_op;first | exact hK _ rfl | (apply Exists.intro;refine⟨fun _=>?_,?_⟩;(focus (first | (intro hC;have hC:=KF.out _ hC.out.1;(try simp only[hC,Result.andThen]);first | exact⟨True.intro,rfl⟩ | exact⟨rfl,rfl⟩ | rfl)));exact hK _ rfl));(case' k=>simp only[Act.put,List.setIfInBounds_toArray,List.set_cons_succ,List.set_cons_zero,List.cons_append,List.nil_append]))
           apply wpO_skip
           case hw=>rfl
           case k =>
           simp only[Act.put,List.setIfInBounds_toArray,List.set_cons_succ,List.set_cons_zero,List.cons_append,List.nil_append]
           apply wpO_skip
           case hw=>rfl
           case k =>
           simp only[Act.put,List.setIfInBounds_toArray,List.set_cons_succ,List.set_cons_zero,List.cons_append,List.nil_append]
           apply wpO_skip
           case hw=>rfl
           case k =>
           simp only[Act.put,List.setIfInBounds_toArray,List.set_cons_succ,List.set_cons_zero,List.cons_append,List.nil_append]
           apply wpO_skip
           case hw=>rfl
           case k =>
           simp only[Act.put,List.setIfInBounds_toArray,List.set_cons_succ,List.set_cons_zero,List.cons_append,List.nil_append]
           apply wpO_skip
           case hw=>rfl
           case k =>
           simp only[Act.put,List.setIfInBounds_toArray,List.set_cons_succ,List.set_cons_zero,List.cons_append,List.nil_append]
           apply wpO_skip
           case hw=>rfl
           case k =>
           simp only[Act.put,List.setIfInBounds_toArray,List.set_cons_succ,List.set_cons_zero,List.cons_append,List.nil_append]
           apply wpO_skip
           case hw=>rfl
           case k =>
           simp only[Act.put,List.setIfInBounds_toArray,List.set_cons_succ,List.set_cons_zero,List.cons_append,List.nil_append]
           apply wpO_skip
           case hw=>rfl
           case k =>
           simp only[Act.put,List.setIfInBounds_toArray,List.set_cons_succ,List.set_cons_zero,List.cons_append,List.nil_append]
           apply wpO_skip
           case hw=>rfl
           case k =>
           simp only[Act.put,List.setIfInBounds_toArray,List.set_cons_succ,List.set_cons_zero,List.cons_append,List.nil_append]
           apply wpO_skip
           case hw=>rfl
           case k =>
           simp only[Act.put,List.setIfInBounds_toArray,List.set_cons_succ,List.set_cons_zero,List.cons_append,List.nil_append]
           apply wpO_skip
           case hw=>rfl
           case k =>
           simp only[Act.put,List.setIfInBounds_toArray,List.set_cons_succ,List.set_cons_zero,List.cons_append,List.nil_append]
           apply wpO_skip
           case hw=>rfl
           case k =>
           simp only[Act.put,List.setIfInBounds_toArray,List.set_cons_succ,List.set_cons_zero,List.cons_append,List.nil_append]
           apply wpO_skip
           case hw=>rfl
           case k =>
           simp only[Act.put,List.setIfInBounds_toArray,List.set_cons_succ,List.set_cons_zero,List.cons_append,List.nil_append]
           apply wpO_skip
           case hw=>rfl
           case k =>
           simp only[Act.put,List.setIfInBounds_toArray,List.set_cons_succ,List.set_cons_zero,List.cons_append,List.nil_append]
           apply wpO_skip
           case hw=>rfl
           case k =>
           simp only[Act.put,List.setIfInBounds_toArray,List.set_cons_succ,List.set_cons_zero,List.cons_append,List.nil_append]
           apply wpO_skip
           case hw=>rfl
           case k =>
           simp only[Act.put,List.setIfInBounds_toArray,List.set_cons_succ,List.set_cons_zero,List.cons_append,List.nil_append]
           apply wpO_skip
           case hw=>rfl
           case k =>
           simp only[Act.put,List.setIfInBounds_toArray,List.set_cons_succ,List.set_cons_zero,List.cons_append,List.nil_append]
           apply wpO_skip
           case hw=>rfl
           case k =>
           simp only[Act.put,List.setIfInBounds_toArray,List.set_cons_succ,List.set_cons_zero,List.cons_append,List.nil_append]
           apply wpO_skip
           case hw=>rfl
           case k =>
           simp only[Act.put,List.setIfInBounds_toArray,List.set_cons_succ,List.set_cons_zero,List.cons_append,List.nil_append]
           iterate 2 (apply wpO_det;(case hw=>rfl);(case h=>intro hFm wx hS_ hF_ K hK;go_big_quiet_op;first | exact hK _ rfl | (apply Exists.intro;refine⟨fun _=>?_,?_⟩;(focus (first | (intro hC;have hC:=hC.out;(try simp only[hC,Result.andThen]);first | exact⟨True.intro,rfl⟩ | exact⟨rfl,rfl⟩ | rfl)));exact hK _ rfl));(case' k=>simp only[Act.put,List.setIfInBounds_toArray,List.set_cons_succ,List.set_cons_zero,List.cons_append,List.nil_append]))
           apply wpO_skip
           case hw=>rfl
           case k =>
           simp only[Act.put,List.setIfInBounds_toArray,List.set_cons_succ,List.set_cons_zero,List.cons_append,List.nil_append]
           apply wpO_skip
           case hw=>rfl
           case k =>
           simp only[Act.put,List.setIfInBounds_toArray,List.set_cons_succ,List.set_cons_zero,List.cons_append,List.nil_append]
           apply wpO_skip
           case hw=>rfl
           case k =>
           simp only[Act.put,List.setIfInBounds_toArray,List.set_cons_succ,List.set_cons_zero,List.cons_append,List.nil_append]
           apply wpO_skip
           case hw=>rfl
           case k =>
           simp only[Act.put,List.setIfInBounds_toArray,List.set_cons_succ,List.set_cons_zero,List.cons_append,List.nil_append]
           apply wpO_skip
           case hw=>rfl
           case k =>
           simp only[Act.put,List.setIfInBounds_toArray,List.set_cons_succ,List.set_cons_zero,List.cons_append,List.nil_append]
           apply wpO_skip
           case hw=>rfl
           case k =>
           simp only[Act.put,List.setIfInBounds_toArray,List.set_cons_succ,List.set_cons_zero,List.cons_append,List.nil_append]
           apply wpO_skip
           case hw=>rfl
           case k =>
           simp only[Act.put,List.setIfInBounds_toArray,List.set_cons_succ,List.set_cons_zero,List.cons_append,List.nil_append]
           apply wpO_skip
           case hw=>rfl
           case k =>
           simp only[Act.put,List.setIfInBounds_toArray,List.set_cons_succ,List.set_cons_zero,List.cons_append,List.nil_append]
           apply wpO_skip
           case hw=>rfl
           case k =>
           simp only[Act.put,List.setIfInBounds_toArray,List.set_cons_succ,List.set_cons_zero,List.cons_append,List.nil_append]
           apply wpO_skip
           case hw=>rfl
           case k =>
           simp only[Act.put,List.setIfInBounds_toArray,List.set_cons_succ,List.set_cons_zero,List.cons_append,List.nil_append]
           apply wpO_skip
           case hw=>rfl
           case k =>
           simp only[Act.put,List.setIfInBounds_toArray,List.set_cons_succ,List.set_cons_zero,List.cons_append,List.nil_append]
           (apply wpO_det;(case hw=>rfl);(case h=>intro hFm wx hS_ hF_ K hK;go_big_quiet_op;first | exact hK _ rfl | (apply Exists.intro;refine⟨fun _=>?_,?_⟩;(focus (first | (intro hC;have hC:=hC.out;(try simp only[hC,Result.andThen]);first | exact⟨True.intro,rfl⟩ | exact⟨rfl,rfl⟩ | rfl)));exact hK _ rfl));(case' k=>simp only[Act.put,List.setIfInBounds_toArray,List.set_cons_succ,List.set_cons_zero,List.cons_append,List.nil_append]))
           refine wpO_nil ?_
           intro w5 hS hF hB
           (try simp[allF] at hF)
           (try simp[List.pairwise_cons] at hB)
           clear hF hB
           go_wp2_with fail
           go_meet
           exact⟨false,rfl,⟨fun h=>(by cases h),fun h=>absurd HOT.out (by rw[eq_comm];simpa using (HBB.out.1 h).2.1)⟩,hS⟩
          case true =>
           have hne:a0≠a1:=by have:=HOT.out;simpa using this.symm
           have HNE:=Lib.hid hne
           have HBRO:=HBR.out
           clear hne
           rcases HBRO with hbm | ⟨e,hbe,hem⟩
           ·obtain rfl:b = -1:=hbm
            apply region_facts 45 (fun w' => Since w3 w')
            case hm=>kernel_rfl
            case hB=>kernel_rfl
            case hS=>exact HS4.out.drew
            case h =>
            simp only[List.take_succ_cons,List.take_zero,List.drop_succ_cons,List.drop_zero]
            iterate 15 (apply wpO_det;(case hw=>rfl);(case h=>intro hFm wx hS_ hF_ K hK;go_big_quiet_op;first | exact hK _ rfl | (apply Exists.intro;refine⟨fun _=>?_,?_⟩;(focus (first | (intro hC;have hC:=KF.out _ hC.out.1;(try simp only[hC,Result.andThen]);first | exact⟨True.intro,rfl⟩ | exact⟨rfl,rfl⟩ | rfl)));exact hK _ rfl));(case' k=>simp only[Act.put,List.setIfInBounds_toArray,List.set_cons_succ,List.set_cons_zero,List.cons_append,List.nil_append]))
            apply wpO_skip
            case hw=>rfl
            case k =>
            simp only[Act.put,List.setIfInBounds_toArray,List.set_cons_succ,List.set_cons_zero,List.cons_append,List.nil_append]
            apply wpO_skip
            case hw=>rfl
            case k =>
            simp only[Act.put,List.setIfInBounds_toArray,List.set_cons_succ,List.set_cons_zero,List.cons_append,List.nil_append]
            apply wpO_skip
            case hw=>rfl
            case k =>
            simp only[Act.put,List.setIfInBounds_toArray,List.set_cons_succ,List.set_cons_zero,List.cons_append,List.nil_append]
            apply wpO_skip
            case hw=>rfl
            case k =>
            simp only[Act.put,List.setIfInBounds_toArray,List.set_cons_succ,List.set_cons_zero,List.cons_append,List.nil_append]
            apply wpO_skip
            case hw=>rfl
            case k =>
            simp only[Act.put,List.setIfInBounds_toArray,List.set_cons_succ,List.set_cons_zero,List.cons_append,List.nil_append]
            apply wpO_skip
            case hw=>rfl
            case k =>
            simp only[Act.put,List.setIfInBounds_toArray,List.set_cons_succ,List.set_cons_zero,List.cons_append,List.nil_append]
            apply wpO_skip
            case hw=>rfl
            case k =>
            simp only[Act.put,List.setIfInBounds_toArray,List.set_cons_succ,List.set_cons_zero,List.cons_append,List.nil_append]
            apply wpO_skip
            case hw=>rfl
            case k =>
            simp only[Act.put,List.setIfInBounds_toArray,List.set_cons_succ,List.set_cons_zero,List.cons_append,List.nil_append]
            apply wpO_skip
            case hw=>rfl
            case k =>
            simp only[Act.put,List.setIfInBounds_toArray,List.set_cons_succ,List.set_cons_zero,List.cons_append,List.nil_append]
            apply wpO_skip
            case hw=>rfl
            case k =>
            simp only[Act.put,List.setIfInBounds_toArray,List.set_cons_succ,List.set_cons_zero,List.cons_append,List.nil_append]
            apply wpO_skip
            case hw=>rfl
            case k =>
            simp only[Act.put,List.setIfInBounds_toArray,List.set_cons_succ,List.set_cons_zero,List.cons_append,List.nil_append]
            apply wpO_skip
            case hw=>rfl
            case k =>
            simp only[Act.put,List.setIfInBounds_toArray,List.set_cons_succ,List.set_cons_zero,List.cons_append,List.nil_append]
            apply wpO_skip
            case hw=>rfl
            case k =>
            simp only[Act.put,List.setIfInBounds_toArray,List.set_cons_succ,List.set_cons_zero,List.cons_append,List.nil_append]
            apply wpO_skip
            case hw=>rfl
            case k =>
            simp only[Act.put,List.setIfInBounds_toArray,List.set_cons_succ,List.set_cons_zero,List.cons_append,List.nil_append]
            apply wpO_skip
            case hw=>rfl
            case k =>
            simp only[Act.put,List.setIfInBounds_toArray,List.set_cons_succ,List.set_cons_zero,List.cons_append,List.nil_append]
            iterate 13 (apply wpO_det;(case hw=>rfl);(case h=>intro hFm wx hS_ hF_ K hK;go_big_quiet_op;first | exact hK _ rfl | (apply Exists.intro;refine⟨fun _=>?_,?_⟩;(focus (first | (intro hC;have hC:=KF.out _ hC.out.1;(try simp only[hC,Result.andThen]);first | exact⟨True.intro,rfl⟩ | exact⟨rfl,rfl⟩ | rfl)));exact hK _ rfl));(case' k=>simp only[Act.put,List.setIfInBounds_toArray,List.set_cons_succ,List.set_cons_zero,List.cons_append,List.nil_append]))
            (apply wpO_det;(case hw=>rfl);(case h=>intro hFm wx hS_ hF_ K hK;go_big_quiet_op;first | exact hK _ rfl | (apply Exists.intro;refine⟨fun _=>?_,?_⟩;(focus (first | (intro hC;go_at_call 94;refine(HIN.out _ hC.out.1).mono ?_;rintro e w' ⟨rfl,hb⟩;refine⟨rfl,?_⟩;exact cls_call hFm hC hb)));exact hK _ rfl));(case' k=>simp only[Act.put,List.setIfInBounds_toArray,List.set_cons_succ,List.set_cons_zero,List.cons_append,List.nil_append]))
            (apply wpO_det;(case hw=>rfl);(case h=>intro hFm wx hS_ hF_ K hK;go_big_quiet_op;first | exact hK _ rfl | (apply Exists.intro;refine⟨fun _=>?_,?_⟩;(focus (first | (intro hC;have hC:=KF.out _ hC.out.1;(try simp only[hC,Result.andThen]);first | exact⟨True.intro,rfl⟩ | exact⟨rfl,rfl⟩ | rfl)));exact hK _ rfl));(case' k=>simp only[Act.put,List.setIfInBounds_toArray,List.set_cons_succ,List.set_cons_zero,List.cons_append,List.nil_append]))
            refine wpO_nil ?_
            intro w5 hS hF hB
            (try simp[allF] at hF)
            (try simp[List.pairwise_cons] at hB)
            clear hF hB
            go_wp2_with fail
            go_meet
            exact⟨ii,rfl,⟨fun h=>HBB.out.2 ⟨of_decide_eq_true hq2,HNE.out,.inl (by omega),h⟩,fun h=>(HBB.out.1 h).2.2.2⟩,hS⟩
           ·obtain rfl:b=(e:Int):=hbe
            have hem:=Nat.lt_trans hem hltd
            have hb0:decide ((e:Int)<0)=false:=by rw[decide_eq_false_iff_not];omega
            have e1:(0:Int)≤(e:Int):=by omega
            have e2:(e:Int)<(m:Int):=by omega
            obtain⟨t3,HT3⟩:∃ t3,Hid (t3=iAt T e):=⟨_,rfl⟩
            rw[Int.toNat_natCast,← HT3.out] at HBB
            have KT3:Hid (∀ w',Since w3 w' → w'.cell? ⟨gT,e,none⟩=some (.int .i64 t3)):=fun w' k=>by rw[HT3.out];exact KT.out e hem w' k
            cases hq3:decide (t2<t3)
            case false =>
             apply region_facts 45 (fun w' => Since w3 w')
             case hm=>kernel_rfl
             case hB=>kernel_rfl
             case hS=>exact HS4.out.drew
             case h =>
             simp only[List.take_succ_cons,List.take_zero,List.drop_succ_cons,List.drop_zero]
             iterate 27 (apply wpO_det;(case hw=>rfl);(case h=>intro hFm wx hS_ hF_ K hK;go_big_quiet_op;first | exact hK _ rfl | (apply Exists.intro;refine⟨fun _=>?_,?_⟩;(focus (first | (intro hC;have hC:=KF.out _ hC.out.1;(try simp only[hC,Result.andThen]);first | exact⟨True.intro,rfl⟩ | exact⟨rfl,rfl⟩ | rfl)));exact hK _ rfl));(case' k=>simp only[Act.put,List.setIfInBounds_toArray,List.set_cons_succ,List.set_cons_zero,List.cons_append,List.nil_append]))
             iterate 6 (apply wpO_det;(case hw=>rfl);(case h=>intro hFm wx hS_ hF_ K hK;go_big_quiet_op;first | exact hK _ rfl | (apply Exists.intro;refine⟨fun _=>?_,?_⟩;(focus (first | (intro hC;have hC:=KT3.out _ hC.out.1;(try simp only[hC,Result.andThen]);first | exact⟨True.intro,rfl⟩ | exact⟨rfl,rfl⟩ | rfl)));exact hK _ rfl));(case' k=>simp only[Act.put,List.setIfInBounds_toArray,List.set_cons_succ,List.set_cons_zero,List.cons_append,List.nil_append]))
             apply wpO_skip
             case hw=>rfl
             case k =>
             simp only[Act.put,List.setIfInBounds_toArray,List.set_cons_succ,List.set_cons_zero,List.cons_append,List.nil_append]
             apply wpO_skip
             case hw=>rfl
             case k =>
             simp only[Act.put,List.setIfInBounds_toArray,List.set_cons_succ,List.set_cons_zero,List.cons_append,List.nil_append]
             apply wpO_skip
             case hw=>rfl
             case k =>
             simp only[Act.put,List.setIfInBounds_toArray,List.set_cons_succ,List.set_cons_zero,List.cons_append,List.nil_append]
             apply wpO_skip
             case hw=>rfl
             case k =>
             simp only[Act.put,List.setIfInBounds_toArray,List.set_cons_succ,List.set_cons_zero,List.cons_append,List.nil_append]
             apply wpO_skip
             case hw=>rfl
             case k =>
             simp only[Act.put,List.setIfInBounds_toArray,List.set_cons_succ,List.set_cons_zero,List.cons_append,List.nil_append]
             apply wpO_skip
             case hw=>rfl
             case k =>
             simp only[Act.put,List.setIfInBounds_toArray,List.set_cons_succ,List.set_cons_zero,List.cons_append,List.nil_append]
             apply wpO_skip
             case hw=>rfl
             case k =>
             simp only[Act.put,List.setIfInBounds_toArray,List.set_cons_succ,List.set_cons_zero,List.cons_append,List.nil_append]
             apply wpO_skip
             case hw=>rfl
             case k =>
             simp only[Act.put,List.setIfInBounds_toArray,List.set_cons_succ,List.set_cons_zero,List.cons_append,List.nil_append]
             apply wpO_skip
             case hw=>rfl
             case k =>
             simp only[Act.put,List.setIfInBounds_toArray,List.set_cons_succ,List.set_cons_zero,List.cons_append,List.nil_append]
             apply wpO_skip
             case hw=>rfl
             case k =>
             simp only[Act.put,List.setIfInBounds_toArray,List.set_cons_succ,List.set_cons_zero,List.cons_append,List.nil_append]
             apply wpO_skip
             case hw=>rfl
             case k =>
             simp only[Act.put,List.setIfInBounds_toArray,List.set_cons_succ,List.set_cons_zero,List.cons_append,List.nil_append]
             (apply wpO_det;(case hw=>rfl);(case h=>intro hFm wx hS_ hF_ K hK;go_big_quiet_op;first | exact hK _ rfl | (apply Exists.intro;refine⟨fun _=>?_,?_⟩;(focus (first | (intro hC;have hC:=hC.out;(try simp only[hC,Result.andThen]);first | exact⟨True.intro,rfl⟩ | exact⟨rfl,rfl⟩ | rfl)));exact hK _ rfl));(case' k=>simp only[Act.put,List.setIfInBounds_toArray,List.set_cons_succ,List.set_cons_zero,List.cons_append,List.nil_append]))
             refine wpO_nil ?_
             intro w5 hS hF hB
             (try simp[allF] at hF)
             (try simp[List.pairwise_cons] at hB)
             clear hF hB
             go_wp2_with fail
             go_meet
             exact⟨false,rfl,⟨fun h=>(by cases h),fun h=>absurd (HBB.out.1 h).2.2.1 (by have:=of_decide_eq_false hq3;omega)⟩,hS⟩
            case true =>
             apply region_facts 45 (fun w' => Since w3 w')
             case hm=>kernel_rfl
             case hB=>kernel_rfl
             case hS=>exact HS4.out.drew
             case h =>
             simp only[List.take_succ_cons,List.take_zero,List.drop_succ_cons,List.drop_zero]
             iterate 27 (apply wpO_det;(case hw=>rfl);(case h=>intro hFm wx hS_ hF_ K hK;go_big_quiet_op;first | exact hK _ rfl | (apply Exists.intro;refine⟨fun _=>?_,?_⟩;(focus (first | (intro hC;have hC:=KF.out _ hC.out.1;(try simp only[hC,Result.andThen]);first | exact⟨True.intro,rfl⟩ | exact⟨rfl,rfl⟩ | rfl)));exact hK _ rfl));(case' k=>simp only[Act.put,List.setIfInBounds_toArray,List.set_cons_succ,List.set_cons_zero,List.cons_append,List.nil_append]))
             iterate 7 (apply wpO_det;(case hw=>rfl);(case h=>intro hFm wx hS_ hF_ K hK;go_big_quiet_op;first | exact hK _ rfl | (apply Exists.intro;refine⟨fun _=>?_,?_⟩;(focus (first | (intro hC;have hC:=KT3.out _ hC.out.1;(try simp only[hC,Result.andThen]);first | exact⟨True.intro,rfl⟩ | exact⟨rfl,rfl⟩ | rfl)));exact hK _ rfl));(case' k=>simp only[Act.put,List.setIfInBounds_toArray,List.set_cons_succ,List.set_cons_zero,List.cons_append,List.nil_append]))
             iterate 9 (apply wpO_det;(case hw=>rfl);(case h=>intro hFm wx hS_ hF_ K hK;go_big_quiet_op;first | exact hK _ rfl | (apply Exists.intro;refine⟨fun _=>?_,?_⟩;(focus (first | (intro hC;have hC:=KF.out _ hC.out.1;(try simp only[hC,Result.andThen]);first | exact⟨True.intro,rfl⟩ | exact⟨rfl,rfl⟩ | rfl)));exact hK _ rfl));(case' k=>simp only[Act.put,List.setIfInBounds_toArray,List.set_cons_succ,List.set_cons_zero,List.cons_append,List.nil_append]))
             (apply wpO_det;(case hw=>rfl);(case h=>intro hFm wx hS_ hF_ K hK;go_big_quiet_op;first | exact hK _ rfl | (apply Exists.intro;refine⟨fun _=>?_,?_⟩;(focus (first | (intro hC;go_at_call 94;refine(HIN.out _ hC.out.1).mono ?_;rintro e w' ⟨rfl,hb⟩;refine⟨rfl,?_⟩;exact cls_call hFm hC hb)));exact hK _ rfl));(case' k=>simp only[Act.put,List.setIfInBounds_toArray,List.set_cons_succ,List.set_cons_zero,List.cons_append,List.nil_append]))
             (apply wpO_det;(case hw=>rfl);(case h=>intro hFm wx hS_ hF_ K hK;go_big_quiet_op;first | exact hK _ rfl | (apply Exists.intro;refine⟨fun _=>?_,?_⟩;(focus (first | (intro hC;have hC:=KF.out _ hC.out.1;(try simp only[hC,Result.andThen]);first | exact⟨True.intro,rfl⟩ | exact⟨rfl,rfl⟩ | rfl)));exact hK _ rfl));(case' k=>simp only[Act.put,List.setIfInBounds_toArray,List.set_cons_succ,List.set_cons_zero,List.cons_append,List.nil_append]))
             refine wpO_nil ?_
             intro w5 hS hF hB
             (try simp[allF] at hF)
             (try simp[List.pairwise_cons] at hB)
             clear hF hB
             go_wp2_with fail
             go_meet
             exact⟨ii,rfl,⟨fun h=>HBB.out.2 ⟨of_decide_eq_true hq2,HNE.out,.inr (of_decide_eq_true hq3),h⟩,fun h=>(HBB.out.1 h).2.2.2⟩,hS⟩
        case rest =>
         obtain⟨bb,hv8,hbb,hs8⟩:=hcut
         subst hv8
         have HBI:=Lib.hid hbb
         obtain⟨w5,rfl⟩:∃ w5,w5=wc:=⟨_,rfl⟩
         have HS5:=Lib.hid (HS.out.trans hs8)
         have HM5:=Lib.hid (HM.out.since hs8)
         clear hs8 hbb KF KT HIN HS4 HS HM
         cases bb
         ·go_wp2_with fail
          go_roundg (gk-1)
          case measure=>omega
          case rel=>exact⟨d+1,by omega,by go_num,by rw[HBS.out,if_neg (by rw[← HBI.out];simp)],HS5,HM5⟩
         ·go_wp2_with fail
          go_roundg (gk-1)
          case measure=>omega
          case rel=>exact⟨d+1,by omega,by go_num,by rw[HBS.out,if_pos (HBI.out.1 (by trivial))],HS5,HM5⟩
       ·obtain rfl:m=d:=by omega
        have hz3:decide ((m:Int)<(m:Int))=false:=by rw[decide_eq_false_iff_not];omega
        have HBRO:=HBR.out
        rcases HBRO with hbm | ⟨e,hbe,hem⟩
        ·obtain rfl:b = -1:=hbm
         go_wp2_with fail
         go_roundg (m-c-1)
         case measure=>omega
         case rel=>exact⟨c+1,by omega,by go_num,HS,by rw[HFS.out,if_neg (by omega),← Hb.out,if_neg (by omega)];exact HM⟩
        ·obtain rfl:b=(e:Int):=hbe
         have cfe:=HM.out.cell (j:=e) (by rw[HFL.out,← HML.out];exact hem)
         have cfc:=HM.out.cell (j:=c) (by rw[HFL.out,← HML.out];exact hcm)
         have ffc:=HM.out.frozen c
         have hb0:decide ((0:Int)≤(e:Int))=true:=by rw[decide_eq_true_eq];omega
         have e1:(0:Int)≤(e:Int):=by omega
         have e2:(e:Int)<(m:Int):=by omega
         obtain⟨y,HY⟩:∃ y,Hid (y=iAt f e):=⟨_,rfl⟩
         rw[← HY.out] at cfe
         have hgf:=HM.out.ge
         have HMP:=Lib.hid (And.intro (HS.out.setCell (p:=⟨gf,c,none⟩) (by dsimp only;omega) (.int .i64 y)) (HM.out.put (j:=c) (by rw[HFL.out,← HML.out];exact hcm) y))
         clear HS HM hgf
         go_wp2_with fail
         go_roundg (m-c-1)
         case measure=>omega
         case rel=>exact⟨c+1,by omega,by go_num,HMP.out.1,by rw[HFS.out,if_neg (by omega),← Hb.out,if_pos (by omega),Int.toNat_natCast,← HY.out];exact HMP.out.2⟩
    ·obtain rfl:m=c:=by omega
     have hz2:decide ((m:Int)<(m:Int))=false:=by rw[decide_eq_false_iff_not];omega
     have c1:w1.cell? ⟨G,1,none⟩=some (.slice (some ⟨gH,0,none⟩) N cH):=by
      have:=HM.out.blk.cell 1
      rw[this]
      simp[stF,HH.out,mkH_len]
     have HFF:=Lib.hid (fac1_lenF I T m)
     rw[← HF.out] at HFF
     obtain⟨gF,cF,hvF⟩:=HM.out.maker.rows.some_ (i:=2) rfl HFF.out.1
     have hvF2:vF=.slice (some ⟨gF,0,none⟩) F.length cF:=hvF
     subst hvF2
     clear hvF HFS
     obtain⟨nF,HNF⟩:∃ nF,Hid (nF=F.length):=⟨_,rfl⟩
     rw[← HNF.out] at HM HFF
     have HM0:Hid (MkX w1 G (stF gP cP gH cH gO V P (mkH N fr (fun g=>nxn g) (fun _=>0)) O (.slice (some ⟨gF,0,none⟩) nF cF) (.slice (some ⟨gC,0,none⟩) N N) (.slice (some ⟨gI,0,none⟩) m cI) (.slice (some ⟨gT,0,none⟩) m cT) (.slice (some ⟨gA,0,none⟩) V V) (fac3 f C F 0) C I T A) [rI (.slice (some ⟨gf,0,none⟩) m m) f]):=by
      rw[← HH.out];exact HM.out
     have n1:(0:Int)<(nF:Int):=by have:=HFF.out.1;omega
     clear HM
     go_wp2_with fail
     clear c1
     go_loopw [197] (fun v197 wr=>∃ (h:Nat) (fc:Nat→Int),h≤N∧v197=.int .i64 h∧Hid (Since w0 wr)∧Hid (MkX wr G (stF gP cP gH cH gO V P (mkH N fr (fun g=>nxn g) fc) O (.slice (some ⟨gF,0,none⟩) nF cF) (.slice (some ⟨gC,0,none⟩) N N) (.slice (some ⟨gI,0,none⟩) m cI) (.slice (some ⟨gT,0,none⟩) m cT) (.slice (some ⟨gA,0,none⟩) V V) (fac3 f C F h) C I T A) [rI (.slice (some ⟨gf,0,none⟩) m m) f])∧Hid (∀ i,i<h→fc i=iAt f (iAt C i).toNat)) (fun v197 _=>N-(intOf v197).toNat)
     case atStart=>exact⟨0,_,by omega,by go_num,HS,HM0,fun i hi=>absurd hi (Nat.not_lt_zero _)⟩
     case round =>
      clear HS HM0
      obtain⟨h,fc,hh,rfl,HS,HM,HFX⟩:=hrel
      obtain⟨w2,rfl⟩:∃ w2,w2=wr:=⟨_,rfl⟩
      rcases Nat.lt_or_ge h N with hltN | hgeN
      ·have hz3:decide ((h:Int)<(N:Int))=true:=by rw[decide_eq_true_eq];omega
       have h1:(0:Int)≤(h:Int):=by omega
       have h2:(h:Int)<(N:Int):=by omega
       obtain⟨cc,hcc,hccm⟩:=HCC.out h hltN
       have HF3:Hid (fac3 f C F (h+1)=if iAt f cc=0∧iAt (fac3 f C F h) 0<0 then(fac3 f C F h).set 0 (h:Int) else fac3 f C F h):=by
        show _=_
        rw[fac3_succ,hcc,Int.toNat_natCast]
       have HFL3:=Lib.hid (fac3_len f C F h)
       obtain⟨F3,HF3E⟩:∃ F3,Hid (F3=fac3 f C F h):=⟨_,rfl⟩
       rw[← HF3E.out] at HF3 HM HFL3
       obtain⟨y,HY⟩:∃ y,Hid (y=iAt f cc):=⟨_,rfl⟩
       rw[← HY.out] at HF3
       have c3:w2.cell? ⟨G,3,none⟩=some (.slice (some ⟨gC,0,none⟩) N N):=HM.out.blk.cell 3
       have cC1:w2.cell? ⟨gC,h,none⟩=some (.int .i64 (cc:Nat)):=by rw[← hcc];exact rowI_at HM.out.maker.rows (i:=3) rfl (by show h<C.length;rw[HCL.out];exact hltN)
       have cf:w2.cell? ⟨gf,cc,none⟩=some (.int .i64 y):=by rw[HY.out];exact HM.out.cell (j:=cc) (by rw[HFL.out,← HML.out];exact hccm)
       have q1:(0:Int)≤(cc:Int):=by omega
       have q2:(cc:Int)<(m:Int):=by omega
       have c1:w2.cell? ⟨G,1,none⟩=some (.slice (some ⟨gH,0,none⟩) N cH):=by
        have:=HM.out.blk.cell 1
        rw[this]
        simp[stF,mkH_len]
       have rH:=HM.out.rows.cell (i:=1) rfl rfl (j:=h*4+3) (by show h*4+3<(mkH N fr (fun g=>(nxn g:Int)) fc).length*4;rw[mkH_len];omega)
       have rH2:∃ u,w2.cell? ⟨gH,h*4+3,none⟩=some u:=by
        rw[rH,List.getElem?_eq_getElem (by show h*4+3<((mkH N fr (fun g=>(nxn g:Int)) fc).flatMap hfV).length;rw[flatH_len,mkH_len];omega)]
        exact⟨_,rfl⟩
       obtain⟨u7,rH2⟩:=rH2
       have fH:=HM.out.rows.frozen (i:=1) rfl rfl (h*4+3)
       have hgeH:=HM.out.rows.ge (i:=1) rfl (g:=gH) rfl
       have hst:=HM.out.rows.store (i:=1) rfl rfl (j:=h*4+3) (by show h*4+3<(mkH N fr (fun g=>(nxn g:Int)) fc).length*4;rw[mkH_len];omega) (.int .i64 y)
       have HMH:MkX (w2.setCell ⟨gH,h*4+3,none⟩ (.int .i64 y)) G (stF gP cP gH cH gO V P (mkH N fr (fun g=>nxn g) (upd fc h y)) O (.slice (some ⟨gF,0,none⟩) nF cF) (.slice (some ⟨gC,0,none⟩) N N) (.slice (some ⟨gI,0,none⟩) m cI) (.slice (some ⟨gT,0,none⟩) m cT) (.slice (some ⟨gA,0,none⟩) V V) F3 C I T A) [rI (.slice (some ⟨gf,0,none⟩) m m) f]:=by
        refine⟨?_,?_⟩
        ·have:=HM.out.blk.far (p:=⟨gH,h*4+3,none⟩) (by dsimp only;omega) (.int .i64 y)
         simpa only[stF,mkH_len] using this
        ·rw[← stF_H hltN y]
         exact hst
       have HW3:=Lib.hid (And.intro (HS.out.setCell (p:=⟨gH,h*4+3,none⟩) (by dsimp only;omega) (.int .i64 y)) HMH)
       clear hst HMH rH
       go_upto_region 30 with fail
       refine atW (fun w' => Hid (Since w0 w' ∧ MkX w' G (stF gP cP gH cH gO V P (mkH N fr (fun g=>nxn g) (upd fc h y)) O (.slice (some ⟨gF,0,none⟩) nF cF) (.slice (some ⟨gC,0,none⟩) N N) (.slice (some ⟨gI,0,none⟩) m cI) (.slice (some ⟨gT,0,none⟩) m cT) (.slice (some ⟨gA,0,none⟩) V V) F3 C I T A) [rI (.slice (some ⟨gf,0,none⟩) m m) f])) HW3 ?_
       clear HW3 c3 cC1 cf c1 rH2 fH hgeH HS HM q1 q2
       rintro w3 HW3
       have HFX2:Hid (∀ i,i<h+1→upd fc h y i=iAt f (iAt C i).toNat):=fun i' hi' => by
        unfold upd
        split
        ·rename_i e;rw[e,hcc,Int.toNat_natCast,HY.out]
        ·exact HFX.out i' (by omega)
       have c2:w3.cell? ⟨G,2,none⟩=some (.slice (some ⟨gF,0,none⟩) nF cF):=HW3.out.2.blk.cell 2
       have HF3P:0<F3.length:=by rw[HFL3.out,← HNF.out];exact HFF.out.1
       have cF0:w3.cell? ⟨gF,0,none⟩=some (.int .i64 (iAt F3 0)):=rowI_at HW3.out.2.maker.rows (i:=2) rfl HF3P
       obtain⟨z,HZ⟩:∃ z,Hid (z=iAt F3 0):=⟨_,rfl⟩
       rw[← HZ.out] at cF0 HF3
       clear hcc HFX
       by_cases hy0:y=0
       ·have hyb:(y == 0)=true:=by rw[hy0];rfl
        by_cases hz0:z<0
        ·have hzb:decide (z<0)=true:=decide_eq_true hz0
         have f2:=HW3.out.2.rows.frozen (i:=2) rfl rfl 0
         have hge2:=HW3.out.2.rows.ge (i:=2) rfl (g:=gF) rfl
         have hst:=HW3.out.2.rows.store (i:=2) rfl rfl (j:=0) (by show 0<F3.length*1;omega) (iV h)
         have HMF:MkX (w3.setCell ⟨gF,0,none⟩ (.int .i64 h)) G (stF gP cP gH cH gO V P (mkH N fr (fun g=>nxn g) (upd fc h y)) O (.slice (some ⟨gF,0,none⟩) nF cF) (.slice (some ⟨gC,0,none⟩) N N) (.slice (some ⟨gI,0,none⟩) m cI) (.slice (some ⟨gT,0,none⟩) m cT) (.slice (some ⟨gA,0,none⟩) V V) (F3.set 0 (h:Int)) C I T A) [rI (.slice (some ⟨gf,0,none⟩) m m) f]:=by
          refine⟨HW3.out.2.blk.far (p:=⟨gF,0,none⟩) (by dsimp only;omega) (.int .i64 h),?_⟩
          rw[← stF_F (h:Int)]
          exact hst
         have HW4:=Lib.hid (And.intro (HW3.out.1.setCell (p:=⟨gF,0,none⟩) (by dsimp only;omega) (.int .i64 h)) HMF)
         clear hst HMF hge2 HW3
         go_wp2_with fail
         go_roundw
         case rel=>exact⟨h+1,_,by omega,by go_num,HW4.out.1,by rw[HF3.out,if_pos ⟨hy0,hz0⟩];exact HW4.out.2,HFX2⟩
         case measure=>simp[intOf];omega
        ·have hzb:decide (z<0)=false:=decide_eq_false hz0
         go_wp2_with fail
         go_roundw
         case rel=>exact⟨h+1,_,by omega,by go_num,HW3.out.1,by rw[HF3.out,if_neg (fun k=>hz0 k.2)];exact HW3.out.2,HFX2⟩
         case measure=>simp[intOf];omega
       ·have hyb:(y == 0)=false:=by rw[beq_eq_false_iff_ne];exact hy0
        go_wp2_with fail
        go_roundw
        case rel=>exact⟨h+1,_,by omega,by go_num,HW3.out.1,by rw[HF3.out,if_neg (fun k=>hy0 k.1)];exact HW3.out.2,HFX2⟩
        case measure=>simp[intOf];omega
      ·obtain rfl:N=h:=by omega
       have hz3:decide ((N:Int)<(N:Int))=false:=by rw[decide_eq_false_iff_not];omega
       go_wp2_with fail
       go_end0
       refine⟨rfl,HS.out,.slice (some ⟨gF,0,none⟩) nF cF,?_⟩
       rw[← Hf.out,← HF.out,← mkH_congr (nx:=fun g=>(nxn g:Int)) (nx' := fun g=>nxn g) (fun _ _=>rfl) HFX.out]
       exact HM.out.maker
end
end Go.Proofs.YtdnccjdlmepafaaGreat
