/-
  Plain: what arr builds is determined by the segments; The walk of arr's Build: the subdivision of segments; What reads as a subdivision; the walk of arr's Lines; slices.Equal over half-edges and over ints, of a list and itself; half.Same; The walk of arr's Build for no segments; half.Check of what Build makes: OK; What is known of the half-edges that Build makes: ends, twins, next ones, faces; Plain: how often each number is the next one of another: once. Conditions: those that each lemma names.
-/
import Derived.Test.YtdnccjdlmepafaaGreatK22
import Derived.Test.YtdnccjdlmepafaaGreatK17
import Derived.Test.YtdnccjdlmepafaaGreatK26
import Derived.Test.YtdnccjdlmepafaaGreatK02
set_option linter.unusedSimpArgs false
set_option linter.unusedVariables false
set_option linter.constructorNameAsVariable false
namespace Go.Proofs.YtdnccjdlmepafaaGreat
section
open Go.RowKit Go.BigFrame
theorem Cyc.total {N:Nat} {nx:Nat→Nat} {cr:Nat→Int} {C I T:List Int} (h:Cyc N nx cr N C I T) {g:Nat} (hg:g<N):∃ c:Nat,iAt C g=c∧c<I.length:=by
 have h1:=h.done g hg hg
 rcases h.rng g hg with k | ⟨-,k⟩
 ·omega
 ·exact ⟨(iAt C g).toNat,by omega,by omega⟩
section
variable {E : List Sg} {P : List Pt2} {n : Nat}
end
end
section
open Go.RowKit Go.BigFrame
attribute [local go_sem ↓] eqPt neqPt
def teK (E:List Sg) (P:List Pt2) (x:Int):Nat:=frH E P (twN x.toNat)
def BldR (E:List Sg) (P:List Pt2) (H:List Hf) (F:List Int):Prop :=
 ∃ (O:List (Value×List Int)) (C I T:List Int),P=hullS (ptsK E E.length)∧O.length=P.length∧(∀ v,v<P.length→SrtO P (hfK E P (2*E.length)) (outK E P (2*E.length) v) (O.getD v (nilV,[])).2) ∧
  Cyc (2*E.length) (nxN (frH E P) (rowO O)) (crI P (frH E P)) (2*E.length) C I T ∧
  H=mkH (2*E.length) (frH E P) (fun g=>nxN (frH E P) (rowO O) g) (fun h=>iAt (fac2 P (frH E P) (nxN (frH E P) (rowO O)) I T (prtK (teK E P) (rowO O) P.length P.length) I.length) (iAt C h).toNat) ∧
  F=fac3 (fac2 P (frH E P) (nxN (frH E P) (rowO O)) I T (prtK (teK E P) (rowO O) P.length P.length) I.length) C (fac1 I T I.length).2 (2*E.length)
theorem end_pts {E:List Sg} {n:Nat} (hn:n=E.length):∀ h,h<2*n→endH E h∈hullS (ptsK E n):=fun h hh=>hullS_mem.2 (endH_mem hh hn)
theorem Rws.mono {w:World} {B B' : Nat} {L:List Rw} (h:Rws w B L) (hB:B' ≤ B):Rws w B' L:=⟨fun i r hi=>(h.ok i r hi).mono hB,h.ap⟩
def MapS (w:World) (B:Nat) (vP vH vF:Value) (P:List Pt2) (H:List Hf) (F:List Int):Prop :=
 Rws w B [⟨vP,36,2,P.length,P.flatMap ptV⟩,⟨vH,33,4,H.length,H.flatMap hfV⟩,rI vF F]
theorem Mk.map {w:World} {G:Nat} {s:St} (h:Mk w G s):MapS w (G+1) s.vP s.vH s.vF s.P s.H s.F:=by
 have h2:=h.rows
 unfold St.rows at h2
 exact Rws.init (M:=(rI s.vC s.C) :: (rI s.vI s.I) :: (rI s.vT s.T) :: (rI s.vA s.A) :: _) h2
def BldS (w:World) (G:Nat) (E:List Sg):Prop:=∃ (vP vH vF:Value) (P:List Pt2) (H:List Hf) (F:List Int) (vs:List Value),Blk w G 94 (vP :: vH :: vF :: vs).toArray∧MapS w (G+1) vP vH vF P H F∧BldR E P H F
set_option maxRecDepth 100000 in
set_option maxHeartbeats 4000000 in
theorem Steps_any (a:Option Addr) (c G:Nat) (E:List Sg) (w0 w:World) (hs0:Since w0 w) (hG:w0.heap.size≤G) (hM:Mk w G St.nil) (hv:SegsN w0 (.slice a E.length c) E) (hE:RndOk E) (hl:E.length≤3000) (hpos:0<E.length) :
  Calls Tryz.prog 64 #[.pointer (some ⟨G,0,none⟩),.slice a E.length c] w fun e1 w1=>e1=.returned (.tuple #[])∧Since w0 w1 ∧
  Calls Tryz.prog 65 #[.pointer (some ⟨G,0,none⟩)] w1 fun e2 w2=>e2=.returned (.tuple #[])∧Since w0 w2 ∧
  Calls Tryz.prog 66 #[.pointer (some ⟨G,0,none⟩)] w2 fun e3 w3=>e3=.returned (.tuple #[])∧Since w0 w3 ∧
  Calls Tryz.prog 67 #[.pointer (some ⟨G,0,none⟩)] w3 fun e4 w4=>e4=.returned (.tuple #[])∧Since w0 w4 ∧
   BldS w4 G E:=by
 refine (Begin_any a c G E w0 w hs0 hG hM hv hE hl hpos).mono ?_
 rintro e1 w1 ⟨rfl,hs1,gP,cP,gO,gH,cH,V,n,P,O,hn,hP,hV,hM1,hOl,hO⟩
 refine ⟨rfl,hs1,?_⟩
 subst hn
 have K:Net (2*E.length) V P (frH E P) (rowO O):=net_begin hE rfl hl hpos hP hV hO
 have hM1' : Mk w1 G (stL gP cP gH cH gO V P (mkH (2*E.length) (frH E P) (fun _=>0) (fun _=>0)) O nilV nilV nilV [] [] []):=hM1
 refine (Link_any G gP cP gO gH cH V (2*E.length) P (frH E P) O w0 w1 hs1 hG hM1' hOl K).mono ?_
 rintro e2 w2 ⟨rfl,hs2,gC,vI,vT,C,I,T,hM2,hC⟩
 refine ⟨rfl,hs2,?_⟩
 rw [mkH_congr (nx' := fun g=>((nxN (frH E P) (rowO O) g:Nat):Int)) (fc' := fun _=>0) (fun i hi=>(K.nx hi).1) (fun _ _=>rfl)] at hM2
 have hVp:0<V:=by
  have:=K.fr_lt 0 (by omega)
  omega
 have hT:∀ v,v<V→∀ x∈rowO O v,∃ h:Nat,x=h∧twN h<(mkH (2*E.length) (frH E P) (fun g=>((nxN (frH E P) (rowO O) g:Nat):Int)) (fun _=>0)).length∧(hAt (mkH (2*E.length) (frH E P) (fun g=>((nxN (frH E P) (rowO O) g:Nat):Int)) (fun _=>0)) (twN h)).1=(teK E P x:Int)∧teK E P x<V:=fun v hv x hx=>by
  obtain ⟨h,rfl,hh,-⟩:=(K.mem v hv x).1 hx
  have ht:=K.tw_lt hh
  refine ⟨h,rfl,by rw [mkH_len];exact ht,?_,?_⟩
  ·rw [mkH_at ht];unfold teK;rw [Int.toNat_natCast]
  ·unfold teK;rw [Int.toNat_natCast];exact K.fr_lt _ ht
 have hRl:∀ v,v<V→(rowO O v).length≤6000:=fun v hv=>by
  have:=len_le_of_sub (K.nd v hv) (m:=(List.range (2*E.length)).map (fun i:Nat=>(i:Int))) (fun x hx=>by
   obtain ⟨h,rfl,hh,-⟩:=(K.mem v hv x).1 hx
   exact List.mem_map.2 ⟨h,List.mem_range.2 hh,rfl⟩)
  simp at this
  omega
 refine (Parts_any G gP cP gO gH cH V P _ O _ vI vT C I T (teK E P) w0 w2 hs2 hG hM2 hOl K.len.symm hVp K.vle (by rw [mkH_len];have:=K.le;omega) hT hRl).mono ?_
 rintro e3 w3 ⟨rfl,hs3,gA,hM3⟩
 refine ⟨rfl,hs3,?_⟩
 have hIp:0<I.length:=by
  obtain ⟨c,-,hc⟩:=hC.total (g:=0) (by omega)
  omega
 obtain ⟨gI,cI,hvI⟩:=hM3.rows.some_ (i:=4) rfl (show 0<I.length from hIp)
 obtain ⟨gT,cT,hvT⟩:=hM3.rows.some_ (i:=5) rfl (show 0<T.length by rw [hC.lenT];exact hIp)
 have hvI2:vI=.slice (some ⟨gI,0,none⟩) I.length cI:=hvI
 have hvT2:vT=.slice (some ⟨gT,0,none⟩) T.length cT:=hvT
 rw [hC.lenT] at hvT2
 subst hvI2 hvT2
 have hWY:Way (2*E.length) V P (frH E P) (nxN (frH E P) (rowO O)):=⟨K.le,K.vle,K.len,K.perm,K.fr_lt,fun g hg=>K.tw_lt hg⟩
 have hRV:∀ v,v<V→∀ x∈rowO O v,teK E P x<V:=fun v hv x hx=>by obtain ⟨h,-,-,-,k⟩:=hT v hv x hx;exact k
 refine (Faces_any G gP cP gO gH cH gC gI cI gT cT gA (2*E.length) V I.length P (frH E P) (nxN (frH E P) (rowO O)) O C I T (prtK (teK E P) (rowO O) V V) w0 w3 hs3 hG hWY rfl hIp ?_ hC.lenT hC.lenC (prtK_len hRV V (Nat.le_refl _)) ?_ (fun g hg=>hC.total hg) hM3).mono ?_
 ·have:=hC.le;omega
 ·intro c hc
  obtain ⟨g,e,-,hg,-⟩:=hC.fst c hc
  exact ⟨g,e,hg⟩
 rintro e4 w4 ⟨rfl,hs4,vF,hM4⟩
 refine ⟨rfl,hs4,_,_,vF,P,_,_,_,hM4.blk,hM4.map,O,C,I,T,hP,by rw [hOl,hV],?_,hC,?_,?_⟩
 ·intro v hv
  exact hO v (by rw [hV];exact hv)
 ·rw [← K.len];rfl
 ·rw [← K.len];rfl
set_option maxRecDepth 100000 in
set_option maxHeartbeats 4000000 in
theorem BuildS_any (a:Option Addr) (c:Nat) (E:List Sg) (w:World) (hv:SegsN w (.slice a E.length c) E) (hE:RndOk E) (hl:E.length≤3000)
  (hst:∀ (G:Nat) (w0 w' : World),Since w0 w' → w0.heap.size≤G→Mk w' G St.nil→SegsN w0 (.slice a E.length c) E → 
   Calls Tryz.prog 64 #[.pointer (some ⟨G,0,none⟩),.slice a E.length c] w' fun e1 w1=>e1=.returned (.tuple #[])∧Since w0 w1 ∧
   Calls Tryz.prog 65 #[.pointer (some ⟨G,0,none⟩)] w1 fun e2 w2=>e2=.returned (.tuple #[])∧Since w0 w2 ∧
   Calls Tryz.prog 66 #[.pointer (some ⟨G,0,none⟩)] w2 fun e3 w3=>e3=.returned (.tuple #[])∧Since w0 w3 ∧
   Calls Tryz.prog 67 #[.pointer (some ⟨G,0,none⟩)] w3 fun e4 w4=>e4=.returned (.tuple #[])∧Since w0 w4∧BldS w4 G E) :
  Calls Tryz.prog 40 #[.slice a E.length c] w fun e w' => ∃ (vP vH vF:Value) (P:List Pt2) (H:List Hf) (F:List Int),e=.returned (.tuple #[.agg #[vP,vH,vF],.int .i64 0])∧Since w w' ∧ MapS w' w.heap.size vP vH vF P H F∧BldR E P H F:=by
 have HST:=Lib.hid hst
 have HV:=Lib.hid hv
 have HCK:=Lib.hid (fun w' (k:Since w w')=>ArrCheck_any (.slice a E.length c) E w' (hv.since k) hE hl)
 clear hst hv hE
 obtain ⟨n,HN⟩:∃ n,Hid (n=E.length):=⟨_,rfl⟩
 rw [← HN.out] at HST HV HCK ⊢
 obtain ⟨B,HB⟩:∃ B,Hid (B=w.heap.size):=⟨_,rfl⟩
 go_enter Tryz.func40,Tryz.ntmps40
 go_upto_region 1 with fail
 rw [← HB.out]
 refine atW (fun w' => Hid (Since w w' ∧ Blk w' B 26 #[nilV,nilV,nilV])) ⟨(Since.rfl_ w).alloc _,Blk.new' HB.out⟩ ?_
 rintro w1 HW1
 go_upto_region 4 with (go_at_call 63;refine (HCK.out _ HW1.out.1).mono ?_;rintro e w2 ⟨rfl,hs2⟩;have HS2:=Lib.hid hs2;clear hs2 HCK)
 have HW2:=Lib.hid (And.intro (HW1.out.1.trans HS2.out) (HS2.out.blk HW1.out.2))
 clear HS2 HW1
 obtain ⟨G,HG⟩:∃ G,Hid (G=w2.heap.size):=⟨_,rfl⟩
 go_upto_region 5 with fail
 rw [← HG.out]
 have hr0:Rws (w2.alloc (.cells #[nilV,nilV,nilV,nilV,nilV,nilV,nilV,nilV] 94)) (G+1) St.nil.rows :=
  Rws.more (L:=[]) ⟨fun i r hi=>(by simp at hi),fun i j r s _ hi=>(by simp at hi)⟩ St.nil.rows (fun r hr=>by
   simp only [St.rows,St.nil,rI,List.mem_cons,List.not_mem_nil,or_false,List.map_nil,List.append_nil,List.length_nil,List.flatMap_nil] at hr
   rcases hr with rfl | rfl | rfl | rfl | rfl | rfl | rfl | rfl <;> exact ⟨rfl,rfl,rfl⟩)
 have HC5:=Lib.hid (HST.out G w2 (w2.alloc (.cells #[nilV,nilV,nilV,nilV,nilV,nilV,nilV,nilV] 94)) ((Since.rfl_ w2).alloc _) (by rw [HG.out];exact Nat.le_refl _) ⟨Blk.new' HG.out,hr0⟩ (HV.out.since HW2.out.1))
 clear hr0 HST
 go_upto_region 6 with (go_at_call 64;refine HC5.out.mono ?_;rintro e w3 ⟨rfl,-,hc6⟩;have HC6:=Lib.hid hc6;clear hc6)
 go_upto_region 7 with (go_at_call 65;refine HC6.out.mono ?_;rintro e w4 ⟨rfl,-,hc7⟩;have HC7:=Lib.hid hc7;clear hc7)
 go_upto_region 8 with (go_at_call 66;refine HC7.out.mono ?_;rintro e w5 ⟨rfl,-,hc8⟩;have HC8:=Lib.hid hc8;clear hc8)
 go_upto_region 9 with (go_at_call 67;refine HC8.out.mono ?_;rintro e w6 ⟨rfl,hs6,vP,vH,vF,P,H,F,vs,hb,hm,hbl⟩;have HS6:=Lib.hid hs6;have HB6:=Lib.hid hb;have HM6:=Lib.hid hm;have HBL:=Lib.hid hbl;clear hs6 hb hm hbl)
 obtain ⟨aP,cP,hvP⟩:∃ a c,vP=.slice a P.length c:=Rws.slice HM6.out (i:=0) rfl
 obtain ⟨aH,cH,hvH⟩:∃ a c,vH=.slice a H.length c:=Rws.slice HM6.out (i:=1) rfl
 obtain ⟨aF,cF,hvF⟩:∃ a c,vF=.slice a F.length c:=Rws.slice HM6.out (i:=2) rfl
 subst hvP hvH hvF
 have c0:w6.cell? ⟨G,0,none⟩=some (.slice aP P.length cP):=HB6.out.cell 0
 have c1:w6.cell? ⟨G,1,none⟩=some (.slice aH H.length cH):=HB6.out.cell 1
 have c2:w6.cell? ⟨G,2,none⟩=some (.slice aF F.length cF):=HB6.out.cell 2
 have HBB:=Lib.hid (HS6.out.blk HW2.out.2)
 have b0:=HBB.out.cell 0
 have b1:=HBB.out.cell 1
 have b2:=HBB.out.cell 2
 have d0:=HBB.out.frozen 0
 have d1:=HBB.out.frozen 1
 have d2:=HBB.out.frozen 2
 simp only [List.getElem?_toArray,List.getElem?_cons_zero,List.getElem?_cons_succ] at b0 b1 b2
 have hBw:w.heap.size≤B:=by rw [HB.out];exact Nat.le_refl _
 have hBG:B<G:=by rw [HG.out];exact HW2.out.2.lt
 have HSF:=Lib.hid ((((HW2.out.1.trans HS6.out).setCell (p:=⟨B,0,none⟩) hBw (.slice aP P.length cP)).setCell (p:=⟨B,1,none⟩) hBw (.slice aH H.length cH)).setCell (p:=⟨B,2,none⟩) hBw (.slice aF F.length cF))
 have HMF:Hid (MapS (((w6.setCell ⟨B,0,none⟩ (.slice aP P.length cP)).setCell ⟨B,1,none⟩ (.slice aH H.length cH)).setCell ⟨B,2,none⟩ (.slice aF F.length cF)) w.heap.size (.slice aP P.length cP) (.slice aH H.length cH) (.slice aF F.length cF) P H F) :=
  Rws.mono (((Rws.low HM6.out (p:=⟨B,0,none⟩) (by dsimp only;omega) _).low (p:=⟨B,1,none⟩) (by dsimp only;omega) _).low (p:=⟨B,2,none⟩) (by dsimp only;omega) _) (by omega)
 clear HS6 HB6 HM6 HBB HW2 HC5 HC6 HC7 HC8 HV
 go_wp2_with fail
 refine bodyPost_ret (v:=.tuple #[.agg #[.slice aP P.length cP,.slice aH H.length cH,.slice aF F.length cF],.int .i64 0]) (by simp [results,Tryz.results40,go_sem,cSetS,cSetO,cellDrew,b0,b1,b2,d0,d1,d2]) rfl ⟨_,_,_,P,H,F,rfl,HSF.out,HMF.out,HBL.out⟩
theorem Build_some (a:Option Addr) (c:Nat) (E:List Sg) (w:World) (hv:SegsN w (.slice a E.length c) E) (hE:RndOk E) (hl:E.length≤3000) (hpos:0<E.length) :
  Calls Tryz.prog 40 #[.slice a E.length c] w fun e w' => ∃ (vP vH vF:Value) (P:List Pt2) (H:List Hf) (F:List Int),e=.returned (.tuple #[.agg #[vP,vH,vF],.int .i64 0])∧Since w w' ∧ MapS w' w.heap.size vP vH vF P H F∧BldR E P H F :=
 BuildS_any a c E w hv hE hl fun G w0 w' hs hG hM hv' => Steps_any a c G E w0 w' hs hG hM hv' hE hl hpos
end
section
open Go.RowKit Go.BigFrame
attribute [local go_sem ↓] eqPt neqPt
def HvsS (w:World) (v:Value) (l:List Hf):Prop :=
 ∃ a c,v=.slice a l.length c∧∀ i,i<l.length→∃ g o:Nat,a=some ⟨g,o,none⟩∧w.cell? ⟨g,o+i*4,none⟩=some (.int .i64 (hAt l i).1)∧w.cell? ⟨g,o+i*4+1,none⟩=some (.int .i64 (hAt l i).2.1)∧w.cell? ⟨g,o+i*4+2,none⟩=some (.int .i64 (hAt l i).2.2.1)∧w.cell? ⟨g,o+i*4+3,none⟩=some (.int .i64 (hAt l i).2.2.2)
theorem HvsS.since {w w' : World} {v:Value} {l:List Hf} (h:HvsS w v l) (k:Since w w'):HvsS w' v l:=by
 obtain ⟨a,c,hv,h⟩:=h
 refine ⟨a,c,hv,fun i hi=>?_⟩
 obtain ⟨g,o,ha,h1,h2,h3,h4⟩:=h i hi
 exact ⟨g,o,ha,keepC k _ _ h1,keepC k _ _ h2,keepC k _ _ h3,keepC k _ _ h4⟩
def IntS (w:World) (v:Value) (l:List Int):Prop :=
 ∃ a c,v=.slice a l.length c∧∀ i,i<l.length→∃ g o:Nat,a=some ⟨g,o,none⟩∧w.cell? ⟨g,o+i,none⟩=some (.int .i64 (iAt l i))
theorem IntS.since {w w' : World} {v:Value} {l:List Int} (h:IntS w v l) (k:Since w w'):IntS w' v l:=by
 obtain ⟨a,c,hv,h⟩:=h
 refine ⟨a,c,hv,fun i hi=>?_⟩
 obtain ⟨g,o,ha,h1⟩:=h i hi
 exact ⟨g,o,ha,keepC k _ _ h1⟩
structure MapR (w:World) (vP vH vF:Value) (P:List Pt2) (H:List Hf) (F:List Int):Prop where
 p:PtsS w vP P
 h:HvsS w vH H
 f:IntS w vF F
theorem MapR.since {w w' : World} {vP vH vF:Value} {P:List Pt2} {H:List Hf} {F:List Int} (h:MapR w vP vH vF P H F) (k:Since w w'):MapR w' vP vH vF P H F:=⟨h.p.keep (keepC k),h.h.since k,h.f.since k⟩
theorem own_gc {w:World} {B:Nat} {t:TypeId} {k n:Nat} {v:Value} {xs:List Value} (h:w.ownsRow B t k v n xs) (hn:0<n):∃ g c,v=.slice (some ⟨g,0,none⟩) n c:=by
 obtain ⟨-,⟨-,h2⟩ | ⟨g',cap,cur,h1,-⟩⟩:=h
 ·omega
 ·exact ⟨g',cap,h1⟩
theorem own_ptsS {w:World} {B:Nat} {v:Value} {l:List Pt2} (h:w.ownsRow B 36 2 v l.length (l.flatMap ptV)):PtsS w v l:=by
 obtain ⟨a,c,e⟩:=own_slice h
 refine ⟨a,c,e,fun i hi=>?_⟩
 obtain ⟨g,c',e'⟩:=own_gc h (by omega)
 rw [e] at e'
 injection e' with e1 _ e3
 subst e1 e3
 rw [e] at h
 have:=rowP_cells h hi
 exact ⟨g,0,rfl,by rw [Nat.zero_add];exact this.1,by rw [Nat.zero_add];exact this.2⟩
theorem own_hvsS {w:World} {B:Nat} {v:Value} {l:List Hf} (h:w.ownsRow B 33 4 v l.length (l.flatMap hfV)):HvsS w v l:=by
 obtain ⟨a,c,e⟩:=own_slice h
 refine ⟨a,c,e,fun i hi=>?_⟩
 obtain ⟨g,c',e'⟩:=own_gc h (by omega)
 rw [e] at e'
 injection e' with e1 _ e3
 subst e1 e3
 rw [e] at h
 have:=rowH_cells h hi
 exact ⟨g,0,rfl,by rw [Nat.zero_add];exact this.1,by rw [Nat.zero_add];exact this.2.1,by rw [Nat.zero_add];exact this.2.2.1,by rw [Nat.zero_add];exact this.2.2.2⟩
theorem own_intS {w:World} {B:Nat} {v:Value} {l:List Int} (h:w.ownsRow B 3 1 v l.length (l.map iV)):IntS w v l:=by
 obtain ⟨a,c,e⟩:=own_slice h
 refine ⟨a,c,e,fun i hi=>?_⟩
 obtain ⟨g,c',e'⟩:=own_gc h (by omega)
 rw [e] at e'
 injection e' with e1 _ e3
 subst e1 e3
 rw [e] at h
 have:=rowI_cell h hi
 exact ⟨g,0,rfl,by rw [Nat.zero_add];exact this⟩
theorem MapS.read {w:World} {B:Nat} {vP vH vF:Value} {P:List Pt2} {H:List Hf} {F:List Int} (h:MapS w B vP vH vF P H F):MapR w vP vH vF P H F :=
 ⟨own_ptsS (h.ok 0 _ rfl),own_hvsS (h.ok 1 _ rfl),own_intS (h.ok 2 _ rfl)⟩
theorem MapS.since {w w' : World} {B:Nat} {vP vH vF:Value} {P:List Pt2} {H:List Hf} {F:List Int} (h:MapS w B vP vH vF P H F) (k:Since w w'):MapS w' B vP vH vF P H F:=Rws.since h k
end
section
open Go.RowKit Go.BigFrame
attribute [local go_sem ↓] eqPt neqPt
end
section
open Go.RowKit Go.BigFrame Go.Shelf Go.Lib Go.Proofs Go.Maps
attribute [local go_sem ↓] eqPt neqPt
theorem pts_none (p:Option Addr) (cap:Nat) (fv:Value) (w:World):Calls Tryz.prog 86 #[.slice p 0 cap,fv] w fun e w' => e=.returned (.tuple #[])∧w' = w :=
 AnyF.slices_SortFunc_none (P:=Tryz.prog) (ρ:=sortPt_ren) { sortPt with } p cap fv w
set_option maxRecDepth 100000 in
theorem compact_none (w:World):Calls Tryz.prog 87 #[.slice none 0 0] w fun e w' => e=.returned (.slice none 0 0)∧w' = w:=by
 go_enter Tryz.func87,Tryz.ntmps87
 go_wp2_with fail
 go_ret
 exact ⟨rfl,rfl⟩
set_option maxRecDepth 100000 in
set_option maxHeartbeats 1000000 in
theorem repeat_none {w:World} {g:Nat} {x:Int} (hg:Blk w g 3 #[.int .i64 x]) :
  Calls Tryz.prog 93 #[.slice (some ⟨g,0,none⟩) 1 1,.int .i64 0] w fun e w' => ∃ g',e=.returned (.slice (some ⟨g',0,none⟩) 0 0)∧Since w w' := by
 have HG:=Lib.hid hg
 have HM:=Lib.hid (fun w=>MulB 1 0 (by omega) (by omega) (by omega) w)
 rw [Nat.mul_zero] at HM
 obtain ⟨i2,hi2,hy0,hy1,hy3⟩:=info_parts infoI
 have HI2:=Lib.hid (And.intro hi2 (And.intro hy0 (And.intro hy1 hy3)))
 have HSZ:Hid ((Tryz.prog.info? 3).map (·.size)=some 1):=by show _=_;rw [hi2];show some i2.size=_;rw [hy1]
 clear hi2 hy0 hy1 hy3
 obtain ⟨B,HB⟩:∃ B,Hid (B=w.heap.size):=⟨_,rfl⟩
 clear hg
 go_enter Tryz.func93,Tryz.ntmps93
 go_upto_region 6 with (go_at_call 108;refine (HM.out _).mono ?_;rintro e w' ⟨rfl,rfl⟩)
 go_upto_region 7 with (at_make;refine wpList_make_full _ rfl _ _ 22 rfl w.heap.size 3 i2 _ 1 Tryz.underlying22 HI2.out.1 HI2.out.2.1 HI2.out.2.2.1 .i64 .i64 _ _ 0 rfl rfl rfl rfl (by rw [HI2.out.2.2.2];omega) (by unfold maxLen;omega) (Nat.le_refl _) ?_;intro w2 hown hgrow)
 rw [← HB.out] at hown ⊢
 have hs2:Since w w2:=⟨hgrow.os,hgrow.tape,hgrow.output,hgrow.size,fun i hi=>hgrow.block i hi (by simp)⟩
 have hcp0:=run_copy_cells (P:=Tryz.prog) w2 22 22 3 3 B 0 0 0 ⟨g,0,none⟩ 1 1 [] Tryz.underlying22 HSZ.out rfl (fun j v hv=>by simp at hv) (fun j hj=>by simp at hj) (fun j hj=>by simp at hj) (fun v hv=>by simp at hv)
 have hcp:(Builtin.copy_ #[22,22] 3 #[.slice (some ⟨B,0,none⟩) 0 0,.slice (some ⟨g,0,none⟩) 1 1]).run Tryz.prog w2=.ok (.int .i64 0) w2:=hcp0
 have HS2:=Lib.hid hs2
 clear hcp0 hown hgrow hs2
 go_wp2_with fail
 clear hcp
 go_loopw [8] (fun v wr=>v=.int .i64 0∧Hid (Since w wr)) (fun _ _=>0)
 case atStart=>exact ⟨by go_num,HS2⟩
 case round =>
  clear HS2
  obtain ⟨rfl,HS⟩:=hrel
  go_wp2_with fail
  go_ret
  exact ⟨B,rfl,HS.out⟩
def Mk0 (w:World) (G:Nat) (vF vC vA vO:Value):Prop:=Blk w G 94 #[nilV,nilV,vF,vC,nilV,nilV,vA,vO]
set_option maxRecDepth 100000 in
set_option maxHeartbeats 4000000 in
theorem Begin_nil (a:Option Addr) (c G:Nat) (w0 w:World) (hs0:Since w0 w) (hG:w0.heap.size≤G) (hM:Mk0 w G nilV nilV nilV nilV) :
  Calls Tryz.prog 64 #[.pointer (some ⟨G,0,none⟩),.slice a 0 c] w fun e w' => e=.returned (.tuple #[])∧Since w0 w' ∧ ∃ g,Mk0 w' G nilV nilV nilV (.slice (some ⟨g,0,none⟩) 0 0):=by
 obtain ⟨i2,hi2,hy0,hy1,hy3⟩:=info_parts infoIs
 have HI2:=Lib.hid (And.intro hi2 (And.intro hy0 (And.intro hy1 hy3)))
 clear hi2 hy0 hy1 hy3
 have hGw:G<w.heap.size:=Blk.lt hM
 go_enter Tryz.func64,Tryz.ntmps64
 go_upto_region 2 with fail
 obtain ⟨Gb,HGb⟩:∃ Gb,Gb=w.heap.size:=⟨_,rfl⟩
 rw [← HGb]
 refine atW (fun w' => Hid (Since w0 w')∧Hid (Blk w' Gb 91 #[.pointer (some ⟨G,0,none⟩)])∧Hid (Mk0 w' G nilV nilV nilV nilV)) ⟨hs0.alloc _,Blk.new' HGb,Blk.alloc hM _⟩ ?_
 have hGb:G<Gb:=by omega
 clear hs0 hM HGb hGw
 rintro w1 ⟨HS1,HB1,HM1⟩
 go_loopw [16] (fun v wr=>v=.int .i64 0∧Hid (Since w0 wr)∧Hid (Blk wr Gb 91 #[.pointer (some ⟨G,0,none⟩)])∧Hid (Mk0 wr G nilV nilV nilV nilV)) (fun _ _=>0)
 case atStart=>exact ⟨by go_num,HS1,HB1,HM1⟩
 case round =>
  clear HS1 HB1 HM1
  obtain ⟨rfl,HS,HB,HM⟩:=hrel
  obtain ⟨w2,rfl⟩:∃ w2,w2=wr:=⟨_,rfl⟩
  have b0:w2.cell? ⟨Gb,0,none⟩=some (.pointer (some ⟨G,0,none⟩)):=HB.out.cell 0
  have m0:w2.cell? ⟨G,0,none⟩=some (.slice none 0 0):=Blk.cell HM.out 0
  have f0:=Blk.frozen HM.out 0
  have HSP:=Lib.hid (fun fv w' => pts_none none 0 fv w')
  go_upto_region 7 with (go_at_call 86;refine (HSP.out _ _).mono ?_;rintro e w2' ⟨rfl,rfl⟩)
  clear HSP
  have KF:=Lib.hid (fun w' (k:Since w2' w')=>(show w'.cell? ⟨Gb,0,none⟩=some (.pointer (some ⟨G,0,none⟩))∧w'.cell? ⟨G,0,none⟩=some (.slice none 0 0) from ⟨keepC k _ _ b0,keepC k _ _ m0⟩))
  clear b0 m0
  apply region_facts 10 (fun w' => Since w2' w')
  case hm=>kernel_rfl
  case hB=>kernel_rfl
  case hS=>exact (Since.rfl_ w2').drew
  case h =>
  simp only [List.take_succ_cons,List.take_zero,List.drop_succ_cons,List.drop_zero]
  iterate 6 (apply wpO_det;(case hw=>rfl);(case h=>intro hFm wx hS_ hF_ K hK;go_big_quiet_op;first | exact hK _ rfl | (apply Exists.intro;refine ⟨fun _=>?_,?_⟩;(focus (first | (intro hC;have hC:=KF.out _ hC.out.1;(try simp only [hC,Result.andThen]);first | exact ⟨True.intro,rfl⟩ | exact ⟨rfl,rfl⟩ | rfl)));exact hK _ rfl));(case' k=>simp only [Act.put,List.setIfInBounds_toArray,List.set_cons_succ,List.set_cons_zero,List.cons_append,List.nil_append]))
  (apply wpO_det;(case hw=>rfl);(case h=>intro hFm wx hS_ hF_ K hK;go_big_quiet_op;first | exact hK _ rfl | (apply Exists.intro;refine ⟨fun _=>?_,?_⟩;(focus (first | (intro hC;go_at_call 87;refine (compact_none _).mono ?_;rintro e w' ⟨rfl,rfl⟩;exact ⟨rfl,hC⟩)));exact hK _ rfl));(case' k=>simp only [Act.put,List.setIfInBounds_toArray,List.set_cons_succ,List.set_cons_zero,List.cons_append,List.nil_append]))
  iterate 3 (apply wpO_det;(case hw=>rfl);(case h=>intro hFm wx hS_ hF_ K hK;go_big_quiet_op;first | exact hK _ rfl | (apply Exists.intro;refine ⟨fun _=>?_,?_⟩;(focus (first | (intro hC;have hC:=KF.out _ hC.out.1;(try simp only [hC,Result.andThen]);first | exact ⟨True.intro,rfl⟩ | exact ⟨rfl,rfl⟩ | rfl)));exact hK _ rfl));(case' k=>simp only [Act.put,List.setIfInBounds_toArray,List.set_cons_succ,List.set_cons_zero,List.cons_append,List.nil_append]))
  refine wpO_nil ?_
  intro w3 hS hF hB
  (try simp [allF] at hF)
  (try simp [List.pairwise_cons] at hB)
  clear hF hB KF
  have HS3:=HS.out.trans hS
  have HB3:=hS.blk HB.out
  have HM3:Mk0 w3 G nilV nilV nilV nilV:=hS.blk HM.out
  have m0:w3.cell? ⟨G,0,none⟩=some (.slice none 0 0):=Blk.cell HM3 0
  have f0:=Blk.frozen HM3 0
  have HW3:Hid (Since w0 (w3.setCell ⟨G,0,none⟩ nilV))∧Hid (Blk (w3.setCell ⟨G,0,none⟩ nilV) Gb 91 #[.pointer (some ⟨G,0,none⟩)])∧Hid (Mk0 (w3.setCell ⟨G,0,none⟩ nilV) G nilV nilV nilV nilV) :=
   ⟨HS3.setCell hG nilV,HB3.far (by dsimp only;omega) nilV,Blk.set_ HM3 0 nilV⟩
  clear HS HB HM hS HS3 HB3 HM3
  go_upto_region 8 with fail
  refine atW (fun w' => Hid (Since w0 w')∧Hid (Blk w' Gb 91 #[.pointer (some ⟨G,0,none⟩)])∧Hid (Mk0 w' G nilV nilV nilV nilV)) HW3 ?_
  clear HW3 m0 f0
  rintro w4 ⟨HS4,HB4,HM4⟩
  have hmm := @run_makeMap Tryz.prog
  go_upto_region 9 with fail
  clear hmm
  refine atW (fun w' => Hid (Since w0 w')∧Hid (Blk w' Gb 91 #[.pointer (some ⟨G,0,none⟩)])∧Hid (Mk0 w' G nilV nilV nilV nilV)) ⟨HS4.out.alloc _,HB4.out.alloc _,Blk.alloc HM4.out _⟩ ?_
  clear HS4 HB4 HM4
  rintro w5 ⟨HS5,HB5,HM5⟩
  have b0:w5.cell? ⟨Gb,0,none⟩=some (.pointer (some ⟨G,0,none⟩)):=HB5.out.cell 0
  have m0:w5.cell? ⟨G,0,none⟩=some (.slice none 0 0):=Blk.cell HM5.out 0
  go_wp2_with fail
  clear b0 m0
  go_loopw [59] (fun v wr=>v=.int .i64 0∧Hid (Since w0 wr)∧Hid (Blk wr Gb 91 #[.pointer (some ⟨G,0,none⟩)])∧Hid (Mk0 wr G nilV nilV nilV nilV)) (fun _ _=>0)
  case atStart=>exact ⟨by go_num,HS5,HB5,HM5⟩
  case round =>
   clear HS5 HB5 HM5
   obtain ⟨rfl,HS,HB,HM⟩:=hrel
   obtain ⟨w6,rfl⟩:∃ w6,w6=wr:=⟨_,rfl⟩
   go_upto_region 14 with fail
   letI RG:RegG:=sinceRG
   have KF:=Lib.hid (fun w' (h:SinceG w6 w')=>(show w'.cell? ⟨Gb,0,none⟩=some (.pointer (some ⟨G,0,none⟩))∧w'.cell? ⟨G,0,none⟩=some (.slice none 0 0) from ⟨keepC h _ _ (HB.out.cell 0),keepC h _ _ (Blk.cell HM.out 0)⟩))
   apply region_factsG 8 (fun w' => SinceG w6 w')
   case hm=>kernel_rfl
   case hB=>kernel_rfl
   case hS=>exact (SinceG.rfl_ w6).drew
   case hmono=>exact (fun _ _ h k=>h.trans k)
   case hTb=>exact (fun g hg=>Nat.zero_le _)
   case h =>
   simp only [List.take_succ_cons,List.take_zero,List.drop_succ_cons,List.drop_zero]
   iterate 7 (apply wpO_detG;(case hw=>rfl);(case h=>intro hFm wx hS_ hF_ K hK;go_big_quiet_op;first | exact hK _ rfl | (apply Exists.intro;refine ⟨fun _=>?_,?_⟩;(focus (first | (intro hC;have hC:=KF.out _ hC.out.1;(try simp only [hC,Result.andThen]);first | exact ⟨True.intro,rfl⟩ | exact ⟨rfl,rfl⟩ | rfl)));exact hK _ rfl));(case' k=>simp only [Act.put,List.setIfInBounds_toArray,List.set_cons_succ,List.set_cons_zero,List.cons_append,List.nil_append]))
   apply wpO_anyG (R:=(MadeR w6.heap.size 22 1 0 (madeCells (Value.slice none 0 0).cells (0*1)).toList))
   case hR=>exact (fun v' w' w'' h k=>by obtain ⟨g,e,ho⟩:=h;exact ⟨g,e,own_since k ho⟩)
   case hw=>rfl
   case h =>
    intro wx hS_ hF_
    obtain ⟨w',h1,h2,h3⟩:=run_make_full (P:=Tryz.prog) wx w6.heap.size 92 22 i2 _ 1 Tryz.underlying92 HI2.out.1 HI2.out.2.1 HI2.out.2.2.1 .i64 .i64 0 (by rw [HI2.out.2.2.2];omega) (by unfold maxLen;omega) (SinceG.size hS_)
    have h1:(Instr.makeSlice 92 (.int .i64 0) (.int .i64 0)).run Tryz.prog wx=.ok (.slice (some ⟨wx.heap.size,0,none⟩) 0 0) w' := h1
    exact runVG_make _ _ _ rfl rfl rfl ⟨w',h1,⟨_,rfl,h2⟩,⟨h3.os,h3.tape,h3.output,h3.size,fun i hi=>h3.block i hi (by simp)⟩⟩
   case k =>
   intro v0
   simp only [Act.put,List.setIfInBounds_toArray,List.set_cons_succ,List.set_cons_zero,List.cons_append,List.nil_append]
   refine wpO_nilG ?_
   intro w7 hS hF hB
   (try simp [allF] at hF)
   (try simp [List.pairwise_cons] at hB)
   obtain ⟨gO,rfl,ho⟩:=hF
   replace hS:Since w6 w7:=hS
   have HM7:Mk0 w7 G nilV nilV nilV nilV:=hS.blk HM.out
   have HMo:w7.cell? ⟨G,7,none⟩=some (.slice none 0 0):=Blk.cell HM7 7
   have HMf:=Blk.frozen HM7 7
   have HW7:Hid (Since w0 (w7.setCell ⟨G,7,none⟩ (.slice (some ⟨gO,0,none⟩) 0 0)))∧Hid (Blk (w7.setCell ⟨G,7,none⟩ (.slice (some ⟨gO,0,none⟩) 0 0)) Gb 91 #[.pointer (some ⟨G,0,none⟩)])∧Hid (Mk0 (w7.setCell ⟨G,7,none⟩ (.slice (some ⟨gO,0,none⟩) 0 0)) G nilV nilV nilV (.slice (some ⟨gO,0,none⟩) 0 0)) :=
    ⟨(HS.out.trans hS).setCell hG _,(hS.blk HB.out).far (by dsimp only;omega) _,Blk.set_ HM7 7 _⟩
   clear ho hS hB KF RG HS HB HM HM7
   go_upto_region 15 with fail
   refine atW (fun w' => Hid (Since w0 w')∧Hid (Blk w' Gb 91 #[.pointer (some ⟨G,0,none⟩)])∧Hid (Mk0 w' G nilV nilV nilV (.slice (some ⟨gO,0,none⟩) 0 0))) HW7 ?_
   clear HW7 HMo HMf
   rintro w8 ⟨HS8,HB8,HM8⟩
   go_upto_region 16 with fail
   go_loopw [80] (fun v wr=>v=.int .i64 0∧Hid (Since w0 wr)∧Hid (Blk wr Gb 91 #[.pointer (some ⟨G,0,none⟩)])∧Hid (Mk0 wr G nilV nilV nilV (.slice (some ⟨gO,0,none⟩) 0 0))) (fun _ _=>0)
   case atStart=>exact ⟨by go_num,HS8,HB8,HM8⟩
   case round =>
    clear HS8 HB8 HM8
    obtain ⟨rfl,HS,HB,HM⟩:=hrel
    obtain ⟨w9,rfl⟩:∃ w9,w9=wr:=⟨_,rfl⟩
    have b0:w9.cell? ⟨Gb,0,none⟩=some (.pointer (some ⟨G,0,none⟩)):=HB.out.cell 0
    have m7:w9.cell? ⟨G,7,none⟩=some (.slice (some ⟨gO,0,none⟩) 0 0):=Blk.cell HM.out 7
    go_wp2_with fail
    clear b0 m7
    go_loopw [137] (fun v wr=>v=.int .i64 0∧Hid (Since w0 wr)∧Hid (Blk wr Gb 91 #[.pointer (some ⟨G,0,none⟩)])∧Hid (Mk0 wr G nilV nilV nilV (.slice (some ⟨gO,0,none⟩) 0 0))) (fun _ _=>0)
    case atStart=>exact ⟨by go_num,HS,HB,HM⟩
    case round =>
     clear HS HB HM
     obtain ⟨rfl,HS,HB,HM⟩:=hrel
     go_wp2_with fail
     go_end0
     exact ⟨rfl,HS.out,gO,HM.out⟩
set_option maxRecDepth 100000 in
set_option maxHeartbeats 4000000 in
theorem Link_nil (G gO:Nat) (w0 w:World) (hs0:Since w0 w) (hG:w0.heap.size≤G) (hM:Mk0 w G nilV nilV nilV (.slice (some ⟨gO,0,none⟩) 0 0)) :
  Calls Tryz.prog 65 #[.pointer (some ⟨G,0,none⟩)] w fun e w' => e=.returned (.tuple #[])∧Since w0 w' ∧ ∃ gC,Mk0 w' G nilV (.slice (some ⟨gC,0,none⟩) 0 0) nilV (.slice (some ⟨gO,0,none⟩) 0 0):=by
 have HS0:=Lib.hid hs0
 have HM0:=Lib.hid hM
 have c1:w.cell? ⟨G,1,none⟩=some (.slice none 0 0):=Blk.cell hM 1
 clear hs0 hM
 go_enter Tryz.func65,Tryz.ntmps65
 go_wp2_with fail
 clear c1
 go_loopw [16] (fun v wr=>v=.int .i64 0∧Hid (Since w0 wr)∧Hid (Mk0 wr G nilV nilV nilV (.slice (some ⟨gO,0,none⟩) 0 0))) (fun _ _=>0)
 case atStart=>exact ⟨by go_num,HS0,HM0⟩
 case round =>
  clear HS0 HM0
  obtain ⟨rfl,HS,HM⟩:=hrel
  obtain ⟨w1,rfl⟩:∃ w1,w1=wr:=⟨_,rfl⟩
  have c1:w1.cell? ⟨G,1,none⟩=some (.slice none 0 0):=Blk.cell HM.out 1
  have c11:=keepC ((Since.rfl_ w1).alloc (.cells #[.int .i64 (-1)] 3)) _ _ c1
  have HRP:Hid (∀ w',Blk w' w1.heap.size 3 #[.int .i64 (-1)]→Calls Tryz.prog 93 #[.slice (some ⟨w1.heap.size,0,none⟩) 1 1,.int .i64 0] w' fun e w'' => ∃ g',e=.returned (.slice (some ⟨g',0,none⟩) 0 0)∧Since w' w''):=fun w' hb=>repeat_none hb
  have HBL:Hid (Blk (w1.alloc (.cells #[.int .i64 (-1)] 3)) w1.heap.size 3 #[.int .i64 (-1)]):=Blk.new w1 _ _
  have HM1:Hid (Mk0 (w1.alloc (.cells #[.int .i64 (-1)] 3)) G nilV nilV nilV (.slice (some ⟨gO,0,none⟩) 0 0)):=Blk.alloc HM.out _
  have HS1:Hid (Since w0 (w1.alloc (.cells #[.int .i64 (-1)] 3))):=HS.out.alloc _
  clear HS HM c1
  go_upto_region 8 with (go_at_call 93;refine (HRP.out _ HBL.out).mono ?_;rintro e w8 ⟨gC,rfl,hs8⟩;have HW8:=Lib.hid hs8;have hm8:=hs8.blk HM1.out;have HM8:=Lib.hid hm8;have c3:=hm8.cell 3;have f3:=hm8.frozen 3;simp only [List.getElem?_toArray,List.getElem?_cons_zero,List.getElem?_cons_succ] at c3;clear hs8 hm8 c11)
  have HW9:Hid (Since w0 (w8.setCell ⟨G,3,none⟩ (.slice (some ⟨gC,0,none⟩) 0 0)))∧Hid (Mk0 (w8.setCell ⟨G,3,none⟩ (.slice (some ⟨gC,0,none⟩) 0 0)) G nilV (.slice (some ⟨gC,0,none⟩) 0 0) nilV (.slice (some ⟨gO,0,none⟩) 0 0)):=⟨(HS1.out.trans HW8.out).setCell hG _,Blk.set_ HM8.out 3 _⟩
  refine atW (fun w' => Hid (Since w0 w')∧Hid (Mk0 w' G nilV (.slice (some ⟨gC,0,none⟩) 0 0) nilV (.slice (some ⟨gO,0,none⟩) 0 0))) HW9 ?_
  clear HW9 HW8 HM8 HS1 HM1 HRP HBL c3 f3
  rintro w9 ⟨HS9,HM9⟩
  have c1:w9.cell? ⟨G,1,none⟩=some (.slice none 0 0):=Blk.cell HM9.out 1
  go_wp2_with fail
  clear c1
  go_loopw [69] (fun v wr=>v=.int .i64 0∧Hid (Since w0 wr)∧Hid (Mk0 wr G nilV (.slice (some ⟨gC,0,none⟩) 0 0) nilV (.slice (some ⟨gO,0,none⟩) 0 0))) (fun _ _=>0)
  case atStart=>exact ⟨by go_num,HS9,HM9⟩
  case round =>
   clear HS9 HM9
   obtain ⟨rfl,HS,HM⟩:=hrel
   go_wp2_with fail
   go_end0
   exact ⟨rfl,HS.out,gC,HM.out⟩
set_option maxRecDepth 100000 in
set_option maxHeartbeats 4000000 in
theorem Parts_nil (G gO gC:Nat) (w0 w:World) (hs0:Since w0 w) (hG:w0.heap.size≤G) (hM:Mk0 w G nilV (.slice (some ⟨gC,0,none⟩) 0 0) nilV (.slice (some ⟨gO,0,none⟩) 0 0)) :
  Calls Tryz.prog 66 #[.pointer (some ⟨G,0,none⟩)] w fun e w' => e=.returned (.tuple #[])∧Since w0 w' ∧ ∃ gA,Mk0 w' G nilV (.slice (some ⟨gC,0,none⟩) 0 0) (.slice (some ⟨gA,0,none⟩) 0 0) (.slice (some ⟨gO,0,none⟩) 0 0):=by
 have c0:w.cell? ⟨G,0,none⟩=some (.slice none 0 0):=Blk.cell hM 0
 have c01:=keepC ((Since.rfl_ w).alloc (.cells #[.int .i64 (-1)] 3)) _ _ c0
 have HRP:Hid (∀ w',Blk w' w.heap.size 3 #[.int .i64 (-1)]→Calls Tryz.prog 93 #[.slice (some ⟨w.heap.size,0,none⟩) 1 1,.int .i64 0] w' fun e w'' => ∃ g',e=.returned (.slice (some ⟨g',0,none⟩) 0 0)∧Since w' w''):=fun w' hb=>repeat_none hb
 have HBL:Hid (Blk (w.alloc (.cells #[.int .i64 (-1)] 3)) w.heap.size 3 #[.int .i64 (-1)]):=Blk.new w _ _
 have HM1:Hid (Mk0 (w.alloc (.cells #[.int .i64 (-1)] 3)) G nilV (.slice (some ⟨gC,0,none⟩) 0 0) nilV (.slice (some ⟨gO,0,none⟩) 0 0)):=Blk.alloc hM _
 have HS1:Hid (Since w0 (w.alloc (.cells #[.int .i64 (-1)] 3))):=hs0.alloc _
 clear hs0 hM c0
 go_enter Tryz.func66,Tryz.ntmps66
 go_upto_region 1 with (go_at_call 93;refine (HRP.out _ HBL.out).mono ?_;rintro e w8 ⟨gA,rfl,hs8⟩;have HW8:=Lib.hid hs8;have hm8:=hs8.blk HM1.out;have HM8:=Lib.hid hm8;have c6:=hm8.cell 6;have f6:=hm8.frozen 6;simp only [List.getElem?_toArray,List.getElem?_cons_zero,List.getElem?_cons_succ] at c6;clear hs8 hm8 c01)
 have HW9:Hid (Since w0 (w8.setCell ⟨G,6,none⟩ (.slice (some ⟨gA,0,none⟩) 0 0)))∧Hid (Mk0 (w8.setCell ⟨G,6,none⟩ (.slice (some ⟨gA,0,none⟩) 0 0)) G nilV (.slice (some ⟨gC,0,none⟩) 0 0) (.slice (some ⟨gA,0,none⟩) 0 0) (.slice (some ⟨gO,0,none⟩) 0 0)):=⟨(HS1.out.trans HW8.out).setCell hG _,Blk.set_ HM8.out 6 _⟩
 refine atW (fun w' => Hid (Since w0 w')∧Hid (Mk0 w' G nilV (.slice (some ⟨gC,0,none⟩) 0 0) (.slice (some ⟨gA,0,none⟩) 0 0) (.slice (some ⟨gO,0,none⟩) 0 0))) HW9 ?_
 clear HW9 HW8 HM8 HS1 HM1 HRP HBL c6 f6
 rintro w9 ⟨HS9,HM9⟩
 have c6:w9.cell? ⟨G,6,none⟩=some (.slice (some ⟨gA,0,none⟩) 0 0):=Blk.cell HM9.out 6
 go_wp2_with fail
 clear c6
 go_loopw [23] (fun v wr=>v=.int .i64 0∧Hid (Since w0 wr)∧Hid (Mk0 wr G nilV (.slice (some ⟨gC,0,none⟩) 0 0) (.slice (some ⟨gA,0,none⟩) 0 0) (.slice (some ⟨gO,0,none⟩) 0 0))) (fun _ _=>0)
 case atStart=>exact ⟨by go_num,HS9,HM9⟩
 case round =>
  clear HS9 HM9
  obtain ⟨rfl,HS,HM⟩:=hrel
  go_wp2_with fail
  go_end0
  exact ⟨rfl,HS.out,gA,HM.out⟩
set_option maxRecDepth 100000 in
set_option maxHeartbeats 4000000 in
theorem Faces_nil (G gO gC gA:Nat) (w0 w:World) (hs0:Since w0 w) (hG:w0.heap.size≤G) (hM:Mk0 w G nilV (.slice (some ⟨gC,0,none⟩) 0 0) (.slice (some ⟨gA,0,none⟩) 0 0) (.slice (some ⟨gO,0,none⟩) 0 0)) :
  Calls Tryz.prog 67 #[.pointer (some ⟨G,0,none⟩)] w fun e w' => e=.returned (.tuple #[])∧Since w0 w' ∧ ∃ gF,Mk0 w' G (.slice (some ⟨gF,0,none⟩) 1 1) (.slice (some ⟨gC,0,none⟩) 0 0) (.slice (some ⟨gA,0,none⟩) 0 0) (.slice (some ⟨gO,0,none⟩) 0 0)∧G<gF∧Blk w' gF 3 #[.int .i64 (-1)]:=by
 obtain ⟨i2,hi2,hy0,hy1,hy3⟩:=info_parts infoI
 have HI2:=Lib.hid (And.intro hi2 (And.intro hy0 (And.intro hy1 hy3)))
 have hGw:G<w.heap.size:=Blk.lt hM
 have HM0:=Lib.hid hM
 have HS0:=Lib.hid hs0
 have c2:(w.alloc (.cells #[.int .i64 (-1)] 3)).cell? ⟨G,2,none⟩=some (.slice none 0 0):=Blk.cell (Blk.alloc hM _) 2
 have f2:=Blk.frozen (Blk.alloc hM (.cells #[.int .i64 (-1)] 3)) 2
 have c2w:w.cell? ⟨G,2,none⟩=some (.slice none 0 0):=Blk.cell hM 2
 have f2w:=Blk.frozen hM 2
 clear hi2 hy0 hy1 hy3 hs0 hM
 obtain ⟨gF,HGF⟩:∃ gF,Hid (gF=w.heap.size):=⟨_,rfl⟩
 go_enter Tryz.func67,Tryz.ntmps67
 go_upto_region 1 with fail
 rw [← HGF.out]
 have hGF:G<gF:=by rw [HGF.out];exact hGw
 refine atW (fun w' => Hid (Since w0 w')∧Hid (Mk0 w' G (.slice (some ⟨gF,0,none⟩) 1 1) (.slice (some ⟨gC,0,none⟩) 0 0) (.slice (some ⟨gA,0,none⟩) 0 0) (.slice (some ⟨gO,0,none⟩) 0 0))∧Hid (Blk w' gF 3 #[.int .i64 (-1)])) (by
  first
   | exact ⟨(HS0.out.setCell (p:=⟨G,2,none⟩) hG _).alloc _,Blk.alloc (Blk.set_ HM0.out 2 _) _,Blk.new' (by simp [HGF.out])⟩
   | exact ⟨(HS0.out.alloc _).setCell (p:=⟨G,2,none⟩) hG _,Blk.set_ (Blk.alloc HM0.out _) 2 _,(Blk.new' HGF.out).far (by dsimp only;omega) _⟩) ?_
 clear HM0 HS0 c2 f2 c2w f2w
 rintro w1 ⟨HS1,HM1,HF1⟩
 have c4:w1.cell? ⟨G,4,none⟩=some (.slice none 0 0):=Blk.cell HM1.out 4
 go_upto_region 2 with (at_make;refine wpList_make_full _ rfl _ _ 22 rfl w1.heap.size 3 i2 _ 1 Tryz.underlying22 HI2.out.1 HI2.out.2.1 HI2.out.2.2.1 .i64 .i64 _ _ 0 rfl rfl rfl rfl (by rw [HI2.out.2.2.2];omega) (by unfold maxLen;omega) (Nat.le_refl _) ?_;intro w2 hown hgrow)
 have hs12:Since w1 w2:=⟨hgrow.os,hgrow.tape,hgrow.output,hgrow.size,fun i hi=>hgrow.block i hi (by simp)⟩
 have HW2:Hid (Since w0 w2)∧Hid (Mk0 w2 G (.slice (some ⟨gF,0,none⟩) 1 1) (.slice (some ⟨gC,0,none⟩) 0 0) (.slice (some ⟨gA,0,none⟩) 0 0) (.slice (some ⟨gO,0,none⟩) 0 0))∧Hid (Blk w2 gF 3 #[.int .i64 (-1)]):=⟨HS1.out.trans hs12,hs12.blk HM1.out,hs12.blk HF1.out⟩
 obtain ⟨HS2,HM2,HF2⟩:=HW2
 have c4:w2.cell? ⟨G,4,none⟩=some (.slice none 0 0):=Blk.cell HM2.out 4
 clear hs12 hgrow hown HS1 HM1 HF1
 go_wp2_with fail
 clear c4
 go_loopw [27] (fun v wr=>v=.int .i64 0∧Hid (Since w0 wr)∧Hid (Mk0 wr G (.slice (some ⟨gF,0,none⟩) 1 1) (.slice (some ⟨gC,0,none⟩) 0 0) (.slice (some ⟨gA,0,none⟩) 0 0) (.slice (some ⟨gO,0,none⟩) 0 0))∧Hid (Blk wr gF 3 #[.int .i64 (-1)])) (fun _ _=>0)
 case atStart=>exact ⟨by go_num,HS2,HM2,HF2⟩
 case round =>
  clear HS2 HM2 HF2
  obtain ⟨rfl,HS,HM,HF⟩:=hrel
  obtain ⟨w3,rfl⟩:∃ w3,w3=wr:=⟨_,rfl⟩
  have c4:w3.cell? ⟨G,4,none⟩=some (.slice none 0 0):=Blk.cell HM.out 4
  go_wp2_with fail
  clear c4
  go_loopw [71] (fun v wr=>v=.int .i64 0∧Hid (Since w0 wr)∧Hid (Mk0 wr G (.slice (some ⟨gF,0,none⟩) 1 1) (.slice (some ⟨gC,0,none⟩) 0 0) (.slice (some ⟨gA,0,none⟩) 0 0) (.slice (some ⟨gO,0,none⟩) 0 0))∧Hid (Blk wr gF 3 #[.int .i64 (-1)])) (fun _ _=>0)
  case atStart=>exact ⟨by go_num,HS,HM,HF⟩
  case round =>
   clear HS HM HF
   obtain ⟨rfl,HS,HM,HF⟩:=hrel
   obtain ⟨w4,rfl⟩:∃ w4,w4=wr:=⟨_,rfl⟩
   have c1:w4.cell? ⟨G,1,none⟩=some (.slice none 0 0):=Blk.cell HM.out 1
   go_wp2_with fail
   clear c1
   go_loopw [197] (fun v wr=>v=.int .i64 0∧Hid (Since w0 wr)∧Hid (Mk0 wr G (.slice (some ⟨gF,0,none⟩) 1 1) (.slice (some ⟨gC,0,none⟩) 0 0) (.slice (some ⟨gA,0,none⟩) 0 0) (.slice (some ⟨gO,0,none⟩) 0 0))∧Hid (Blk wr gF 3 #[.int .i64 (-1)])) (fun _ _=>0)
   case atStart=>exact ⟨by go_num,HS,HM,HF⟩
   case round =>
    clear HS HM HF
    obtain ⟨rfl,HS,HM,HF⟩:=hrel
    go_wp2_with fail
    go_end0
    exact ⟨rfl,HS.out,gF,HM.out,hGF,HF.out⟩
theorem BldR.none:BldR [] [] [] [-1]:=by
 refine ⟨[],[],[],[],(List.eq_nil_iff_forall_not_mem.2 fun x hx=>by have:=hullS_mem.1 hx;simp [ptsK] at this).symm,rfl,fun v hv=>absurd hv (Nat.not_lt_zero _),⟨rfl,rfl,Nat.le_refl _,fun g hg=>absurd hg (Nat.not_lt_zero _),fun g hg=>absurd hg (Nat.not_lt_zero _),fun g hg=>absurd hg (Nat.not_lt_zero _),fun c hc=>absurd hc (Nat.not_lt_zero _),fun c d _ hd=>absurd hd (Nat.not_lt_zero _),fun c hc=>absurd hc (Nat.not_lt_zero _),fun g hg=>absurd hg (Nat.not_lt_zero _)⟩,rfl,rfl⟩
theorem Build_nil (a:Option Addr) (c:Nat) (w:World) (hv:SegsN w (.slice a 0 c) []) :
  Calls Tryz.prog 40 #[.slice a 0 c] w fun e w' => ∃ (vP vH vF:Value) (P:List Pt2) (H:List Hf) (F:List Int),e=.returned (.tuple #[.agg #[vP,vH,vF],.int .i64 0])∧Since w w' ∧ MapS w' w.heap.size vP vH vF P H F∧BldR [] P H F :=
 BuildS_any a c [] w hv ⟨by simp,by unfold SrtG;simp,by simp,by simp⟩ (by simp) fun G w0 w' hs hG hM hv' => by
  refine (Begin_nil a c G w0 w' hs hG hM.blk).mono ?_
  rintro e1 w1 ⟨rfl,hs1,gO,hM1⟩
  refine ⟨rfl,hs1,(Link_nil G gO w0 w1 hs1 hG hM1).mono ?_⟩
  rintro e2 w2 ⟨rfl,hs2,gC,hM2⟩
  refine ⟨rfl,hs2,(Parts_nil G gO gC w0 w2 hs2 hG hM2).mono ?_⟩
  rintro e3 w3 ⟨rfl,hs3,gA,hM3⟩
  refine ⟨rfl,hs3,(Faces_nil G gO gC gA w0 w3 hs3 hG hM3).mono ?_⟩
  rintro e4 w4 ⟨rfl,hs4,gF,hM4,hGF,hF4⟩
  refine ⟨rfl,hs4,nilV,nilV,.slice (some ⟨gF,0,none⟩) 1 1,[],[],[-1],_,hM4,?_,BldR.none⟩
  have h0:Rws w4 (G+1) [⟨nilV,36,2,0,[]⟩,⟨nilV,33,4,0,[]⟩,⟨nilV,3,1,0,[]⟩] :=
   Rws.more (L:=[]) ⟨fun i r hi=>(by simp at hi),fun i j r s _ hi=>(by simp at hi)⟩ _ (fun r hr=>by
    simp only [List.mem_cons,List.not_mem_nil,or_false] at hr
    rcases hr with rfl | rfl | rfl <;> exact ⟨rfl,rfl,rfl⟩)
  have ho:w4.ownsRow (G+1) 3 1 (.slice (some ⟨gF,0,none⟩) 1 1) 1 ([(-1:Int)].map iV):=⟨rfl,.inr ⟨gF,1,_,rfl,hGF,hF4,Nat.le_refl _,by unfold maxLen;omega,rfl,rfl⟩⟩
  refine ⟨fun i r hi=>?_,fun i j r s hij hi hj=>?_⟩
  ·rcases i with _ | _ | _ | i
   ·exact h0.ok 0 r hi
   ·exact h0.ok 1 r hi
   ·injection hi with hi;rw [← hi];exact ho
   ·simp at hi
  ·rcases i with _ | _ | _ | i <;> rcases j with _ | _ | _ | j <;> first
    | (simp at hij;done)
    | (simp at hi;done)
    | (simp at hj;done)
    | (injection hi with hi;rw [← hi];intro g h1 _;cases h1;done)
    | (injection hj with hj;rw [← hj];intro g _ h1;cases h1;done)
theorem Build_any (v:Value) (E:List Sg) (w:World) (hv:SegsN w v E) (hE:RndOk E) (hl:E.length≤3000) :
  Calls Tryz.prog 40 #[v] w fun e w' => ∃ (vP vH vF:Value) (P:List Pt2) (H:List Hf) (F:List Int),e=.returned (.tuple #[.agg #[vP,vH,vF],.int .i64 0])∧Since w w' ∧ MapS w' w.heap.size vP vH vF P H F∧BldR E P H F:=by
 obtain ⟨a,c,rfl⟩:=hv.slice
 rcases Nat.eq_zero_or_pos E.length with h | h
 ·have e:E=[]:=List.eq_nil_of_length_eq_zero h
  subst e
  exact Build_nil a c w hv
 ·exact Build_some a c E w hv hE hl h
end
section
open Go.RowKit Go.BigFrame
attribute [local go_sem ↓] eqPt neqPt
theorem BldR.hlen {E:List Sg} {P:List Pt2} {H:List Hf} {F:List Int} (h:BldR E P H F):H.length=2*E.length:=by
 obtain ⟨O,C,I,T,-,-,-,-,hH,-⟩:=h
 rw [hH,mkH_len]
theorem BldR.fr {E:List Sg} {P:List Pt2} {H:List Hf} {F:List Int} (h:BldR E P H F) {i:Nat} (hi:i<2*E.length):(hAt H i).1=(frH E P i:Int)∧frH E P i<P.length∧pAt P (frH E P i)=endH E i:=by
 obtain ⟨O,C,I,T,hP,-,-,-,hH,-⟩:=h
 have hm:endH E i∈P:=by rw [hP];exact end_pts rfl i hi
 refine ⟨?_,idP_at hm⟩
 rw [hH,mkH_at hi]
theorem fac1_le (I T:List Int):∀ m,(fac1 I T m).2.length≤m+1
 | 0=>by simp [fac1]
 | m+1=>by
  have:=fac1_le I T m
  rw [fac1_succ]
  split
  ·simp;omega
  ·omega
theorem hullS_nil:hullS []=[]:=by unfold hullS srtL;simp [cmpL]
theorem BldR.bds {E:List Sg} {P:List Pt2} {H:List Hf} {F:List Int} (hE:RndOk E) (hl:E.length≤270) (h:BldR E P H F):P.length≤1000000000000000∧H.length≤1000000∧F.length≤1000000000000000:=by
 have h1:=h.hlen
 obtain ⟨O,C,I,T,hP,hOl,hO,hC,hH,hF⟩:=h
 refine ⟨?_,by omega,?_⟩
 ·rcases Nat.eq_zero_or_pos E.length with e0 | hpos
  ·have:P=[]:=by rw [hP,List.eq_nil_of_length_eq_zero e0];exact hullS_nil
   rw [this];simp
  ·have K:Net (2*E.length) P.length P (frH E P) (rowO O):=net_begin hE rfl (by omega) hpos hP rfl hO
   have:=K.vle
   have:=K.le
   omega
 ·rw [hF,fac3_len]
  have:=fac1_le I T I.length
  have:=hC.le
  omega
end
section
theorem iAt_setAny (l:List Int) (i j:Nat) (x:Int):iAt (l.set i x) j=x∨iAt (l.set i x) j=iAt l j:=by
 rcases Nat.lt_or_ge i l.length with h | h
 ·rw [iAt_set x h]
  split
  ·exact .inl rfl
  ·exact .inr rfl
 ·rw [List.set_eq_of_length_le h];exact .inr rfl
theorem fac1_rng (I T:List Int):∀ m c,0≤iAt (fac1 I T m).1 c∧iAt (fac1 I T m).1 c<(fac1 I T m).2.length
 | 0,c=>by
  have e:iAt (fac1 I T 0).1 c=0:=by
   show iAt (List.replicate I.length 0) c=0
   unfold iAt
   rcases Nat.lt_or_ge c I.length with h | h
   ·simp [List.getD,h]
   ·simp [List.getD,List.getElem?_eq_none,h]
  rw [e]
  exact ⟨by omega,by show (0:Int)<1;omega⟩
 | m+1,c=>by
  have h:=fac1_rng I T m c
  rw [fac1_succ]
  split
  ·rcases iAt_setAny (fac1 I T m).1 m c (fac1 I T m).2.length with e | e
   ·dsimp only
    rw [e]
    exact ⟨by omega,by simp only [List.length_append,List.length_singleton];omega⟩
   ·dsimp only
    rw [e]
    exact ⟨h.1,by simp only [List.length_append,List.length_singleton];omega⟩
  ·exact h
theorem fac2_rng (P:List Pt2) (fr nx:Nat→Nat) (I T A:List Int):∀ m c,0≤iAt (fac2 P fr nx I T A m) c∧iAt (fac2 P fr nx I T A m) c<(fac1 I T I.length).2.length
 | 0,c=>fac1_rng I T I.length c
 | m+1,c=>by
  have h:=fac2_rng P fr nx I T A m
  rw [fac2_succ]
  split
  ·exact h c
  ·split
   ·rcases iAt_setAny (fac2 P fr nx I T A m) m c (iAt (fac2 P fr nx I T A m) (bstV P fr nx I T A m I.length).toNat) with e | e
    ·rw [e];exact h _
    ·rw [e];exact h c
   ·exact h c
theorem BldR.half {E:List Sg} {P:List Pt2} {H:List Hf} {F:List Int} (hE:RndOk E) (hl:E.length≤270) (h:BldR E P H F) :
  ∃ (nx:Nat→Nat) (fc:Nat→Int),PermN H.length nx∧∀ i,i<H.length→hAt H i=((frH E P i:Int),((twN i:Nat):Int),((nx i:Nat):Int),fc i)∧frH E P (nx i)=frH E P (twN i)∧0≤fc i∧fc i<F.length∧fc (nx i)=fc i:=by
 have hlen:=h.hlen
 rcases Nat.eq_zero_or_pos E.length with e0 | hpos
 ·exact ⟨id,fun _=>0,⟨fun g hg=>hg,fun g h _ _ e=>e⟩,fun i hi=>by omega⟩
 ·obtain ⟨O,C,I,T,hP,hOl,hO,hC,hH,hF⟩:=h
  have K:Net (2*E.length) P.length P (frH E P) (rowO O):=net_begin hE rfl (by omega) hpos hP rfl hO
  refine ⟨nxN (frH E P) (rowO O),fun i=>iAt (fac2 P (frH E P) (nxN (frH E P) (rowO O)) I T (prtK (teK E P) (rowO O) P.length P.length) I.length) (iAt C i).toNat,by rw [hlen];exact K.perm,fun i hi=>?_⟩
  rw [hlen] at hi
  refine ⟨by rw [hH,mkH_at hi],(K.nx hi).2.2,(fac2_rng _ _ _ _ _ _ _ _).1,?_,?_⟩
  ·rw [hF,fac3_len];exact (fac2_rng _ _ _ _ _ _ _ _).2
  ·dsimp only
   rw [hC.cls i hi]
end
section
def cntL (nx:Nat→Nat) (N:Nat):Nat→List Int
 | 0=>List.replicate N 0
 | k+1=>(cntL nx N k).set (nx k) (iAt (cntL nx N k) (nx k)+1)
theorem cntL_len (nx:Nat→Nat) (N:Nat):∀ k,(cntL nx N k).length=N
 | 0=>by simp [cntL]
 | k+1=>by simp only [cntL,List.length_set];exact cntL_len nx N k
theorem cntL_at {nx:Nat→Nat} {N:Nat} (hp:PermN N nx) {j:Nat} (hj:j<N):∀ k,k≤N→(iAt (cntL nx N k) j=0∧∀ h,h<k→nx h≠j)∨(iAt (cntL nx N k) j=1∧∃ h,h<k∧nx h=j)
 | 0,_=>.inl ⟨by simp [cntL,iAt,List.getD,hj],fun h hh=>absurd hh (Nat.not_lt_zero _)⟩
 | k+1,hk=>by
  have ih:=cntL_at hp hj k (by omega)
  have hs:iAt (cntL nx N (k+1)) j=if j=nx k then iAt (cntL nx N k) (nx k)+1 else iAt (cntL nx N k) j:=by
   simp only [cntL]
   exact iAt_set _ (by rw [cntL_len];exact hp.lt k (by omega))
  rw [hs]
  by_cases e:j=nx k
  ·rw [if_pos e]
   rcases ih with ⟨h0,-⟩ | ⟨-,h,hh,he⟩
   ·exact .inr ⟨by rw [← e,h0];omega,k,Nat.lt_succ_self k,e.symm⟩
   ·have:=hp.inj h k (by omega) (by omega) (he.trans e)
    omega
  ·rw [if_neg e]
   rcases ih with ⟨h0,h1⟩ | ⟨h0,h,hh,he⟩
   ·refine .inl ⟨h0,fun h hh=>?_⟩
    rcases Nat.lt_succ_iff_lt_or_eq.1 hh with q | q
    ·exact h1 h q
    ·rw [q];exact fun x=>e x.symm
   ·exact .inr ⟨h0,h,by omega,he⟩
theorem cntL_le {nx:Nat→Nat} {N:Nat} (hp:PermN N nx) {j k:Nat} (hj:j<N) (hk:k≤N):0≤iAt (cntL nx N k) j∧iAt (cntL nx N k) j≤1:=by
 rcases cntL_at hp hj k hk with ⟨h,-⟩ | ⟨h,-⟩ <;> rw [h] <;> omega
theorem PermN.onto {nx:Nat→Nat} {N:Nat} (hp:PermN N nx) {j:Nat} (hj:j<N):∃ h,h<N∧nx h=j:=by
 obtain ⟨n,⟨h0,h1,-⟩,-⟩:=hp.round hj
 obtain ⟨m,rfl⟩:∃ m,n=m+1:=⟨n-1,by omega⟩
 exact ⟨itN nx j m,it_lt hp hj m,h1⟩
theorem cntL_one {nx:Nat→Nat} {N:Nat} (hp:PermN N nx) {j:Nat} (hj:j<N):iAt (cntL nx N N) j=1:=by
 rcases cntL_at hp hj N (Nat.le_refl _) with ⟨-,h⟩ | ⟨h,-⟩
 ·obtain ⟨g,hg,e⟩:=hp.onto hj
  exact absurd e (h g hg)
 ·exact h
end
end Go.Proofs.YtdnccjdlmepafaaGreat
