/-
  The walk of terrkeep3.built: the subdivision of the stream's rounded segments; slices.Contains over ints; the walk of FaceBeside; The arguments of laws, read as data: lists of numbers, points, boxes, numbers. Conditions: those that each lemma names.
-/
import Derived.Test.YtdnccjdlmepafaaGreatK27
import Derived.Test.YtdnccjdlmepafaaGreatK28
import Derived.Test.YtdnccjdlmepafaaGreatK29
import Derived.Test.YtdnccjdlmepafaaGreatK06
import Derived.Test.YtdnccjdlmepafaaGreatK16
import Derived.BigQuiet
import Derived.Test.YtdnccjdlmepafaaGreatRows
import Derived.Test.YtdnccjdlmepafaaGreatK03
import Derived.ProofKit
import Derived.OpenShut
import Derived.ChangeOld
import Derived.SizedLaws
import Derived.Lib.SmallJoins
import Derived.Deep.SlicePairs
set_option linter.unusedSimpArgs false
set_option linter.unusedVariables false
set_option linter.constructorNameAsVariable false
namespace Go.Proofs.YtdnccjdlmepafaaGreat
section
open Go.RowKit Go.BigFrame
attribute [local go_sem ↓] eqPt neqPt
section
variable [Tgt]
theorem three_T {w w' : World} {g:Nat} {t:TypeId} {a b c u v x:Value} (h:SinceT w w') (k:Blk w g t #[a,b,c]) (hT:Tgt.T g=some (.cells #[u,v,x] t (0,0))):∃ p q r,Blk w' g t #[p,q,r]:=by
 rcases h.2.2.2.2 g k.lt with e | ⟨o,e,e2⟩
 ·exact ⟨a,b,c,e.trans k⟩
 ·rw [hT] at e;injection e with e;subst e;exact ⟨u,v,x,e2⟩
theorem store3_T {w:World} {g:Nat} {t:TypeId} {a b c u v x:Value} (k:Blk w g t #[a,b,c]) (hT:Tgt.T g=some (.cells #[u,v,x] t (0,0))) :
  Blk (((w.setCell ⟨g,0,none⟩ u).setCell ⟨g,1,none⟩ v).setCell ⟨g,2,none⟩ x) g t #[u,v,x]∧SinceT w (((w.setCell ⟨g,0,none⟩ u).setCell ⟨g,1,none⟩ v).setCell ⟨g,2,none⟩ x):=by
 have h1:Blk (((w.setCell ⟨g,0,none⟩ u).setCell ⟨g,1,none⟩ v).setCell ⟨g,2,none⟩ x) g t #[u,v,x]:=((k.set_ 0 u).set_ 1 v).set_ 2 x
 have hO:Only g w (((w.setCell ⟨g,0,none⟩ u).setCell ⟨g,1,none⟩ v).setCell ⟨g,2,none⟩ x):=((((Since.rfl_ w).only g).setCell (.inl rfl) u).setCell (.inl rfl) v).setCell (.inl rfl) x
 refine ⟨h1,hO.os,hO.tape,hO.output,hO.size,fun i hi=>?_⟩
 by_cases e:i=g
 ·subst e;exact .inr ⟨_,hT,h1⟩
 ·exact .inl (hO.block i hi (fun k=>e (by injection k)))
end
theorem own_kept {w w' : World} {b B k n:Nat} {t:TypeId} {v:Value} {xs:List Value} (h:w.ownsRow b t k v n xs) (hg:w.grownBy w' (some B)) (hB:B<b):w'.ownsRow b t k v n xs:=by
 obtain ⟨h1,h2 | ⟨g,cap,cur,hv,hb,hh,hr⟩⟩:=h
 ·exact ⟨h1,.inl h2⟩
 ·exact ⟨h1,.inr ⟨g,cap,cur,hv,hb,(hg.block g (Blk.lt hh) (fun e=>by injection e;omega)).trans hh,hr⟩⟩
theorem IntsB.mono {w:World} {v:Value} {l:List Int} {B B' : Nat} (h:IntsB w v l B) (k:B≤B'):IntsB w v l B' := by
 obtain ⟨a,c,hv,hc,hm,h⟩:=h
 refine ⟨a,c,hv,hc,hm,fun i hi=>?_⟩
 obtain ⟨g,o,ha,hg,h1⟩:=h i hi
 exact ⟨g,o,ha,Nat.lt_of_lt_of_le hg k,h1⟩
theorem BldR.lenH {E:List Sg} {P:List Pt2} {H:List Hf} {F:List Int} (h:BldR E P H F):H.length=2*E.length:=by
 obtain ⟨O,C,I,T,-,-,-,-,hH,-⟩:=h
 rw [hH,mkH_len]
theorem fac1_pos (I T:List Int):∀ m,0<(fac1 I T m).2.length
 | 0=>by simp [fac1]
 | m+1=>by
  rw [fac1_succ]
  split
  ·simp
  ·exact fac1_pos I T m
theorem BldR.lenF {E:List Sg} {P:List Pt2} {H:List Hf} {F:List Int} (h:BldR E P H F):0<F.length:=by
 obtain ⟨O,C,I,T,-,-,-,-,-,hF⟩:=h
 rw [hF,fac3_len]
 exact fac1_pos I T _
def BltR (w:World) (b:Nat) (E:List Sg) (x vP vH vF:Value) (P:List Pt2) (H:List Hf) (F:List Int):Prop :=
 SegsN w x E∧RndOk E∧E.length≤270∧MapS w b vP vH vF P H F∧BldR E P H F
theorem BltR.since {w w' : World} {b:Nat} {E:List Sg} {x vP vH vF:Value} {P:List Pt2} {H:List Hf} {F:List Int} (h:BltR w b E x vP vH vF P H F) (k:Since w w'):BltR w' b E x vP vH vF P H F :=
 ⟨h.1.since k,h.2.1,h.2.2.1,h.2.2.2.1.since k,h.2.2.2.2⟩
set_option maxRecDepth 100000 in
set_option maxHeartbeats 4000000 in
theorem Built_any (v:Value) (l:List Int) (w:World) (hi:IntsB w v l w.heap.size) (hlen:l.length≤9223372036854775807) :
  Calls Tryz.prog 11 #[v] w fun e w' => ∃ (x vP vH vF:Value) (E:List Sg) (P:List Pt2) (H:List Hf) (F:List Int),e=.returned (.tuple #[.agg #[vP,vH,vF],x,.bool true])∧Since w w' ∧ BltR w' w.heap.size E x vP vH vF P H F:=by
 have HSEG:Hid (∀ w',Since w w' → Calls Tryz.prog 38 #[v] w' fun e w2=>∃ x,e=.returned x∧SegsN w2 x (msegs l)∧Since w' w2):=fun w' k =>
  (Segs_any v l w' ((hi.since k).mono k.size) hlen).mono fun e w2 ⟨x,h1,h2,h3,h4⟩=>⟨x,h1,own_segsN h2 h4,h3⟩
 clear hi
 obtain ⟨B,HB⟩:∃ B,Hid (B=w.heap.size):=⟨_,rfl⟩
 rw [← HB.out]
 go_enter Tryz.func11,Tryz.ntmps11
 go_upto_region 1 with fail
 rw [← HB.out]
 refine atW (fun w' => Hid (Since w w')∧Hid (Blk w' B 26 #[.slice none 0 0,.slice none 0 0,.slice none 0 0])) ⟨(Since.rfl_ w).alloc _,Blk.new' HB.out⟩ ?_
 rintro w1 ⟨HS1,HB1⟩
 go_wp2_with fail
 refine (HSEG.out _ HS1.out).mono ?_
 rintro e w2 ⟨x0,rfl,hx,hs⟩
 have HRM:=Lib.hid (Round_m x0 (msegs l) w2 hx (msegs_len l) (msegs_ok l))
 have HS2:Hid (Since w w2):=HS1.out.trans hs
 have HB2:=Lib.hid (hs.blk HB1.out)
 clear hx hs HS1 HB1 HSEG
 go_wp2_with fail
 refine (HRM.out).mono ?_
 rintro e w3 ⟨x,E,rfl,hE,ho,hn,hs⟩
 have HS3:Hid (Since w w3):=HS2.out.trans hs
 have HB3:=Lib.hid (hs.blk HB2.out)
 have HX3:=Lib.hid (own_segsN ho hn)
 have HO3:=Lib.hid ho
 have HNX:=Lib.hid hn
 obtain ⟨B2,HBB⟩:∃ b,Hid (b=w2.heap.size):=⟨_,rfl⟩
 have hB2:B<B2:=by rw [HBB.out];exact HB2.out.lt
 rw [← HBB.out] at HO3
 have HOK:Hid (RndOk E):=hE.good (msegs_ok l)
 have HL:Hid (E.length≤270):=by
  by_cases hne:E=[]
  ·subst hne;exact Nat.zero_le _
  ·exact (rnd_again (msegs_len l) (msegs_ok l) hE hne).1
 clear hE ho hn hs HRM HS2 HB2
 go_wp2_with fail
 refine (rounds_any _).mono ?_
 rintro e w4 ⟨rfl,hs⟩
 have HS4:Hid (Since w w4):=HS3.out.trans hs
 have HB4:=Lib.hid (hs.blk HB3.out)
 have HX4:=Lib.hid (HX3.out.since hs)
 have HO4:=Lib.hid (own_since hs HO3.out)
 obtain ⟨B4,HBC⟩:∃ b,Hid (b=w4.heap.size):=⟨_,rfl⟩
 have hB4:B<B4:=by rw [HBC.out];exact HB4.out.lt
 clear hs HS3 HB3 HX3 HO3
 have HBD:=Lib.hid (Build_any x E w4 HX4.out HOK.out (Nat.le_trans HL.out (by decide)))
 obtain ⟨aX,cX,hvX⟩:=HX4.out.slice
 subst hvX
 obtain ⟨n,HN⟩:∃ n,Hid (n=E.length):=⟨_,rfl⟩
 rw [← HN.out] at HX4 HBD ⊢
 go_wp2_with fail
 refine (HBD.out).mono ?_
 rintro e w5 ⟨vP,vH,vF,P,H,F,rfl,hs,hm,hb⟩
 have HS5:Hid (Since w w5):=HS4.out.trans hs
 have HB5:=Lib.hid (hs.blk HB4.out)
 have HX5:=Lib.hid (HX4.out.since hs)
 have HM5:Hid (MapS w5 B4 vP vH vF P H F):=by rw [HBC.out];exact hm
 have HO5:=Lib.hid (own_since hs HO4.out)
 have HBR:=Lib.hid hb
 obtain ⟨⟨aP,cP,rfl,-⟩,⟨aH,cH,rfl,-⟩,⟨aF,cF,rfl,-⟩⟩:=hm.read
 clear hs hm hb HS4 HB4 HX4 HBD HO4
 go_upto_region 5 with fail
 obtain ⟨GM,HGM⟩:∃ G,Hid (G=w5.heap.size):=⟨_,rfl⟩
 obtain ⟨nP,HNP⟩:∃ n,Hid (n=P.length):=⟨_,rfl⟩
 obtain ⟨nH,HNH⟩:∃ n,Hid (n=H.length):=⟨_,rfl⟩
 obtain ⟨nF,HNF⟩:∃ n,Hid (n=F.length):=⟨_,rfl⟩
 have hn2:n≤270:=by rw [HN.out];exact HL.out
 have HH2:Hid (nH=2*n):=by show _=_;rw [HNH.out,HN.out];exact HBR.out.lenH
 have hF0:decide ((0:Int)<(nF:Int))=true:=by rw [decide_eq_true_eq,HNF.out];have:=HBR.out.lenF;omega
 have hnF:0<nF:=by rw [HNF.out];exact HBR.out.lenF
 have hF1:decide (0<nF)=true:=decide_eq_true hnF
 have hEq:((nH:Int) == 2*(n:Int))=true:=by rw [beq_iff_eq];have:=HH2.out;omega
 have hwm:wrap64 (2*(n:Int))=(nH:Int):=(wrap_id (x:=2*(n:Int)) (by omega)).trans (by have:=HH2.out;omega)
 rw [← HNP.out,← HNH.out,← HNF.out,← HGM.out]
 have HW6:Hid (Since w5 (w5.alloc (.cells #[.slice aP nP cP,.slice aH nH cH,.slice aF nF cF] 26))∧Blk (w5.alloc (.cells #[.slice aP nP cP,.slice aH nH cH,.slice aF nF cF] 26)) B 26 #[.slice none 0 0,.slice none 0 0,.slice none 0 0]∧Blk (w5.alloc (.cells #[.slice aP nP cP,.slice aH nH cH,.slice aF nF cF] 26)) GM 26 #[.slice aP nP cP,.slice aH nH cH,.slice aF nF cF]) :=
  ⟨(Since.rfl_ w5).alloc _,HB5.out.alloc _,Blk.new' HGM.out⟩
 have hgB:w.heap.size≤B:=by rw [HB.out];exact Nat.le_refl _
 refine atW (fun w' => Hid (Since w5 w' ∧ Blk w' B 26 #[.slice none 0 0,.slice none 0 0,.slice none 0 0]∧Blk w' GM 26 #[.slice aP nP cP,.slice aH nH cH,.slice aF nF cF])) HW6 ?_
 clear HW6
 rintro w6 HW6
 letI TT:Tgt:=⟨fun g=>if g=B then some (.cells #[.slice aP nP cP,.slice aH nH cH,.slice aF nF cF] 26) else none⟩
 have KT:∀ g,g≠B→Tgt.T g=none:=fun g h1=>by
  show (if _ then _ else _)=_
  rw [if_neg h1]
 have K3:Tgt.T B=some (.cells #[.slice aP nP cP,.slice aH nH cH,.slice aF nF cF] 26 (0,0)):=if_pos rfl
 have hGB:GM≠B:=fun e=>by have:=HB5.out.lt;rw [← e,HGM.out] at this;omega
 have KF:=Lib.hid (fun w' (k:SinceT w6 w')=>(show w'.cell? ⟨GM,0,none⟩=some (.slice aP nP cP)∧w'.cell? ⟨GM,1,none⟩=some (.slice aH nH cH)∧w'.cell? ⟨GM,2,none⟩=some (.slice aF nF cF) from
  ⟨(k.blk (KT _ hGB) HW6.out.2.2).cell 0,(k.blk (KT _ hGB) HW6.out.2.2).cell 1,(k.blk (KT _ hGB) HW6.out.2.2).cell 2⟩))
 have hl6:B<w6.heap.size:=HW6.out.2.1.lt
 apply region_factsT 22 (fun w' => SinceT w6 w')
 case hm=>kernel_rfl
 case hB=>kernel_rfl
 case hS=>exact (SinceT.rfl_ w6).drew
 case hmono=>exact (fun _ _ h k=>h.trans k)
 case hTb=>exact (fun g hg=>KT g (by omega))
 case h =>
 simp only [List.take_succ_cons,List.take_zero,List.drop_succ_cons,List.drop_zero]
 iterate 19 (apply wpO_detT;(case hw=>rfl);(case h=>intro hFm wx hS_ hF_ K hK;go_big_quiet_op;first | exact hK _ rfl | (apply Exists.intro;refine ⟨fun _=>?_,?_⟩;(focus (first | (intro hC;have hC:=KF.out _ hC.out.1;(try simp only [hC,Result.andThen]);first | exact ⟨True.intro,rfl⟩ | exact ⟨rfl,rfl⟩ | rfl)));exact hK _ rfl));(case' k=>simp only [Act.put,List.setIfInBounds_toArray,List.set_cons_succ,List.set_cons_zero,List.cons_append,List.nil_append]))
 apply wpO_anyT (R:=(fun _ w' => Blk w' B 26 #[.slice aP nP cP,.slice aH nH cH,.slice aF nF cF]))
 case hR=>exact (fun _ _ _ h k=>k.blkT K3 h)
 case hw=>rfl
 case h =>
  intro wx hS_ hF_
  unfold runVT
  (obtain ⟨x1,x2,x3,hb⟩:=three_T hS_ HW6.out.2.1 K3;have c0:=hb.cell 0;have c1:=hb.cell 1;have c2:=hb.cell 2;have f0:=hb.frozen 0;have f1:=hb.frozen 1;have f2:=hb.frozen 2;simp only [List.getElem?_toArray,List.getElem?_cons_zero,List.getElem?_cons_succ] at c0 c1 c2;have hr:=Lib.hid (store3_T hb K3);simp [go_sem,c0,c1,c2,f0,f1,f2,cSetS,cSetO];exact hr.out)
 case k =>
 intro v3
 simp only [Act.put,List.setIfInBounds_toArray,List.set_cons_succ,List.set_cons_zero,List.cons_append,List.nil_append]
 iterate 2 (apply wpO_detT;(case hw=>rfl);(case h=>intro hFm wx hS_ hF_ K hK;go_big_quiet_op;first | exact hK _ rfl | (apply Exists.intro;refine ⟨fun _=>?_,?_⟩;(focus (first | (intro hC;have hC:=hC.out;(try simp only [hC,Result.andThen]);first | exact ⟨True.intro,rfl⟩ | exact ⟨rfl,rfl⟩ | rfl)));exact hK _ rfl));(case' k=>simp only [Act.put,List.setIfInBounds_toArray,List.set_cons_succ,List.set_cons_zero,List.cons_append,List.nil_append]))
 refine wpO_nilT ?_
 intro w7 hS hF hB
 (try simp [allF] at hF)
 (try simp [List.pairwise_cons] at hB)
 have hg:=hS.grown KT
 have HS7:Hid (Since w w7):=hS.since (HS5.out.trans HW6.out.1) (fun g hg=>KT g (by omega))
 have HM7:Hid (MapS w7 B (.slice aP nP cP) (.slice aH nH cH) (.slice aF nF cF) P H F):=by
  rw [HNP.out,HNH.out,HNF.out]
  exact Rws.mono (Rws.kept (HM5.out.since HW6.out.1) hg (fun i r hi=>.inr fun e=>own_ne ((HM5.out.since HW6.out.1).ok i r hi) hB4 e.symm)) (Nat.le_of_lt hB4)
 have HX7:Hid (SegsN w7 (.slice aX n cX) E):=by
  rw [HN.out]
  exact own_segsN (own_kept (own_since HW6.out.1 HO5.out) hg hB2) HNX.out
 have HB7:=Lib.hid hF
 clear hS hB hF hg K3 KT KF HW6 HM5 HO5 HX5 HB5
 have c0:w7.cell? ⟨B,0,none⟩=some (.slice aP nP cP):=HB7.out.cell 0
 have c1:w7.cell? ⟨B,1,none⟩=some (.slice aH nH cH):=HB7.out.cell 1
 have c2:w7.cell? ⟨B,2,none⟩=some (.slice aF nF cF):=HB7.out.cell 2
 go_wp2_with fail
 refine bodyPost_ret (v:=.tuple #[.agg #[.slice aP nP cP,.slice aH nH cH,.slice aF nF cF],.slice aX n cX,.bool true]) (by simp [results,Tryz.results11,go_sem,cSetS,cSetO,cellDrew,c0,c1,c2]) rfl ⟨_,_,_,_,E,P,H,F,rfl,HS7.out,HX7.out,HOK.out,HL.out,HM7.out,HBR.out⟩
end
section
open Go.RowKit Go.BigFrame
theorem IndexJ_any {w:World} {v:Value} {l:List Int} {x:Int} (hv:IntS w v l) (hl:l.length≤1000000000000000) :
  Calls Tryz.prog 42 #[v,.int .i64 x] w fun e w' => ∃ r:Int,e=.returned (.int .i64 r)∧decide (0≤r)=decide (x∈l)∧w=w' := by
 obtain ⟨a,c,rfl,hv⟩:=hv
 have HV:=Lib.hid hv
 have HX:Hid ((∀ j,j<l.length→iAt l j≠x)→decide ((0:Int) ≤ -1)=decide (x∈l)):=fun h=>by
  rw [decide_eq_decide]
  refine ⟨fun q=>absurd q (by omega),fun q=>?_⟩
  obtain ⟨j,hj,e2⟩:=List.getElem_of_mem q
  exact absurd (by simp [iAt,List.getD,hj,e2]) (h j (by omega))
 have HY:Hid (∀ k:Nat,k<l.length→iAt l k=x→decide ((0:Int)≤(k:Int))=decide (x∈l)):=fun k hk e=>by
  rw [decide_eq_decide]
  refine ⟨fun _=>?_,fun _=>by omega⟩
  have:iAt l k=l[k]:=by simp [iAt,List.getD,hk]
  rw [← e,this]
  exact List.getElem_mem hk
 obtain ⟨b,hb⟩:∃ b,Hid (b=decide (x∈l)):=⟨_,rfl⟩
 obtain ⟨n,HN⟩:∃ n,Hid (n=l.length):=⟨_,rfl⟩
 rw [← HN.out] at hl HX HY ⊢
 rw [← hb.out] at HX HY ⊢
 clear hv
 go_enter Tryz.func42,Tryz.ntmps42
 go_wp2_with fail
 go_loopw [8] (fun v8 wr=>∃ k:Nat,k≤n∧v8=.int .i64 k∧wr=w∧Hid (∀ j,j<k→iAt l j≠x)) (fun v8 _=>n-(intOf v8).toNat)
 case atStart=>exact ⟨0,Nat.zero_le _,by go_num,rfl,fun j hj=>absurd hj (Nat.not_lt_zero _)⟩
 case round =>
  obtain ⟨k,hk,rfl,rfl,HA⟩:=hrel
  rcases Nat.lt_or_ge k n with hlt | hge
  ·have hz:decide ((k:Int)<(n:Int))=true:=by rw [decide_eq_true_eq];omega
   have i1:(0:Int)≤(k:Int):=by omega
   have i2:(k:Int)<(n:Int):=by omega
   obtain ⟨g,o,rfl,e0⟩:=HV.out k (by rw [← HN.out];exact hlt)
   obtain ⟨y,hy⟩:∃ y,Hid (y=iAt l k):=⟨_,rfl⟩
   rw [← hy.out] at e0
   by_cases e:y=x
   ·have hb2:(x == y)=true:=by rw [beq_iff_eq];exact e.symm
    have HYK:=Lib.hid (HY.out k hlt (by rw [← hy.out];exact e))
    clear e
    go_wp2_with fail
    go_ret
    exact ⟨_,rfl,HYK.out,rfl⟩
   ·have hb2:(x == y)=false:=by rw [beq_eq_false_iff_ne];exact Ne.symm e
    have HA2:Hid (∀ j,j<k+1→iAt l j≠x):=fun j hj=>by
     rcases Nat.lt_succ_iff_lt_or_eq.1 hj with q | q
     ·exact HA.out j q
     ·rw [q,← hy.out];exact e
    clear e
    go_wp2_with fail
    go_roundw
    case rel=>exact ⟨k+1,by omega,by go_num,trivial,HA2⟩
    case measure=>simp [intOf];omega
  ·obtain rfl:n=k:=by omega
   have hz:decide ((n:Int)<(n:Int))=false:=by rw [decide_eq_false_iff_not];omega
   have HXK:=Lib.hid (HX.out HA.out)
   go_wp2_with fail
   go_ret
   exact ⟨_,rfl,HXK.out,rfl⟩
theorem ContainsI_any {w:World} {v:Value} {l:List Int} {x:Int} (hv:IntS w v l) (hl:l.length≤1000000000000000) :
  Calls Tryz.prog 20 #[v,.int .i64 x] w fun e w' => e=.returned (.bool (decide (x∈l)))∧w=w' := by
 have HI:=Lib.hid (IndexJ_any (x:=x) hv hl)
 obtain ⟨a,c,rfl,-⟩:=hv
 obtain ⟨b,hb⟩:∃ b,Hid (b=decide (x∈l)):=⟨_,rfl⟩
 rw [← hb.out] at HI ⊢
 obtain ⟨n,HN⟩:∃ n,Hid (n=l.length):=⟨_,rfl⟩
 rw [← HN.out] at HI ⊢
 go_enter Tryz.func20,Tryz.ntmps20
 go_wp2_with fail
 refine (HI.out).mono ?_
 rintro e w1 ⟨r,rfl,hr,rfl⟩
 go_wp2_with fail
 go_ret
 exact ⟨by first | rw [hr] | rfl,rfl⟩
theorem BldR.fpos {E:List Sg} {P:List Pt2} {H:List Hf} {F:List Int} (h:BldR E P H F):0<F.length:=by
 obtain ⟨O,C,I,T,-,-,-,-,-,hF⟩:=h
 rw [hF,fac3_len]
 exact fac1_pos I T _
set_option maxRecDepth 100000 in
set_option maxHeartbeats 4000000 in
theorem FBes_walk (v:Value) (l:List Int) (f g:Int) (w:World) (hi:IntsB w v l w.heap.size) (hlen:l.length≤9223372036854775807) :
  Calls Tryz.prog 6 #[v,.int .i64 f,.int .i64 g] w fun e w' => e=.returned (.bool true)∧Since w w' := by
 have HBL:=Lib.hid (Built_any v l w hi hlen)
 clear hi
 go_enter Tryz.func6,Tryz.ntmps6
 go_wp2_with fail
 refine (HBL.out).mono ?_
 rintro e w1 ⟨x,vP,vH,vF,E,P,H,F,rfl,hs,hx,hE,hl,hm,hb⟩
 have HMR:=Lib.hid hm.read
 obtain ⟨⟨aP,cP,rfl,-⟩,⟨aH,cH,rfl,-⟩,⟨aF,cF,rfl,-⟩⟩:=hm.read
 obtain ⟨aX,cX,hvX⟩:=hx.slice
 subst hvX
 have HS1:=Lib.hid hs
 obtain ⟨b1,b2,b3⟩:=hb.bds hE hl
 have hev:H.length=2*E.length:=hb.hlen
 obtain ⟨nx,fc,hp,hh⟩:=hb.half hE hl
 have hF0:=hb.fpos
 obtain ⟨fn,HFN⟩:∃ fn:Nat→Nat,Hid (∀ i,i<H.length→(hAt H i).2.1=((twN i:Nat):Int)∧(hAt H i).2.2.2=((fn i:Nat):Int)∧fn i<F.length):=⟨fun i=>(fc i).toNat,fun i hi=>by
  obtain ⟨h1,-,h2,h3,-⟩:=hh i hi
  rw [h1]
  refine ⟨rfl,?_,?_⟩ <;> dsimp only <;> omega⟩
 have HTW:Hid (∀ i,i<H.length→twN i<H.length):=fun i hi=>twN_lt hi (by omega)
 have HBS:Hid (∀ w' (f:Nat),Since w1 w' → f<F.length→Calls Tryz.prog 19 #[.agg #[.slice aP P.length cP,.slice aH H.length cH,.slice aF F.length cF],.int .i64 f] w' fun e w2=>∃ x,e=.returned (.tuple #[x,.int .i64 0])∧IntS w2 x (besL (mkB fn twN F.length f H.length) f F.length)∧Since w' w2):=fun w' f k hf =>
  (Beside_any _ _ _ E P H F w' fn f (HMR.out.since k) hE hl hb HFN.out hf).mono fun e w2 ⟨x,h1,h2,h3⟩=>⟨x,h1,own_intS h2,h3⟩
 have HLW:Hid (∀ a b,a<F.length→b<F.length→decide (((b:Nat):Int)∈besL (mkB fn twN F.length a H.length) a F.length)=decide (((a:Nat):Int)∈besL (mkB fn twN F.length b H.length) b F.length)):=fun a b ha hb' =>
  bes_law (fun i hi=>(HFN.out (twN i) (HTW.out i hi)).2.2) (fun i hi=>⟨HTW.out i hi,twN_tw i⟩) ha hb'
 obtain ⟨n,HN⟩:∃ n,Hid (n=E.length):=⟨_,rfl⟩
 obtain ⟨nP,HNP⟩:∃ n,Hid (n=P.length):=⟨_,rfl⟩
 obtain ⟨nH,HNH⟩:∃ n,Hid (n=H.length):=⟨_,rfl⟩
 obtain ⟨nF,HNF⟩:∃ n,Hid (n=F.length):=⟨_,rfl⟩
 rw [← HNF.out] at b3 hF0 HLW
 rw [← HNP.out,← HNH.out,← HNF.out] at HBS
 rw [← HNH.out] at HLW
 rw [← HNP.out,← HNH.out,← HNF.out,← HN.out]
 obtain ⟨f1,hf1⟩:∃ f1:Nat,Hid (f % (nF:Int)=(f1:Int)):=⟨(f % (nF:Int)).toNat,by show _=_;have:=Int.emod_nonneg f (show (nF:Int)≠0 by omega);omega⟩
 obtain ⟨g1,hg1⟩:∃ g1:Nat,Hid (g % (nF:Int)=(g1:Int)):=⟨(g % (nF:Int)).toNat,by show _=_;have:=Int.emod_nonneg g (show (nF:Int)≠0 by omega);omega⟩
 have hfF:f1<nF:=by have:=hf1.out;have:=Int.emod_lt_of_pos f (show (0:Int)<(nF:Int) by omega);omega
 have hgF:g1<nF:=by have:=hg1.out;have:=Int.emod_lt_of_pos g (show (0:Int)<(nF:Int) by omega);omega
 have HF1:Hid (∀ w',Calls Tryz.prog 18 #[.int .i64 f,.int .i64 nF] w' fun e w2=>e=.returned (.int .i64 (f1:Nat))∧w2=w'):=fun w' => by rw [← hf1.out];exact (Below_any f nF w' (by omega) (by omega)).mono fun e w2 h=>⟨h.1,h.2.symm⟩
 have HG1:Hid (∀ w',Calls Tryz.prog 18 #[.int .i64 g,.int .i64 nF] w' fun e w2=>e=.returned (.int .i64 (g1:Nat))∧w2=w'):=fun w' => by rw [← hg1.out];exact (Below_any g nF w' (by omega) (by omega)).mono fun e w2 h=>⟨h.1,h.2.symm⟩
 clear hs hx hm hb hp hh HBL hE hl hev
 obtain ⟨B,HB⟩:∃ B,Hid (B=w1.heap.size):=⟨_,rfl⟩
 go_upto_region 2 with fail
 rw [← HB.out]
 refine atW (fun w' => Hid (Since w1 w')∧Hid (Blk w' B 26 #[.slice aP nP cP,.slice aH nH cH,.slice aF nF cF])) ⟨(Since.rfl_ w1).alloc _,Blk.new' HB.out⟩ ?_
 rintro w2 ⟨HS2,HB2⟩
 have m2:w2.cell? ⟨B,2,none⟩=some (.slice aF nF cF):=HB2.out.cell 2
 go_upto_region 4 with fail
 go_quiet (first | (go_at_call 18;with_reducible exact Calls.quiet_of_same (HF1.out _)) | (go_at_call 18;with_reducible exact Calls.quiet_of_same (HG1.out _)))
 go_upto_region 5 with fail
 refine atW (fun w' => Hid (Since w1 w')∧Hid (Blk w' B 26 #[.slice aP nP cP,.slice aH nH cH,.slice aF nF cF])) ⟨HS2.out.drewN _,HB2.out⟩ ?_
 clear m2 HS2 HB2
 rintro w3 ⟨HS3,HB3⟩
 have m0:w3.cell? ⟨B,0,none⟩=some (.slice aP nP cP):=HB3.out.cell 0
 have m1:w3.cell? ⟨B,1,none⟩=some (.slice aH nH cH):=HB3.out.cell 1
 have m2:w3.cell? ⟨B,2,none⟩=some (.slice aF nF cF):=HB3.out.cell 2
 go_wp2_with fail
 refine (HBS.out _ f1 HS3.out hfF).mono ?_
 rintro e w4 ⟨x,rfl,hx,hs⟩
 obtain ⟨L1,HL1⟩:∃ L,Hid (L=besL (mkB fn twN nF f1 nH) f1 nF):=⟨_,rfl⟩
 rw [← HL1.out] at hx
 have HX4:=Lib.hid hx
 obtain ⟨ax,cx,hvx,-⟩:=hx
 subst hvx
 have HS4:Hid (Since w1 w4):=HS3.out.trans hs
 have HB4:=Lib.hid (hs.blk HB3.out)
 clear m0 m1 m2 hs HS3 HB3
 have m0:w4.cell? ⟨B,0,none⟩=some (.slice aP nP cP):=HB4.out.cell 0
 have m1:w4.cell? ⟨B,1,none⟩=some (.slice aH nH cH):=HB4.out.cell 1
 have m2:w4.cell? ⟨B,2,none⟩=some (.slice aF nF cF):=HB4.out.cell 2
 go_wp2_with fail
 refine (HBS.out _ g1 HS4.out hgF).mono ?_
 rintro e w5 ⟨y,rfl,hy,hs⟩
 obtain ⟨L2,HL2⟩:∃ L,Hid (L=besL (mkB fn twN nF g1 nH) g1 nF):=⟨_,rfl⟩
 rw [← HL2.out] at hy
 have HY5:=Lib.hid hy
 obtain ⟨ay,cy,hvy,-⟩:=hy
 subst hvy
 have HS5:Hid (Since w1 w5):=HS4.out.trans hs
 have HX5:Hid (IntS w5 (.slice ax L1.length cx) L1):=HX4.out.since hs
 clear m0 m1 m2 hs HS4 HB4 HX4
 have hn1:L1.length≤1000000000000000:=by rw [HL1.out];exact Nat.le_trans (besL_len _ _ _) b3
 have hn2:L2.length≤1000000000000000:=by rw [HL2.out];exact Nat.le_trans (besL_len _ _ _) b3
 obtain ⟨b,hbb⟩:∃ b,Hid (decide (((g1:Nat):Int)∈L1)=b):=⟨_,rfl⟩
 have hb2:Hid (decide (((f1:Nat):Int)∈L2)=b):=by show _=_;rw [← hbb.out,HL1.out,HL2.out];exact (HLW.out f1 g1 hfF hgF).symm
 have hb3:Hid (decide (((f1:Nat):Int)∈L1)=false):=by show _=_;rw [HL1.out];exact bes_self
 have HC1:Hid (∀ w',Since w5 w' → Calls Tryz.prog 20 #[.slice ax L1.length cx,.int .i64 (g1:Nat)] w' fun e w2=>e=.returned (.bool b)∧w2=w'):=fun w' k=>by rw [← hbb.out];exact (ContainsI_any (HX5.out.since k) hn1).mono fun e w2 h=>⟨h.1,h.2.symm⟩
 have HC2:Hid (∀ w',Since w5 w' → Calls Tryz.prog 20 #[.slice ay L2.length cy,.int .i64 (f1:Nat)] w' fun e w2=>e=.returned (.bool b)∧w2=w'):=fun w' k=>by rw [← hb2.out];exact (ContainsI_any (HY5.out.since k) hn2).mono fun e w2 h=>⟨h.1,h.2.symm⟩
 have HC3:Hid (∀ w',Since w5 w' → Calls Tryz.prog 20 #[.slice ax L1.length cx,.int .i64 (f1:Nat)] w' fun e w2=>e=.returned (.bool false)∧w2=w'):=fun w' k=>by rw [← hb3.out];exact (ContainsI_any (HX5.out.since k) hn1).mono fun e w2 h=>⟨h.1,h.2.symm⟩
 obtain ⟨n1,HN1⟩:∃ n,Hid (n=L1.length):=⟨_,rfl⟩
 obtain ⟨n2,HN2⟩:∃ n,Hid (n=L2.length):=⟨_,rfl⟩
 rw [← HN1.out] at HC1 HC3
 rw [← HN2.out] at HC2
 rw [← HN1.out,← HN2.out]
 have HS6:Hid (Since w w5):=HS1.out.trans HS5.out
 clear hn1 hn2 HX5 HY5
 go_wp2_with (first | (go_at_call 20;(with_reducible refine (HC1.out _ (Since.rfl_ _)).mono ?_);rintro e w6 ⟨rfl,rfl⟩) | (go_at_call 20;(with_reducible refine (HC2.out _ (Since.rfl_ _)).mono ?_);rintro e w6 ⟨rfl,rfl⟩) | (go_at_call 20;(with_reducible refine (HC3.out _ (Since.rfl_ _)).mono ?_);rintro e w6 ⟨rfl,rfl⟩))
 all_goals go_ret
 all_goals exact ⟨by simp,HS6.out⟩
theorem FBes_walkB (v:Value) (l:List Int) (f g:Int) (w:World) (hi:IntsB w v l w.heap.size) (_ : -9223372036854775808≤f∧f≤9223372036854775807) (_ : -9223372036854775808≤g∧g≤9223372036854775807):Calls Tryz.prog 6 #[v,.int .i64 f,.int .i64 g] w fun e w' => e=.returned (.bool true)∧Since w w' :=
 FBes_walk v l f g w hi (by obtain ⟨a,c,-,h1,h2,-⟩:=hi;exact Nat.le_trans h1 (Nat.le_trans h2 (by decide)))
end
section
open Go.RowKit Go.BigFrame
open Go.ChangeShapes Go.WideShapes Go.ChangeAt Go.RowKit Go.Joins
theorem ownK:ownKnob Tryz.prog.godebug=none:=by kernel_rfl
theorem laidOutK:laidOutB Tryz.prog=true:=by kernel_rfl
section
variable {H : Type} {enc : TypeId × Value → H} {W : World} {v : Value} {d : DataW H} {p : List MemPlace}
theorem addr_at {W:World} {a:Addr} {i:Nat} {u:Value} (h0:(W.cell? a).isSome=true) (h:W.cell? (a.add i)=some u):W.cell? ⟨a.block,a.off+i,none⟩=some u:=by
 have hs:a.spot=none:=by
  unfold World.cell? at h0
  split at h0
  ·split at h0
   ·simp at h0
   ·next h1=>simpa using h1
  ·simp at h0
 obtain ⟨b,o,s⟩:=a
 dsimp only at hs
 subst hs
 unfold Addr.add at h
 split at h
 ·next h1=>subst h1;exact h
 ·exact h
set_option maxRecDepth 100000 in
theorem ints_of {base:Nat} (hv:Value.okWide Tryz.prog W .any base 22 v) (h:DataW.Trod enc Tryz.prog W 0 (fun _=>true) true 22 v d p):∃ l:List Int,IntsB W v l W.heap.size:=by
 obtain ⟨a0,len0,cap0,rfl⟩:=okWide_slice Tryz.underlying22 hv
 clear hv
 obtain ⟨n,h⟩:=h
 rcases Go.Deep.open_slice1 Tryz.underlying22 (by kernel_rfl) h with ⟨hv,-⟩ | ⟨a,len,cap,m,n',V,D,Pl,hv,-,hl,hm,hmm,-,hx⟩
 ·injection hv with hv
  rw [hv]
  exact ⟨[],none,0,rfl,by simp,by unfold maxLen;omega,fun i hi=>absurd hi (Nat.not_lt_zero _)⟩
 ·injection hv with hv
  rw [hv]
  clear h
  simp only [if_true] at hmm
  subst hmm
  refine ⟨(List.range len).map fun i=>intOf (V i),some a,m,by simp,by simpa using hl,hm,fun i hi=>?_⟩
  have hi' : i<len:=by simpa using hi
  have h0:=(hx 0 (by omega)).1
  have h1:=hx i (by omega)
  obtain ⟨z,hz,-,-⟩:=DataW.trod_int Tryz.underlying3 h1.2
  injection hz with hz
  have ha:a.add 0=a:=rfl
  rw [ha] at h0
  have hs:=addr_at (by rw [h0];rfl) h1.1
  have hs0:=addr_at (i:=0) (by rw [h0];rfl) (by rw [ha];exact h0)
  have hsp:a=⟨a.block,a.off,none⟩:=by
   obtain ⟨b,o,s⟩:=a
   unfold World.cell? at h0
   split at h0
   ·split at h0
    ·cases h0
    ·next h1=>simp at h1;rw [h1]
   ·cases h0
  refine ⟨a.block,a.off,by rw [← hsp],World.block_lt_of_cell? W a h0,?_⟩
  rw [hs,hz]
  simp [List.getD,hi',hz,intOf]
theorem wf64 {z:Int} (h:(Lit.int .i64 z).wf=true) : -9223372036854775808≤z∧z≤9223372036854775807:=by
 simpa [Lit.wf,IntKind.min,IntKind.max,IntKind.signed,IntKind.bits] using h
set_option maxRecDepth 100000 in
theorem int_of {base:Nat} (hv:Value.okWide Tryz.prog W .any base 3 v) (h:DataW.Trod enc Tryz.prog W 0 (fun _=>true) true 3 v d p):∃ z:Int,(-9223372036854775808≤z∧z≤9223372036854775807)∧v=.int .i64 z:=by
 obtain ⟨z0,rfl⟩:=okWide_int Tryz.underlying3 hv
 clear hv
 obtain ⟨n,h⟩:=h
 obtain ⟨z,hz,-,hw⟩:=DataW.trod_int Tryz.underlying3 h
 injection hz with hz
 exact ⟨z,wf64 hw,hz⟩
end
end
end Go.Proofs.YtdnccjdlmepafaaGreat
