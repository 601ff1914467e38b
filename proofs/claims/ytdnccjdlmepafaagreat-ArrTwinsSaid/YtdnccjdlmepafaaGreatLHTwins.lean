/-
  The walk of ArrTwins: half-edges and their twins; each one is next of one. Conditions: the argument's list.
-/
import Derived.Test.YtdnccjdlmepafaaGreatLHTwF
import Derived.Test.YtdnccjdlmepafaaGreatK28
set_option linter.unusedSimpArgs false
set_option linter.unusedVariables false
set_option linter.constructorNameAsVariable false
namespace Go.Proofs.YtdnccjdlmepafaaGreat
open Go.RowKit Go.BigFrame
attribute [local go_sem ↓] eqPt neqPt
def TwS (w:World) (B gT nH:Nat) (m:Array Value) (C:List Int):Prop :=
 Blk w B 26 m∧B<gT∧w.ownsRow gT 3 1 (.slice (some ⟨gT,0,none⟩) nH nH) nH (C.map iV)
set_option maxRecDepth 100000 in
set_option maxHeartbeats 4000000 in
theorem Twins_walk (v:Value) (l:List Int) (w:World) (hi:IntsB w v l w.heap.size) (hlen:l.length≤9223372036854775807) :
  Calls Tryz.prog 4 #[v] w fun e w' => e=.returned (.bool true)∧Since w w' := by
 have HBL:=Lib.hid (Built_any v l w hi hlen)
 clear hi
 obtain ⟨i2,hi2,hy0,hy1,hy3⟩:=info_parts infoI
 have HI2:=Lib.hid (And.intro hi2 (And.intro hy0 (And.intro hy1 hy3)))
 clear hi2 hy0 hy1 hy3
 go_enter Tryz.func4,Tryz.ntmps4
 go_wp2_with fail
 refine (HBL.out).mono ?_
 rintro e w1 ⟨x,vP,vH,vF,E,P,H,F,rfl,hs,hx,hE,hl,hm,hb⟩
 obtain ⟨⟨aP,cP,rfl,hpP⟩,⟨aH,cH,rfl,hpH⟩,⟨aF,cF,rfl,-⟩⟩:=hm.read
 obtain ⟨aX,cX,hvX⟩:=hx.slice
 subst hvX
 have HS1:=Lib.hid hs
 have HX1:=Lib.hid hx
 have HPP:=Lib.hid hpP
 have HPH:=Lib.hid hpH
 obtain ⟨b1,b2,b3⟩:=hb.bds hE hl
 obtain ⟨nx,fc,hp,hh⟩:=hb.half hE hl
 have HFR:=Lib.hid (fun i (hi:i<2*E.length)=>hb.fr hi)
 have HEN:Hid (H.length=2*E.length):=hb.hlen
 have HP:=Lib.hid hp
 have HH:=Lib.hid hh
 clear hs hx hm hb hpP hpH hp hh HBL hE
 obtain ⟨n,HN⟩:∃ n,Hid (n=E.length):=⟨_,rfl⟩
 obtain ⟨nP,HNP⟩:∃ n,Hid (n=P.length):=⟨_,rfl⟩
 obtain ⟨nH,HNH⟩:∃ n,Hid (n=H.length):=⟨_,rfl⟩
 obtain ⟨nF,HNF⟩:∃ n,Hid (n=F.length):=⟨_,rfl⟩
 rw [← HNH.out] at b2 HEN HP HH
 rw [← HNP.out] at b1
 rw [← HN.out] at hl HEN HFR
 clear b3
 rw [← HNP.out,← HNH.out,← HNF.out,← HN.out]
 obtain ⟨B,HB⟩:∃ B,Hid (B=w1.heap.size):=⟨_,rfl⟩
 go_upto_region 2 with fail
 rw [← HB.out]
 refine atW (fun w' => Hid (Since w1 w')∧Hid (Blk w' B 26 #[.slice aP nP cP,.slice aH nH cH,.slice aF nF cF])) ⟨(Since.rfl_ w1).alloc _,Blk.new' HB.out⟩ ?_
 rintro w2 ⟨HS2,HB2⟩
 have m1:w2.cell? ⟨B,1,none⟩=some (.slice aH nH cH):=HB2.out.cell 1
 obtain ⟨gT,HGT⟩:∃ g,Hid (g=w2.heap.size):=⟨_,rfl⟩
 go_upto_region 5 with (at_make;refine wpList_make_full _ rfl _ _ 22 rfl w2.heap.size 3 i2 _ 1 Tryz.underlying22 HI2.out.1 HI2.out.2.1 HI2.out.2.2.1 .i64 .i64 _ _ nH rfl rfl rfl rfl (by rw [HI2.out.2.2.2];omega) (by unfold maxLen;omega) (Nat.le_refl _) ?_;intro w3 hown hgrow)
 clear m1
 rw [← HGT.out] at hown ⊢
 have hs3:Since w2 w3:=⟨hgrow.os,hgrow.tape,hgrow.output,hgrow.size,fun i hi=>hgrow.block i hi (by simp)⟩
 have HT3:Hid (TwS w3 B gT nH #[.slice aP nP cP,.slice aH nH cH,.slice aF nF cF] (cntL nx nH 0)):=by
  refine ⟨hs3.blk HB2.out,by rw [HGT.out];exact HB2.out.lt,?_⟩
  have e:(cntL nx nH 0).map iV=(madeCells (Value.int IntKind.i64 0).cells (nH*1)).toList:=by
   refine List.ext_getElem (by simp [cntL,madeCells]) fun i h1 h2=>?_
   simp [madeCells,iV,Value.cells,Nat.mod_one,cntL]
  rw [e]
  exact hown
 have HS3:Hid (Since w1 w3):=HS2.out.trans hs3
 have m1:w3.cell? ⟨B,1,none⟩=some (.slice aH nH cH):=HT3.out.1.cell 1
 clear hown hgrow hs3 HS2 HB2
 go_wp2_with fail
 clear m1
 go_loopw [24] (fun v24 wr=>∃ k:Nat,k≤nH∧v24=.int .i64 k∧Hid (Since w1 wr)∧Hid (TwS wr B gT nH #[.slice aP nP cP,.slice aH nH cH,.slice aF nF cF] (cntL nx nH k))) (fun v24 _=>nH-(intOf v24).toNat)
 case atStart=>exact ⟨0,Nat.zero_le _,by go_num,HS3,HT3⟩
 case round =>
  clear HS3 HT3
  obtain ⟨k,hk,rfl,HS,HT⟩:=hrel
  rcases Nat.lt_or_ge k nH with hlt | hge
  ·have hz:decide ((k:Int)<(nH:Int))=true:=by rw [decide_eq_true_eq];omega
   obtain ⟨w4,rfl⟩:∃ w4,w4=wr:=⟨_,rfl⟩
   obtain ⟨hk1,hk2,-⟩:=HH.out k hlt
   obtain ⟨g,o,rfl,e0,e1,e2,e3⟩:=HPH.out k (by rw [← HNH.out];exact hlt)
   rw [hk1] at e0 e1 e2 e3
   dsimp only at e0 e1 e2 e3
   obtain ⟨q1,q2,q3⟩:=HFR.out k (by rw [← HEN.out];exact hlt)
   obtain ⟨f,hf⟩:∃ f,Hid (f=frH E P k):=⟨_,rfl⟩
   obtain ⟨t,ht⟩:∃ t,Hid (t=twN k):=⟨_,rfl⟩
   obtain ⟨q,hq⟩:∃ q,Hid (q=nx k):=⟨_,rfl⟩
   obtain ⟨c,hc⟩:∃ c,Hid (c=fc k):=⟨_,rfl⟩
   rw [← hf.out] at e0 q2 q3
   rw [← ht.out] at e1
   rw [← hq.out] at e2
   rw [← hc.out] at e3
   have hqN:q<nH:=by rw [hq.out];exact HP.out.lt k hlt
   have hfP:f<nP:=by rw [HNP.out];exact q2
   have HQ3:=Lib.hid q3
   have HK2:=Lib.hid hk2
   clear hk1 hk2 q1 q2 q3
   have e0:=keepC HS.out _ _ e0
   have e1:=keepC HS.out _ _ e1
   have e2:=keepC HS.out _ _ e2
   have e3:=keepC HS.out _ _ e3
   have k1:(0:Int)≤(k:Int):=by omega
   have k2:(k:Int)<(nH:Int):=by omega
   obtain ⟨gX,HGX⟩:∃ g,Hid (g=w4.heap.size):=⟨_,rfl⟩
   go_upto_region 8 with fail
   rw [← HGX.out]
   refine atW (fun w' => Hid (Since w4 w')∧Hid (Blk w' gX 33 #[.int .i64 f,.int .i64 t,.int .i64 q,.int .i64 c])) ⟨(Since.rfl_ w4).alloc _,Blk.new' HGX.out⟩ ?_
   clear e0 e1 e2 e3
   rintro w5 ⟨HS5,HX5⟩
   obtain ⟨d1,hd1⟩:∃ d,Hid (d=k/2):=⟨_,rfl⟩
   obtain ⟨r1,hr1⟩:∃ r,Hid (r=k % 2):=⟨_,rfl⟩
   have hdn:d1<n:=by have:=hd1.out;have:=HEN.out;omega
   have hr2:r1<2:=by have:=hr1.out;omega
   obtain ⟨gP,oP,rfl,p0,p1⟩:=HPP.out f (by rw [← HNP.out];exact hfP)
   obtain ⟨gs,os,rfl,s0,s1,s2,s3⟩:=HX1.out.cells (k:=d1) (by rw [← HN.out];exact hdn)
   obtain ⟨p,hpp⟩:∃ p,Hid (p=pAt P f):=⟨_,rfl⟩
   rw [← hpp.out] at p0 p1
   have hpE:p=endH E k:=by rw [hpp.out];exact HQ3.out
   have hSS:w1.cell? ⟨gs,os+d1*4+r1*2,none⟩=some (.int .i64 p.1)∧w1.cell? ⟨gs,os+d1*4+r1*2+1,none⟩=some (.int .i64 p.2):=by
    unfold endH at hpE
    rw [← hr1.out,← hd1.out] at hpE
    rcases Nat.lt_or_ge r1 1 with h | h
    ·obtain rfl:r1=0:=by omega
     rw [if_pos rfl] at hpE
     rw [hpE]
     exact ⟨s0,s1⟩
    ·obtain rfl:r1=1:=by omega
     rw [if_neg (by omega)] at hpE
     rw [hpE]
     exact ⟨s2,s3⟩
   clear s0 s1 s2 s3 hpE
   have HSF:Hid (Since w1 w5):=HS.out.trans HS5.out
   have HM5:=Lib.hid (HS5.out.blk HT.out.1)
   have HP0:=Lib.hid (And.intro (keepC HSF.out _ _ p0) (And.intro (keepC HSF.out _ _ p1) (And.intro (keepC HSF.out _ _ hSS.1) (keepC HSF.out _ _ hSS.2))))
   clear p0 p1 hSS
   have KF:=Lib.hid (fun w' (kk:Since w5 w')=>(show w'.cell? ⟨gX,0,none⟩=some (.int .i64 f)∧w'.cell? ⟨gX,1,none⟩=some (.int .i64 t)∧w'.cell? ⟨gX,2,none⟩=some (.int .i64 q)∧w'.cell? ⟨B,0,none⟩=some (.slice (some ⟨gP,oP,none⟩) nP cP)∧w'.cell? ⟨B,1,none⟩=some (.slice (some ⟨g,o,none⟩) nH cH)∧w'.cell? ⟨gP,oP+f*2,none⟩=some (.int .i64 p.1)∧w'.cell? ⟨gP,oP+f*2+1,none⟩=some (.int .i64 p.2)∧w'.cell? ⟨gs,os+d1*4+r1*2,none⟩=some (.int .i64 p.1)∧w'.cell? ⟨gs,os+d1*4+r1*2+1,none⟩=some (.int .i64 p.2) from
    ⟨(kk.blk HX5.out).cell 0,(kk.blk HX5.out).cell 1,(kk.blk HX5.out).cell 2,(kk.blk HM5.out).cell 0,(kk.blk HM5.out).cell 1,keepC kk _ _ HP0.out.1,keepC kk _ _ HP0.out.2.1,keepC kk _ _ HP0.out.2.2.1,keepC kk _ _ HP0.out.2.2.2⟩))
   have g1:decide ((q:Int)<0)=false:=by rw [decide_eq_false_iff_not];omega
   have g2:decide ((nH:Int)≤(q:Int))=false:=by rw [decide_eq_false_iff_not];omega
   have g3:decide ((f:Int)<0)=false:=by rw [decide_eq_false_iff_not];omega
   have g4:decide ((nP:Int)≤(f:Int))=false:=by rw [decide_eq_false_iff_not];omega
   have g5:decide (nH≤q)=false:=by rw [decide_eq_false_iff_not];omega
   have g6:decide (nP≤f)=false:=by rw [decide_eq_false_iff_not];omega
   have j1:(0:Int)≤(f:Int):=by omega
   have j2:(f:Int)<(nP:Int):=by omega
   have j3:(0:Int)≤(d1:Int):=by omega
   have j4:(d1:Int)<(n:Int):=by omega
   have j5:(0:Int)≤(r1:Int):=by omega
   have j6:(r1:Int)<2:=by omega
   have j7:(0:Int)≤(q:Int):=by omega
   have j8:(q:Int)<(nH:Int):=by omega
   have y1:Int.tdiv (k:Int) 2=(d1:Int):=by rw [hd1.out];simp
   have y2:Int.tmod (k:Int) 2=(r1:Int):=by rw [hr1.out];rfl
   have hkb:k≤1000000000:=by omega
   have htN:t<nH:=by rw [ht.out];exact twN_lt hlt (by have:=HEN.out;omega)
   have HWD:Hid (wrap64 (d1:Int)=(d1:Int)):=wrap_id (by omega)
   have HXO:Hid (bits .xor .i64 (k:Int) 1=(t:Int)):=by show _=_;rw [ht.out];exact xorI hkb
   have y3:=HXO.out
   have y4:=HWD.out
   apply region_facts 48 (fun w' => Since w5 w')
   case hm=>kernel_rfl
   case hB=>kernel_rfl
   case hS=>exact (Since.rfl_ w5).drew
   case h =>
   simp only [List.take_succ_cons,List.take_zero,List.drop_succ_cons,List.drop_zero]
   iterate 48 (apply wpO_det;(case hw=>rfl);(case h=>intro hFm wx hS_ hF_ K hK;go_big_quiet_op;first | exact hK _ rfl | (apply Exists.intro;refine ⟨fun _=>?_,?_⟩;(focus (first | (intro hC;have hC:=KF.out _ hC.out.1;(try simp only [hC,Result.andThen]);first | exact ⟨True.intro,rfl⟩ | exact ⟨rfl,rfl⟩ | rfl)));exact hK _ rfl));(case' k=>simp only [Act.put,List.setIfInBounds_toArray,List.set_cons_succ,List.set_cons_zero,List.cons_append,List.nil_append]))
   refine wpO_nil ?_
   intro w6 hS hF hB
   (try simp [allF] at hF)
   (try simp [List.pairwise_cons] at hB)
   have HS6:Hid (Since w1 w6):=HSF.out.trans hS
   have HX6:=Lib.hid (hS.blk HX5.out)
   have HT6:Hid (TwS w6 B gT nH #[.slice (some ⟨gP,oP,none⟩) nP cP,.slice (some ⟨g,o,none⟩) nH cH,.slice aF nF cF] (cntL nx nH k)):=⟨(HS5.out.trans hS).blk HT.out.1,HT.out.2.1,own_since (HS5.out.trans hS) HT.out.2.2⟩
   have hgX:gT<gX:=by rw [HGX.out];exact (HT.out.2.2.lt gT rfl).2
   have hgT:w1.heap.size≤gT:=by rw [← HB.out];exact Nat.le_of_lt HT.out.2.1
   clear hF hB hS KF g1 g2 g3 g4 g5 g6 j1 j2 j3 j4 j5 j6 y1 y2 y3 y4 HP0 HM5 HSF HX5 HS5 HT HS hz
   obtain ⟨C,HC⟩:∃ C,Hid (C=cntL nx nH k):=⟨_,rfl⟩
   have HCL:Hid (C.length=nH):=by show _=_;rw [HC.out];exact cntL_len nx nH k
   rw [← HC.out] at HT6
   obtain ⟨x,hx⟩:∃ x,Hid (x=iAt C q):=⟨_,rfl⟩
   have hxb:0≤x∧x≤1:=by rw [hx.out,HC.out];exact cntL_le HP.out hqN hk
   have HO6:Hid (w6.ownsRow gT 3 1 (.slice (some ⟨gT,0,none⟩) nH nH) C.length (C.map iV)):=by rw [HCL.out];exact HT6.out.2.2
   have cT:w6.cell? ⟨gT,q,none⟩=some (.int .i64 x):=by
    have h0:w6.ownsRow gT 3 1 (.slice (some ⟨gT,0,none⟩) C.length nH) C.length (C.map iV):=by have:=HO6.out;rw [HCL.out] at this ⊢;exact this
    rw [hx.out];exact rowI_cell h0 (by rw [HCL.out];exact hqN)
   have fT:w6.frozen? ⟨gT,q,none⟩=false:=by
    obtain ⟨-,⟨h1,-⟩ | ⟨g1,cap,cur,h1,-,hb,-⟩⟩:=HT6.out.2.2
    ·cases h1
    injection h1 with h1
    injection h1 with h1
    injection h1 with h1
    subst h1
    exact Blk.frozen hb q
   have c2:w6.cell? ⟨gX,2,none⟩=some (.int .i64 q):=HX6.out.cell 2
   have hw1:wrap64 (x+1)=x+1:=wrap_id (by omega)
   have HT7:Hid (TwS (w6.setCell ⟨gT,q,none⟩ (.int .i64 (x+1))) B gT nH #[.slice (some ⟨gP,oP,none⟩) nP cP,.slice (some ⟨g,o,none⟩) nH cH,.slice aF nF cF] (cntL nx nH (k+1))):=by
    refine ⟨HT6.out.1.far (by have:=HT6.out.2.1;dsimp only;omega) _,HT6.out.2.1,?_⟩
    have h1:=own_setK HT6.out.2.2 (i:=q) (by omega) (.int .i64 (x+1))
    have e:cntL nx nH (k+1)=C.set q (x+1):=by
     show (cntL nx nH k).set (nx k) (iAt (cntL nx nH k) (nx k)+1)=_
     rw [← HC.out,← hq.out,← hx.out]
    rw [e,List.map_set]
    exact h1
   go_upto_region 11 with fail
   refine atW (fun w' => Hid (Since w1 w')∧Hid (TwS w' B gT nH #[.slice (some ⟨gP,oP,none⟩) nP cP,.slice (some ⟨g,o,none⟩) nH cH,.slice aF nF cF] (cntL nx nH (k+1)))∧Hid (Blk w' gX 33 #[.int .i64 f,.int .i64 t,.int .i64 q,.int .i64 c])) ⟨HS6.out.setCell (p:=⟨gT,q,none⟩) hgT _,HT7,HX6.out.far (by dsimp only;omega) _⟩ ?_
   clear HT7 cT fT c2 hw1 hxb HO6 HT6 HX6 HS6
   rintro w7 ⟨HS7,HT7,HX7⟩
   obtain ⟨g',o',e',f1,-⟩:=HPH.out q (by rw [← HNH.out];exact hqN)
   injection e' with e'
   injection e' with v1 v2
   subst v1 v2
   obtain ⟨g',o',e',f2,-⟩:=HPH.out t (by rw [← HNH.out];exact htN)
   injection e' with e'
   injection e' with v1 v2
   subst v1 v2
   obtain ⟨y,hy⟩:∃ y:Nat,Hid (y=frH E P q):=⟨_,rfl⟩
   have hfq:(hAt H q).1=(y:Int):=by rw [(HH.out q hqN).1,hy.out]
   have hft:(hAt H t).1=(y:Int):=by rw [(HH.out t htN).1,hy.out,hq.out,HK2.out,ht.out]
   rw [hfq] at f1
   rw [hft] at f2
   have KF2:=Lib.hid (fun w' (kk:Since w7 w')=>(show w'.cell? ⟨gX,2,none⟩=some (.int .i64 q)∧w'.cell? ⟨B,1,none⟩=some (.slice (some ⟨g,o,none⟩) nH cH)∧w'.cell? ⟨g,o+q*4,none⟩=some (.int .i64 y)∧w'.cell? ⟨g,o+t*4,none⟩=some (.int .i64 y) from
    ⟨(kk.blk HX7.out).cell 2,(kk.blk HT7.out.1).cell 1,keepC kk _ _ (keepC HS7.out _ _ f1),keepC kk _ _ (keepC HS7.out _ _ f2)⟩))
   clear f1 f2 hfq hft
   have y3:=HXO.out
   have j3:(0:Int)≤(t:Int):=by omega
   have j4:(t:Int)<(nH:Int):=by omega
   apply region_facts 15 (fun w' => Since w7 w')
   case hm=>kernel_rfl
   case hB=>kernel_rfl
   case hS=>exact (Since.rfl_ w7).drew
   case h =>
   simp only [List.take_succ_cons,List.take_zero,List.drop_succ_cons,List.drop_zero]
   iterate 15 (apply wpO_det;(case hw=>rfl);(case h=>intro hFm wx hS_ hF_ K hK;go_big_quiet_op;first | exact hK _ rfl | (apply Exists.intro;refine ⟨fun _=>?_,?_⟩;(focus (first | (intro hC;have hC:=KF2.out _ hC.out.1;(try simp only [hC,Result.andThen]);first | exact ⟨True.intro,rfl⟩ | exact ⟨rfl,rfl⟩ | rfl)));exact hK _ rfl));(case' k=>simp only [Act.put,List.setIfInBounds_toArray,List.set_cons_succ,List.set_cons_zero,List.cons_append,List.nil_append]))
   refine wpO_nil ?_
   intro w8 hS hF hB
   (try simp [allF] at hF)
   (try simp [List.pairwise_cons] at hB)
   have HS8:Hid (Since w1 w8):=HS7.out.trans hS
   have HT8:Hid (TwS w8 B gT nH #[.slice (some ⟨gP,oP,none⟩) nP cP,.slice (some ⟨g,o,none⟩) nH cH,.slice aF nF cF] (cntL nx nH (k+1))):=⟨hS.blk HT7.out.1,HT7.out.2.1,own_since hS HT7.out.2.2⟩
   clear hF hB hS KF2 y3 HT7 HS7 HX7
   go_wp2_with fail
   go_roundw
   case rel=>exact ⟨k+1,by omega,by go_num,HS8,HT8⟩
   case measure=>simp [intOf];omega
  ·obtain rfl:nH=k:=by omega
   have hz:decide ((nH:Int)<(nH:Int))=false:=by rw [decide_eq_false_iff_not];omega
   have HC:Hid (∀ w',Since wr w' → Calls Tryz.prog 13 #[.slice (some ⟨gT,0,none⟩) nH nH,.func (Fn.func 14) #[] #[]] w' fun e w2=>e=.returned (.bool false)∧Since w' w2):=fun w' kk=>by
    have ho:=own_since kk HT.out.2.2
    have hq:IntS w' (.slice (some ⟨gT,0,none⟩) nH nH) (cntL nx nH nH):=own_intS (by rw [cntL_len];exact ho.mono (Nat.zero_le _))
    exact ContainsOne_any _ (cntL nx nH nH) w' (by rw [cntL_len];omega) hq (fun i hi=>cntL_one HP.out (by rw [cntL_len] at hi;exact hi))
   go_wp2_with fail
   refine (HC.out _ (Since.rfl_ wr)).mono ?_
   rintro e w5 ⟨rfl,hs⟩
   have HS5:Hid (Since w w5):=HS1.out.trans (HS.out.trans hs)
   clear hs
   go_wp2_with fail
   go_ret
   exact ⟨rfl,HS5.out⟩
end Go.Proofs.YtdnccjdlmepafaaGreat
