/-
  The walk of HalfRounds: each half-edge is on one boundary, all of whose half-edges have the same face. Conditions: the argument's list.
-/
import Derived.Test.YtdnccjdlmepafaaGreatLHRdS
import Derived.Test.YtdnccjdlmepafaaGreatK28
import Derived.BigQuiet
import Derived.Deep.LoopGhost
set_option linter.unusedSimpArgs false
set_option linter.unusedVariables false
set_option linter.constructorNameAsVariable false
namespace Go.Proofs.YtdnccjdlmepafaaGreat
open Go.RowKit Go.BigFrame
attribute [local go_sem ↓] eqPt neqPt
set_option maxRecDepth 100000 in
set_option maxHeartbeats 4000000 in
theorem Rounds_walk (v:Value) (l:List Int) (w:World) (hi:IntsB w v l w.heap.size) (hlen:l.length≤9223372036854775807) :
  Calls Tryz.prog 3 #[v] w fun e w' => e=.returned (.bool true)∧Since w w' := by
 have HBL:=Lib.hid (Built_any v l w hi hlen)
 clear hi
 obtain ⟨i2,hi2,hy0,hy1,hy3⟩:=info_parts infoBo
 have HI2:=Lib.hid (And.intro hi2 (And.intro hy0 (And.intro hy1 hy3)))
 clear hi2 hy0 hy1 hy3
 go_enter Tryz.func3,Tryz.ntmps3
 go_wp2_with fail
 refine (HBL.out).mono ?_
 rintro e w1 ⟨x,vP,vH,vF,E,P,H,F,rfl,hs,hx,hE,hl,hm,hb⟩
 obtain ⟨⟨aP,cP,rfl,hpP⟩,⟨aH,cH,rfl,hpH⟩,⟨aF,cF,rfl,-⟩⟩:=hm.read
 obtain ⟨aX,cX,hvX⟩:=hx.slice
 subst hvX
 have HS1:=Lib.hid hs
 have HX1:=Lib.hid hx
 have HMR:=Lib.hid hm.read
 have HPH:=Lib.hid hpH
 obtain ⟨b1,b2,b3⟩:=hb.bds hE hl
 obtain ⟨nx,fc,hp,hh⟩:=hb.half hE hl
 have HFR:=Lib.hid (fun i (hi:i<2*E.length)=>hb.fr hi)
 have HEN:Hid (H.length=2*E.length):=hb.hlen
 have HP:=Lib.hid hp
 have HH:=Lib.hid hh
 clear hs hx hm hb hpP hpH hp hh HBL hE
 obtain ⟨n,HN⟩:∃ n,Hid (n=E.length):=⟨_,rfl⟩
 obtain ⟨nP,HNP⟩:∃ n,Hid (n=P.length):=⟨_,rfl⟩
 obtain ⟨nH,HNH⟩:∃ n,Hid (n=H.length):=⟨_,rfl⟩
 obtain ⟨nF,HNF⟩:∃ n,Hid (n=F.length):=⟨_,rfl⟩
 rw [← HNP.out,← HNH.out,← HNF.out] at HMR
 rw [← HNH.out] at b2 HEN HP HH
 rw [← HNP.out] at b1
 rw [← HN.out] at hl HEN HFR
 clear b3
 rw [← HNP.out,← HNH.out,← HNF.out,← HN.out]
 obtain ⟨B,HB⟩:∃ B,Hid (B=w1.heap.size):=⟨_,rfl⟩
 go_upto_region 2 with fail
 rw [← HB.out]
 refine atW (fun w' => Hid (Since w1 w')∧Hid (Blk w' B 26 #[.slice aP nP cP,.slice aH nH cH,.slice aF nF cF])) ⟨(Since.rfl_ w1).alloc _,Blk.new' HB.out⟩ ?_
 rintro w2 ⟨HS2,HB2⟩
 have m1:w2.cell? ⟨B,1,none⟩=some (.slice aH nH cH):=HB2.out.cell 1
 obtain ⟨gT,HGT⟩:∃ g,Hid (g=w2.heap.size):=⟨_,rfl⟩
 go_upto_region 5 with (at_make;refine wpList_make_full _ rfl _ _ 30 rfl w2.heap.size 4 i2 _ 1 Tryz.underlying30 HI2.out.1 HI2.out.2.1 HI2.out.2.2.1 .i64 .i64 _ _ nH rfl rfl rfl rfl (by rw [HI2.out.2.2.2];omega) (by unfold maxLen;omega) (Nat.le_refl _) ?_;intro w3 hown hgrow)
 clear m1
 rw [← HGT.out] at hown ⊢
 have hs3:Since w2 w3:=⟨hgrow.os,hgrow.tape,hgrow.output,hgrow.size,fun i hi=>hgrow.block i hi (by simp)⟩
 have HT3:Hid (RdS w3 B gT nH #[.slice aP nP cP,.slice aH nH cH,.slice aF nF cF] (List.replicate nH false)):=by
  refine ⟨hs3.blk HB2.out,by rw [HGT.out];exact HB2.out.lt,?_⟩
  have e:(List.replicate nH false).map bV=(madeCells (Value.bool false).cells (nH*1)).toList:=by
   refine List.ext_getElem (by simp [madeCells]) fun i h1 h2=>?_
   simp [madeCells,bV,Value.cells,Nat.mod_one]
  rw [e]
  exact hown
 have HS3:Hid (Since w1 w3):=HS2.out.trans hs3
 have m1:w3.cell? ⟨B,1,none⟩=some (.slice aH nH cH):=HT3.out.1.cell 1
 clear hown hgrow hs3 HS2 HB2
 go_wp2_with fail
 clear m1
 go_loopg [26] nH (fun gm v26 wr=>∃ (k:Nat) (L:List Bool),k+gm=nH∧v26=.int .i64 k∧Hid (Since w1 wr)∧Hid (RdS wr B gT nH #[.slice aP nP cP,.slice aH nH cH,.slice aF nF cF] L)∧Hid (SeenP nH nx L k))
 case atStart=>exact ⟨0,_,by omega,by go_num,HS3,HT3,SeenP.start _ _⟩
 case round =>
  clear HS3 HT3
  obtain ⟨k,L,hk,rfl,HS,HT,HN2⟩:=hrel
  obtain ⟨w4,rfl⟩:∃ w4,w4=wr:=⟨_,rfl⟩
  rcases Nat.lt_or_ge k nH with hlt | hge
  ·have hz:decide ((k:Int)<(nH:Int))=true:=by rw [decide_eq_true_eq];omega
   have k1:(0:Int)≤(k:Int):=by omega
   have k2:(k:Int)<(nH:Int):=by omega
   cases eb:bAt L k with
   | true =>
    have cT:w4.cell? ⟨gT,k,none⟩=some (.bool true):=by rw [← eb];exact HT.out.cell HN2.out.len hlt
    have HEB:=Lib.hid eb
    clear eb
    go_wp2_with fail
    go_roundg (nH-(k+1))
    case measure=>omega
    case rel=>exact ⟨k+1,L,by omega,by go_num,HS,HT,HN2.out.skip HEB.out⟩
   | false =>
    have cT:w4.cell? ⟨gT,k,none⟩=some (.bool false):=by rw [← eb];exact HT.out.cell HN2.out.len hlt
    have HEB:=Lib.hid eb
    clear eb
    obtain ⟨n1,hr,hn1⟩:=HP.out.round hlt
    have HR:=Lib.hid hr
    have hn0:0<n1:=hr.1
    clear hr
    obtain ⟨g,o,haH,-,-,-,e3⟩:=HPH.out k (by rw [← HNH.out];exact hlt)
    subst haH
    rw [(HH.out k hlt).1] at e3
    dsimp only at e3
    obtain ⟨c,hc⟩:∃ c,Hid (c=fc k):=⟨_,rfl⟩
    rw [← hc.out] at e3
    have HE3:=Lib.hid e3
    clear e3
    have HFC:Hid (∀ i,fc (itN nx k i)=c):=fun i=>by
     induction i with
     | zero=>exact hc.out.symm
     | succ i ih=>exact ((HH.out _ (it_lt HP.out hlt i)).2.2.2.2).trans ih
    have HWK:=Lib.hid (Walk_any (.slice aP nP cP) (.slice (some ⟨g,o,none⟩) nH cH) (.slice aF nF cF) P H F w4 nx k n1 (HMR.out.since HS.out) (by rw [← HNH.out];omega) (by rw [← HNH.out];exact HP.out) (fun i hi=>by rw [(HH.out i (by rw [HNH.out];exact hi)).1]) (by rw [← HNH.out];exact hlt) HR.out (by rw [← HNH.out];exact hn1))
    have m0:w4.cell? ⟨B,0,none⟩=some (.slice aP nP cP):=HT.out.1.cell 0
    have m1:w4.cell? ⟨B,1,none⟩=some (.slice (some ⟨g,o,none⟩) nH cH):=HT.out.1.cell 1
    have m2:w4.cell? ⟨B,2,none⟩=some (.slice aF nF cF):=HT.out.1.cell 2
    have hgT:w1.heap.size≤gT:=by rw [← HB.out];exact Nat.le_of_lt HT.out.2.1
    have hgT4:gT<w4.heap.size:=(HT.out.2.2.lt gT rfl).2
    go_upto_region 9 with fail
    go_upto_region 10 with (go_at_call 12;(with_reducible refine (HWK.out).mono ?_);rintro e w5 ⟨x,rfl,ho,hs⟩)
    clear m0 m1 m2
    obtain ⟨gX,cX,hX⟩:=own_gc ho hn0
    subst hX
    have hgX:gT<gX:=by have:=(ho.lt gX rfl).1;omega
    have HCW:Hid (∀ i,i<n1→w5.cell? ⟨gX,i,none⟩=some (.int .i64 (itN nx k i:Nat))):=fun i hi=>by
     have h0:w5.ownsRow w4.heap.size 3 1 (.slice (some ⟨gX,0,none⟩) (bndL nx k n1).length cX) (bndL nx k n1).length ((bndL nx k n1).map iV):=by rw [bndL_len];exact ho
     rw [← bndL_at nx k hi]
     exact rowI_cell h0 (by rw [bndL_len];exact hi)
    have HS5:Hid (Since w1 w5):=HS.out.trans hs
    have HT5:Hid (RdS w5 B gT nH #[.slice aP nP cP,.slice (some ⟨g,o,none⟩) nH cH,.slice aF nF cF] (mrkL nx L k 0)):=HT.out.since hs
    have c0:w5.cell? ⟨gX,0,none⟩=some (.int .i64 (k:Nat)):=HCW.out 0 hn0
    have g1:((n1:Int) == 0)=false:=by rw [beq_eq_false_iff_ne];omega
    clear ho hs HS HT cT HWK
    go_wp2_with fail
    clear c0 g1
    go_loopg [48] n1 (fun gj v48 wr=>∃ i,i+gj=n1∧v48=.int .i64 (i:Nat)∧Hid (Since w1 wr)∧Hid (RdS wr B gT nH #[.slice aP nP cP,.slice (some ⟨g,o,none⟩) nH cH,.slice aF nF cF] (mrkL nx L k i))∧Hid (∀ i,i<n1→wr.cell? ⟨gX,i,none⟩=some (.int .i64 (itN nx k i:Nat))))
    case atStart=>exact ⟨0,by omega,by go_num,HS5,HT5,HCW⟩
    case round =>
     clear HS5 HT5 HCW
     obtain ⟨i,hi,rfl,HS,HT,HC⟩:=hrel
     obtain ⟨w6,rfl⟩:∃ w6,w6=wr:=⟨_,rfl⟩
     rcases Nat.lt_or_ge i n1 with hl2 | hg2
     ·have hz2:decide ((i:Int)<(n1:Int))=true:=by rw [decide_eq_true_eq];omega
      obtain ⟨y,hy⟩:∃ y,Hid (y=itN nx k i):=⟨_,rfl⟩
      have hyN:y<nH:=by rw [hy.out];exact it_lt HP.out hlt i
      obtain ⟨L2,hL2⟩:∃ L2,Hid (L2=mrkL nx L k i):=⟨_,rfl⟩
      have HL2:Hid (L2.length=nH):=by show _=_;rw [hL2.out,mrkL_len];exact HN2.out.len
      rw [← hL2.out] at HT
      have c1:w6.cell? ⟨gX,i,none⟩=some (.int .i64 (y:Nat)):=by rw [hy.out];exact HC.out i hl2
      have cY:w6.cell? ⟨gT,y,none⟩=some (.bool false):=by
       rw [HT.out.cell HL2.out hyN,hL2.out,hy.out,HN2.out.next HP.out hlt HR.out HEB.out hl2]
      have fY:=HT.out.frozen y
      have m1:w6.cell? ⟨B,1,none⟩=some (.slice (some ⟨g,o,none⟩) nH cH):=HT.out.1.cell 1
      have c3:=keepC HS.out _ _ HE3.out
      obtain ⟨g',o',e',-,-,-,d3⟩:=HPH.out y (by rw [← HNH.out];exact hyN)
      injection e' with e'
      injection e' with v1 v2
      subst v1 v2
      rw [(HH.out y hyN).1] at d3
      dsimp only at d3
      rw [show fc y=c by rw [hy.out];exact HFC.out i] at d3
      have d3:=keepC HS.out _ _ d3
      have q1:decide ((y:Int)<0)=false:=by rw [decide_eq_false_iff_not];omega
      have q2:decide ((nH:Int)≤(y:Int))=false:=by rw [decide_eq_false_iff_not];omega
      have q3:decide (nH≤y)=false:=by rw [decide_eq_false_iff_not];omega
      have u1:(0:Int)≤(i:Int):=by omega
      have u2:(i:Int)<(n1:Int):=by omega
      have u3:(0:Int)≤(y:Int):=by omega
      have u4:(y:Int)<(nH:Int):=by omega
      go_upto_region 15 with fail
      go_quiet (fail)
      go_upto_region 17 with fail
      refine atW (fun w' => Hid (Since w1 w')∧Hid (RdS w' B gT nH #[.slice aP nP cP,.slice (some ⟨g,o,none⟩) nH cH,.slice aF nF cF] L2)∧Hid (∀ i,i<n1→w'.cell? ⟨gX,i,none⟩=some (.int .i64 (itN nx k i:Nat)))) ⟨HS.out.drewN _,HT.out,HC.out⟩ ?_
      clear HS HT HC c1 cY fY m1 c3 d3 q1 q2 q3
      rintro w7 ⟨HS,HT,HC⟩
      have cY:=HT.out.cell HL2.out hyN
      have fY:=HT.out.frozen y
      go_upto_region 18 with fail
      refine atW (fun w' => Hid (Since w1 w')∧Hid (RdS w' B gT nH #[.slice aP nP cP,.slice (some ⟨g,o,none⟩) nH cH,.slice aF nF cF] (mrkL nx L k (i+1)))∧Hid (∀ i,i<n1→w'.cell? ⟨gX,i,none⟩=some (.int .i64 (itN nx k i:Nat)))) ⟨HS.out.setCell (p:=⟨gT,y,none⟩) hgT _,by
       show RdS _ _ _ _ _ ((mrkL nx L k i).set (itN nx k i) true)
       rw [← hL2.out,← hy.out]
       exact HT.out.store hyN,fun j hj=>by
       rw [← HC.out j hj]
       exact cSetO (by intro e;injection e with e;omega)⟩ ?_
      clear HS HT HC cY fY
      rintro w8 ⟨HS,HT,HC⟩
      go_wp2_with fail
      go_roundg (n1-(i+1))
      case measure=>omega
      case rel=>exact ⟨i+1,by omega,by go_num,HS,HT,HC⟩
     ·obtain rfl:n1=i:=by omega
      have hz2:decide ((n1:Int)<(n1:Int))=false:=by rw [decide_eq_false_iff_not];omega
      have HN3:Hid (SeenP nH nx (mrkL nx L k n1) (k+1)):=HN2.out.mark HP.out hlt HR.out
      go_wp2_with fail
      go_roundg (nH-(k+1))
      case measure=>omega
      case rel=>exact ⟨k+1,_,by omega,by go_num,HS,HT,HN3⟩
  ·obtain rfl:nH=k:=by omega
   have hz:decide ((nH:Int)<(nH:Int))=false:=by rw [decide_eq_false_iff_not];omega
   have hE2:((nH:Int) == 2*(n:Int))=true:=by rw [beq_iff_eq];have:=HEN.out;omega
   have HS5:Hid (Since w w4):=HS1.out.trans HS.out
   have hw2:wrap64 (2*(n:Int))=2*(n:Int):=wrap_id (x:=2*(n:Int)) (by omega)
   go_wp2_with fail
   go_ret
   exact ⟨rfl,HS5.out⟩
end Go.Proofs.YtdnccjdlmepafaaGreat
