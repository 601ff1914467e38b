/-
  The walk of face.Beside on what Build makes: the faces beside a face; Plain law of HotOrder: the order and the directions of segments do not matter; Plain law: a drawing of segments that meet only at their ends has at most three times as many segments as points; Plain law of HotTwice: of at most 12 segments the rounded ones are at most 270, and rounding them changes nothing. Conditions: those that each lemma names.
-/
import Derived.Test.YtdnccjdlmepafaaGreatK28
import Derived.Test.YtdnccjdlmepafaaGreatK17
import Derived.Test.YtdnccjdlmepafaaGreatK14
set_option linter.unusedSimpArgs false
set_option linter.unusedVariables false
set_option linter.constructorNameAsVariable false
namespace Go.Proofs.YtdnccjdlmepafaaGreat
section
open Go.RowKit Go.BigFrame
theorem BldR.fle {E:List Sg} {P:List Pt2} {H:List Hf} {F:List Int} (hl:E.length≤270) (h:BldR E P H F):F.length≤1000000:=by
 obtain ⟨O,C,I,T,-,-,-,hC,-,hF⟩:=h
 rw [hF,fac3_len]
 have:=fac1_le I T I.length
 have:=hC.le
 omega
set_option maxRecDepth 100000 in
set_option maxHeartbeats 4000000 in
theorem Beside_any (vP vH vF:Value) (E:List Sg) (P:List Pt2) (H:List Hf) (F:List Int) (w:World) (fn:Nat→Nat) (f:Nat) (hm:MapR w vP vH vF P H F) (hE:RndOk E) (hl:E.length≤270) (hb:BldR E P H F) (hh:∀ i,i<H.length→(hAt H i).2.1=((twN i:Nat):Int)∧(hAt H i).2.2.2=((fn i:Nat):Int)∧fn i<F.length) (hf:f<F.length) :
  Calls Tryz.prog 19 #[.agg #[vP,vH,vF],.int .i64 f] w fun e w' => ∃ x,e=.returned (.tuple #[x,.int .i64 0])∧w'.ownsRow w.heap.size 3 1 x (besL (mkB fn twN F.length f H.length) f F.length).length ((besL (mkB fn twN F.length f H.length) f F.length).map iV)∧Since w w' := by
 obtain ⟨i0,hi0,hz0,hz1,hz3⟩:=info_parts infoI
 have HI:=Lib.hid (And.intro hi0 (And.intro hz0 (And.intro hz1 hz3)))
 obtain ⟨i2,hi2,hy0,hy1,hy3⟩:=info_parts infoBo
 have HI2:=Lib.hid (And.intro hi2 (And.intro hy0 (And.intro hy1 hy3)))
 clear hi0 hz0 hz1 hz3 hi2 hy0 hy1 hy3
 have HCK:Hid (∀ w',Since w w' → Calls Tryz.prog 17 #[.agg #[vP,vH,vF]] w' fun e w2=>e=.returned (.int .i64 0)∧Since w' w2):=fun w' k=>Check_any vP vH vF E P H F w' (hm.since k) hE hl hb
 obtain ⟨b1,b2,-⟩:=hb.bds hE hl
 have b3:=hb.fle hl
 have hev:H.length=2*E.length:=hb.hlen
 obtain ⟨aP,cP,hvP,-⟩:=hm.p
 obtain ⟨aH,cH,hvH,hpH⟩:=hm.h
 obtain ⟨aF,cF,hvF,-⟩:=hm.f
 subst hvP hvH hvF
 have HPH:=Lib.hid hpH
 have HH:=Lib.hid hh
 have HEV:=Lib.hid hev
 clear hm hpH hh hev hb hE
 obtain ⟨nP,HNP⟩:∃ n,Hid (n=P.length):=⟨_,rfl⟩
 obtain ⟨nH,HNH⟩:∃ n,Hid (n=H.length):=⟨_,rfl⟩
 obtain ⟨nF,HNF⟩:∃ n,Hid (n=F.length):=⟨_,rfl⟩
 rw [← HNH.out] at b2 HEV HH
 rw [← HNF.out] at b3 hf HH
 rw [← HNP.out,← HNH.out,← HNF.out] at HCK
 rw [← HNP.out,← HNH.out,← HNF.out]
 clear b1
 obtain ⟨B,HB⟩:∃ B,Hid (B=w.heap.size):=⟨_,rfl⟩
 go_enter Tryz.func19,Tryz.ntmps19
 go_upto_region 1 with fail
 rw [← HB.out]
 refine atW (fun w' => Hid (Since w w')∧Hid (Blk w' B 26 #[.slice aP nP cP,.slice aH nH cH,.slice aF nF cF])) ⟨(Since.rfl_ w).alloc _,Blk.new' HB.out⟩ ?_
 rintro w1 ⟨HS1,HB1⟩
 have m0:w1.cell? ⟨B,0,none⟩=some (.slice aP nP cP):=HB1.out.cell 0
 have m1:w1.cell? ⟨B,1,none⟩=some (.slice aH nH cH):=HB1.out.cell 1
 have m2:w1.cell? ⟨B,2,none⟩=some (.slice aF nF cF):=HB1.out.cell 2
 go_wp2_with fail
 clear m0 m1 m2
 refine (HCK.out _ HS1.out).mono ?_
 rintro e w2 ⟨rfl,hs⟩
 have HS2:Hid (Since w w2):=HS1.out.trans hs
 have HB2:=Lib.hid (hs.blk HB1.out)
 clear hs HS1 HB1 HCK
 have m2:w2.cell? ⟨B,2,none⟩=some (.slice aF nF cF):=HB2.out.cell 2
 have g1:decide ((f:Int)<0)=false:=by rw [decide_eq_false_iff_not];omega
 have g2:decide ((nF:Int)≤(f:Int))=false:=by rw [decide_eq_false_iff_not];omega
 have g3:decide (nF≤f)=false:=by rw [decide_eq_false_iff_not];omega
 obtain ⟨gT,HGT⟩:∃ g,Hid (g=w2.heap.size):=⟨_,rfl⟩
 go_upto_region 7 with (at_make;refine wpList_make_full _ rfl _ _ 30 rfl w2.heap.size 4 i2 _ 1 Tryz.underlying30 HI2.out.1 HI2.out.2.1 HI2.out.2.2.1 .i64 .i64 _ _ nF rfl rfl rfl rfl (by rw [HI2.out.2.2.2];omega) (by unfold maxLen;omega) (Nat.le_refl _) ?_;intro w3 hown hgrow)
 clear m2 g1 g2 g3
 rw [← HGT.out] at hown ⊢
 have hs3:Since w2 w3:=⟨hgrow.os,hgrow.tape,hgrow.output,hgrow.size,fun i hi=>hgrow.block i hi (by simp)⟩
 have HT3:Hid (RdS w3 B gT nF #[.slice aP nP cP,.slice aH nH cH,.slice aF nF cF] (List.replicate nF false)):=by
  refine ⟨hs3.blk HB2.out,by rw [HGT.out];exact HB2.out.lt,?_⟩
  have e:(List.replicate nF false).map bV=(madeCells (Value.bool false).cells (nF*1)).toList:=by
   refine List.ext_getElem (by simp [madeCells]) fun i h1 h2=>?_
   simp [madeCells,bV,Value.cells,Nat.mod_one]
  rw [e]
  exact hown
 have HS3:Hid (Since w w3):=HS2.out.trans hs3
 have m1:w3.cell? ⟨B,1,none⟩=some (.slice aH nH cH):=HT3.out.1.cell 1
 clear hown hgrow hs3 HS2 HB2
 go_wp2_with fail
 clear m1
 go_loopw [33] (fun v33 wr=>∃ k:Nat,k≤nH∧v33=.int .i64 k∧Hid (Since w wr)∧Hid (RdS wr B gT nF #[.slice aP nP cP,.slice aH nH cH,.slice aF nF cF] (mkB fn twN nF f k))) (fun v33 _=>nH-(intOf v33).toNat)
 case atStart=>exact ⟨0,Nat.zero_le _,by go_num,HS3,HT3⟩
 case round =>
  clear HS3 HT3
  obtain ⟨k,hk,rfl,HS,HT⟩:=hrel
  obtain ⟨w4,rfl⟩:∃ w4,w4=wr:=⟨_,rfl⟩
  rcases Nat.lt_or_ge k nH with hlt | hge
  ·have hz:decide ((k:Int)<(nH:Int))=true:=by rw [decide_eq_true_eq];omega
   obtain ⟨hk1,hk2,hk3⟩:=HH.out k hlt
   obtain ⟨g,o,rfl,e0,e1,e2,e3⟩:=HPH.out k (by rw [← HNH.out];exact hlt)
   rw [hk1] at e1
   rw [hk2] at e3
   obtain ⟨t,ht⟩:∃ t,Hid (t=twN k):=⟨_,rfl⟩
   obtain ⟨c,hc⟩:∃ c,Hid (c=fn k):=⟨_,rfl⟩
   obtain ⟨x0,hx0⟩:∃ x,Hid (x=(hAt H k).1):=⟨_,rfl⟩
   obtain ⟨x2,hx2⟩:∃ x,Hid (x=(hAt H k).2.2.1):=⟨_,rfl⟩
   rw [← hx0.out] at e0
   rw [← ht.out] at e1
   rw [← hx2.out] at e2
   rw [← hc.out] at e3 hk3
   have htN:t<nH:=by rw [ht.out];exact twN_lt hlt (by have:=HEV.out;omega)
   obtain ⟨-,ht2,ht3⟩:=HH.out t htN
   obtain ⟨g',o',e',-,-,-,t3⟩:=HPH.out t (by rw [← HNH.out];exact htN)
   injection e' with e'
   injection e' with v1 v2
   subst v1 v2
   rw [ht2] at t3
   obtain ⟨d,hd⟩:∃ d,Hid (d=fn t):=⟨_,rfl⟩
   rw [← hd.out] at t3 ht3
   clear hk1 hk2 ht2
   have e0:=keepC HS.out _ _ e0
   have e1:=keepC HS.out _ _ e1
   have e2:=keepC HS.out _ _ e2
   have e3:=keepC HS.out _ _ e3
   have T3:=Lib.hid (keepC HS.out _ _ t3)
   clear t3
   have k1:(0:Int)≤(k:Int):=by omega
   have k2:(k:Int)<(nH:Int):=by omega
   obtain ⟨gX,HGX⟩:∃ g,Hid (g=w4.heap.size):=⟨_,rfl⟩
   go_upto_region 10 with fail
   rw [← HGX.out]
   refine atW (fun w' => Hid (Since w4 w')∧Hid (Blk w' gX 33 #[.int .i64 x0,.int .i64 t,.int .i64 x2,.int .i64 c])) ⟨(Since.rfl_ w4).alloc _,Blk.new' HGX.out⟩ ?_
   clear e0 e1 e2 e3
   rintro w5 ⟨HS5,HX5⟩
   have HS6:Hid (Since w w5):=HS.out.trans HS5.out
   have HT6:Hid (RdS w5 B gT nF #[.slice aP nP cP,.slice (some ⟨g,o,none⟩) nH cH,.slice aF nF cF] (mkB fn twN nF f k)):=HT.out.since HS5.out
   have x3:w5.cell? ⟨gX,3,none⟩=some (.int .i64 c):=HX5.out.cell 3
   by_cases hcf:c=f
   ·have hcb:((c:Int) == (f:Int))=true:=by rw [hcf];simp
    have x1:w5.cell? ⟨gX,1,none⟩=some (.int .i64 t):=HX5.out.cell 1
    have m1:w5.cell? ⟨B,1,none⟩=some (.slice (some ⟨g,o,none⟩) nH cH):=HT6.out.1.cell 1
    have t3:=keepC HS5.out _ _ T3.out
    have fT:=HT6.out.frozen d
    have cT:=HT6.out.cell (mkB_len fn twN nF f k) ht3
    have k3:(0:Int)≤(t:Int):=by omega
    have k4:(t:Int)<(nH:Int):=by omega
    have k5:(0:Int)≤(d:Int):=by omega
    have k6:(d:Int)<(nF:Int):=by omega
    have HCF:Hid (fn k=f):=by show _=_;rw [← hc.out];exact hcf
    have hgT:w.heap.size≤gT:=by rw [← HB.out];exact Nat.le_of_lt HT.out.2.1
    clear hcf HS HT HS5
    go_upto_region 12 with fail
    refine atW (fun w' => Hid (Since w w')∧Hid (RdS w' B gT nF #[.slice aP nP cP,.slice (some ⟨g,o,none⟩) nH cH,.slice aF nF cF] (mkB fn twN nF f (k+1)))) ⟨HS6.out.setCell (p:=⟨gT,d,none⟩) hgT _,by
     show RdS _ _ _ _ _ (if fn k=f then _ else _)
     rw [if_pos HCF.out,← ht.out,← hd.out]
     exact HT6.out.store ht3⟩ ?_
    clear x3 x1 m1 t3 fT cT HS6 HT6 HX5
    rintro w6 ⟨HS6,HT6⟩
    go_wp2_with fail
    go_roundw
    case rel=>exact ⟨k+1,by omega,by go_num,HS6,HT6⟩
    case measure=>simp [intOf];omega
   ·have hcb:((c:Int) == (f:Int))=false:=by rw [beq_eq_false_iff_ne];omega
    have HT7:Hid (RdS w5 B gT nF #[.slice aP nP cP,.slice (some ⟨g,o,none⟩) nH cH,.slice aF nF cF] (mkB fn twN nF f (k+1))):=by
     show RdS _ _ _ _ _ (if fn k=f then _ else _)
     rw [if_neg (by rw [← hc.out];exact hcf)]
     exact HT6.out
    clear hcf HS HT HS5 HT6
    go_wp2_with fail
    go_roundw
    case rel=>exact ⟨k+1,by omega,by go_num,HS6,HT7⟩
    case measure=>simp [intOf];omega
  ·obtain rfl:nH=k:=by omega
   have hz:decide ((nH:Int)<(nH:Int))=false:=by rw [decide_eq_false_iff_not];omega
   obtain ⟨M,HM⟩:∃ M,Hid (M=mkB fn twN nF f nH):=⟨_,rfl⟩
   rw [← HM.out] at HT
   have HML:Hid (M.length=nF):=by show _=_;rw [HM.out];exact mkB_len fn twN nF f nH
   have hgT:gT+1≤w4.heap.size:=(HT.out.2.2.lt gT rfl).2
   go_wp2_with fail
   go_loopw [10,53] (fun v10 v53 wr=>∃ k:Nat,k≤nF∧v53=.int .i64 k∧Hid (Since w wr)∧Hid (RdS wr B gT nF #[.slice aP nP cP,.slice aH nH cH,.slice aF nF cF] M)∧Hid (wr.ownsRow (gT+1) 3 1 v10 (besL M f k).length ((besL M f k).map iV))) (fun _ v53 _=>nF-(intOf v53).toNat)
   case atStart=>exact ⟨0,Nat.zero_le _,by go_num,HS,HT,World.ownsRow_nil _ _ _ _⟩
   case round =>
    clear HS HT
    obtain ⟨k,hk,rfl,HS,HT,HO⟩:=hrel
    obtain ⟨w5,rfl⟩:∃ w5,w5=wr:=⟨_,rfl⟩
    obtain ⟨a10,c10,hv⟩:=own_slice HO.out
    subst hv
    obtain ⟨m10,hm10⟩:∃ m,Hid (m=(besL M f k).length):=⟨_,rfl⟩
    have hmk:m10≤k:=by rw [hm10.out];exact besL_len M f k
    rw [← hm10.out] at HO ⊢
    rcases Nat.lt_or_ge k nF with hlt | hge
    ·have hz2:decide ((k:Int)<(nF:Int))=true:=by rw [decide_eq_true_eq];omega
     have k1:(0:Int)≤(k:Int):=by omega
     have k2:(k:Int)<(nF:Int):=by omega
     have cT:=HT.out.cell HML.out hlt
     by_cases hbt:(bAt M k && (k != f))=true
     ·have HB3:=Lib.hid (besL_yes hbt)
      have hb1:bAt M k=true:=by revert hbt;cases bAt M k <;> simp
      have hb2:((k:Int) != (f:Int))=true:=by
       rw [bne_iff_ne]
       intro e
       rw [show k=f by omega] at hbt
       simp at hbt
      rw [hb1] at cT
      clear hbt hb1
      have n1:decide (m10<nF)=true:=by rw [decide_eq_true_eq];omega
      have hB2:gT+1≤w5.heap.size:=(HT.out.2.2.lt gT rfl).2
      go_upto_region 19 with (at_builtin;refine wpList_append_own _ rfl _ _ 22 rfl (gT+1) 3 i0 _ 1 8 Tryz.underlying22 HI.out.1 HI.out.2.1 HI.out.2.2.1 HI.out.2.2.2 rfl (by decide) _ _ _ rfl (own_since ((Since.rfl_ w5).alloc _) HO.out) _ _ _ [.int .i64 k] rfl rfl (blk1 (Blk.new w5 _ _)) (one1 _ _) (by unfold maxLen;omega) (by omega) (by simp only [World.size_alloc];omega) ?_;intro v' w6 hown hgrow _)
      have hne2:∀ ad,(Value.slice a10 m10 c10).ownBlock=some ad→gT+1≤ad:=fun ad e=>(HO.out.lt ad e).1
      have hgB:w.heap.size≤gT:=by rw [← HB.out];exact Nat.le_of_lt HT.out.2.1
      have HS6:Hid (Since w w6):=(HS.out.alloc _).grown hgrow (by have:=HS.out.size;rw [World.size_alloc];omega) fun k hk=>by have:=hne2 k hk;omega
      have HT6:Hid (RdS w6 B gT nF #[.slice aP nP cP,.slice aH nH cH,.slice aF nF cF] M):=⟨(HT.out.1.alloc _).grown hgrow (fun e=>by have:=hne2 B e.symm;have:=HT.out.2.1;omega),HT.out.2.1,(own_since ((Since.rfl_ w5).alloc _) HT.out.2.2).kept hgrow (.inr fun e=>by have:=hne2 gT e.symm;omega)⟩
      have HO6:Hid (w6.ownsRow (gT+1) 3 1 v' (besL M f (k+1)).length ((besL M f (k+1)).map iV)):=by
       show World.ownsRow _ _ _ _ _ _ _
       rw [HB3.out,List.map_append,List.length_append,← hm10.out]
       exact hown
      clear hown hgrow hne2 HS HT HO cT n1 hB2
      go_wp2_with fail
      go_roundw
      case rel=>exact ⟨k+1,by omega,by go_num,HS6,HT6,HO6⟩
      case measure=>simp [intOf];omega
     ·have hbf:(bAt M k && (k != f))=false:=by simpa using hbt
      have HB3:=Lib.hid (besL_no hbf)
      clear hbt
      have HO6:Hid (w5.ownsRow (gT+1) 3 1 (.slice a10 m10 c10) (besL M f (k+1)).length ((besL M f (k+1)).map iV)):=by
       show World.ownsRow _ _ _ _ _ _ _
       rw [HB3.out,← hm10.out]
       exact HO.out
      clear HO
      cases eb:bAt M k with
      | false =>
       rw [eb] at cT
       clear hbf eb
       go_wp2_with fail
       go_roundw
       case rel=>exact ⟨k+1,by omega,by go_num,HS,HT,HO6⟩
       case measure=>simp [intOf];omega
      | true =>
       rw [eb] at cT
       have hb2:((k:Int) != (f:Int))=false:=by
        rw [eb] at hbf
        simp at hbf
        rw [bne_eq_false_iff_eq]
        omega
       clear hbf eb
       go_wp2_with fail
       go_roundw
       case rel=>exact ⟨k+1,by omega,by go_num,HS,HT,HO6⟩
       case measure=>simp [intOf];omega
    ·obtain rfl:nF=k:=by omega
     have hz2:decide ((nF:Int)<(nF:Int))=false:=by rw [decide_eq_false_iff_not];omega
     go_wp2_with fail
     go_ret2
     refine ⟨_,rfl,?_,HS.out⟩
     show w5.ownsRow w.heap.size 3 1 (.slice a10 m10 c10) _ _
     rw [← HM.out,← hm10.out]
     exact HO.out.mono (by have:=HB.out;have:=HT.out.2.1;omega)
end
section
theorem sgn_neg (n:Int):sgnI (-n) = -sgnI n:=by unfold sgnI;omega
theorem dir_swap (a b p q:Pt2):dirV b a p q=dirV a b q p:=by
 have e1:sgnI (a.1-b.1) = -sgnI (b.1-a.1):=by rw [← sgn_neg];congr 1;omega
 have e2:sgnI (a.2-b.2) = -sgnI (b.2-a.2):=by rw [← sgn_neg];congr 1;omega
 unfold dirV
 rw [e1,e2]
 have f1 : -sgnI (b.1-a.1)*(p.1-q.1)=sgnI (b.1-a.1)*(q.1-p.1):=by grind
 have f2 : -sgnI (b.2-a.2)*(p.2-q.2)=sgnI (b.2-a.2)*(q.2-p.2):=by grind
 rw [f1,f2]
theorem thr_rev {H:List Pt2} (hH:HotOk H) {a b:Pt2} (ha:okP a.1 a.2=true) (hb:okP b.1 b.2=true):thrL b a H=(thrL a b H).reverse:=by
 refine (thru_one hb ha hH.ok hH.nd ?_).symm
 obtain ⟨h1,h2⟩:=thr_thru (a:=a) (b:=b) (H:=H)
 refine ⟨?_,?_⟩
 ·have e:H.filter (metB b a)=H.filter (metB a b):=List.filter_congr fun x hx=>(metB_rev ha hb (hH.ok x hx)).symm
  rw [e]
  exact (List.reverse_perm _).trans h1
 ·rw [List.pairwise_reverse]
  exact h2.imp fun {x y} h=>by rw [dir_swap];exact h
theorem adj_rev {C:List Pt2} {p q:Pt2} (h:Adj C p q):Adj C.reverse q p:=by
 obtain ⟨u,v,rfl⟩:=h
 exact ⟨v.reverse,u.reverse,by simp⟩
theorem ChainOk.rev {H C:List Pt2} (h:ChainOk H C):ChainOk H C.reverse :=
 ⟨by simpa using h.ne,fun p hp=>h.mem p (by simpa using hp),fun p q k=>by
  have:=adj_rev k
  rw [List.reverse_reverse] at this
  exact (h.adj q p this).symm⟩
theorem next_one (H:List Pt2) (x:Pt2):nextC H [x]=[x]:=by simp [nextC,nextG,pAt]
theorem next_tail (H:List Pt2) (y:Pt2) (v:List Pt2):nextC H (y :: v)=y :: (nextC H (y :: v)).tail:=by simp [nextC,pAt]
theorem next_app {H:List Pt2} (hH:HotOk H):∀ {u:List Pt2} {y:Pt2} {v:List Pt2},ChainOk H (u++y :: v)→nextC H (u++y :: v)=nextC H (u++[y])++(nextC H (y :: v)).tail
 | [],y,v,h=>by
  show nextC H (y :: v)=nextC H [y]++_
  rw [next_one];exact next_tail H y v
 | [a],y,v,h=>by
  obtain ⟨m,hm⟩:=ChainOk.ends hH h
  show nextC H (a :: y :: v)=nextC H [a,y]++_
  rw [nextC_cons hm,nextC_cons hm,next_one,List.append_assoc]
  exact congrArg _ (next_tail H y v)
 | a :: b :: u,y,v,h=>by
  obtain ⟨m,hm⟩:=ChainOk.ends hH h
  have ih:=next_app hH (u:=b :: u) (y:=y) (v:=v) h.tail
  show nextC H (a :: b :: (u++y :: v))=nextC H (a :: b :: (u++[y]))++_
  rw [nextC_cons hm,nextC_cons hm,List.append_assoc]
  exact congrArg _ ih
theorem next_rev {H:List Pt2} (hH:HotOk H):∀ {C:List Pt2},ChainOk H C→nextC H C.reverse=(nextC H C).reverse
 | [],h=>absurd rfl h.ne
 | [x],h=>by rw [List.reverse_singleton,next_one];rfl
 | x :: y :: r,h=>by
  obtain ⟨m,hm⟩:=h.ends hH
  have ih:=next_rev hH h.tail
  have hr:=h.rev
  have e:(x :: y :: r).reverse=r.reverse++y :: [x]:=by simp
  rw [e] at hr ⊢
  have hox:=hH.ok x (h.mem x (by simp))
  have hoy:=hH.ok y (h.mem y (by simp))
  have hm2:thrL y x H=y :: (m.reverse++[x]):=by rw [thr_rev hH hox hoy,hm];simp
  have e2:(y :: r).reverse=r.reverse++[y]:=by simp
  rw [e2] at ih
  rw [next_app hH hr,ih,nextC_cons hm2,nextC_cons hm,next_one]
  simp
def SameC (cs ds:List (List Pt2)):Prop:=(∀ C∈cs,C∈ds∨C.reverse∈ds)∧∀ C∈ds,C∈cs∨C.reverse∈cs
theorem ord_comm {p q:Pt2} (h:p≠q):ordE p q=ordE q p:=by
 have h1:=ord_lx p q h
 have h2:=ord_lx q p h.symm
 rcases ordE_cases p q with e | e <;> rcases ordE_cases q p with f | f <;> rw [e] at h1 ⊢ <;> rw [f] at h2 ⊢
 ·exact (lx_asy h1 h2).elim
 ·exact (lx_asy h1 h2).elim
theorem same_sub {cs ds:List (List Pt2)} (hc:Inv cs) (h:∀ C∈cs,C∈ds∨C.reverse∈ds) {s:Sg} (hs:s∈edgL cs):s∈edgL ds:=by
 obtain ⟨C,hC,p,q,k,rfl⟩:=edg_mem.1 hs
 rcases h C hC with m | m
 ·exact edg_mem.2 ⟨C,m,p,q,k,rfl⟩
 ·exact edg_mem.2 ⟨_,m,q,p,adj_rev k,ord_comm (hc.adj C hC p q k)⟩
theorem SameC.edg {cs ds:List (List Pt2)} (hc:Inv cs) (hd:Inv ds) (h:SameC cs ds):edgL cs=edgL ds:=edg_ext fun s=>⟨same_sub hc h.1,same_sub hd h.2⟩
theorem SameC.step {cs ds:List (List Pt2)} (hc:Inv cs) (hd:Inv ds) (h:SameC cs ds):SameC (stepC cs) (stepC ds):=by
 have e:=h.edg hc hd
 refine ⟨fun C' hC' => ?_,fun C' hC' => ?_⟩
 ·obtain ⟨C,hC,rfl⟩:=List.mem_map.1 hC'
  rcases h.1 C hC with m | m
  ·exact .inl (List.mem_map.2 ⟨C,m,by rw [e]⟩)
  ·exact .inr (List.mem_map.2 ⟨C.reverse,m,by rw [← e,next_rev (hot_ok hc.eok) (hc.chain hC)]⟩)
 ·obtain ⟨C,hC,rfl⟩:=List.mem_map.1 hC'
  rcases h.2 C hC with m | m
  ·exact .inl (List.mem_map.2 ⟨C,m,by rw [e]⟩)
  ·exact .inr (List.mem_map.2 ⟨C.reverse,m,by rw [e,next_rev (hot_ok hd.eok) (hd.chain hC)]⟩)
end
section
namespace Plane
abbrev Ed:=Q2×Q2
def sl (e:Ed):Rat:=(e.2.2-e.1.2)*(e.2.1-e.1.1)⁻¹
def ht (e:Ed) (x:Rat):Rat:=e.1.2+(x-e.1.1)*sl e
theorem ht_fst (e:Ed):ht e e.1.1=e.1.2:=by unfold ht;grind
theorem ht_snd {e:Ed} (h:e.1.1<e.2.1):ht e e.2.1=e.2.2:=by
 unfold ht sl
 have:(e.2.1-e.1.1)⁻¹*(e.2.1-e.1.1)=1:=Rat.inv_mul_cancel _ (by grind)
 grind
theorem root {A B x y:Rat} (hxy:x<y) (h1:0<A+B*x) (h2:A+B*y≤0):∃ z,x<z∧z≤y∧A+B*z=0∧(A+B*y<0→z<y):=by
 have hB:B<0:=by
  refine Classical.byContradiction fun k=>?_
  have:=Rat.mul_nonneg (a:=B) (b:=y-x) (by grind) (by grind)
  grind
 obtain ⟨i,hi⟩:∃ i:Rat,i*B=1:=⟨B⁻¹,Rat.inv_mul_cancel _ (by grind)⟩
 have hin:i<0:=by
  refine Classical.byContradiction fun k=>?_
  have:=Rat.mul_nonneg (a:=i) (b := -B) (by grind) (by grind)
  have e:i * -B = -1:=by grind
  grind
 have hz:A+B*(-A*i)=0:=by
  have e:B*(-A*i) = -A*(i*B):=by grind
  rw [e,hi];grind
 have ex:(A+B*x) * -i = -A*i-x:=by
  have e:(A+B*x) * -i = -A*i-(i*B)*x:=by grind
  rw [e,hi];grind
 have ey : -(A+B*y) * -i=A*i+y:=by
  have e : -(A+B*y) * -i=A*i+(i*B)*y:=by grind
  rw [e,hi];grind
 refine ⟨-A*i,?_,?_,hz,fun h3=>?_⟩
 ·have:=Rat.mul_pos (a:=A+B*x) (b := -i) h1 (by grind)
  grind
 ·have:=Rat.mul_nonneg (a := -(A+B*y)) (b := -i) (by grind) (by grind)
  grind
 ·have:=Rat.mul_pos (a := -(A+B*y)) (b := -i) (by grind) (by grind)
  grind
theorem root' {A B x y:Rat} (hxy:x<y) (h1:A+B*x≤0) (h2:0<A+B*y):∃ z,x≤z∧z<y∧A+B*z=0:=by
 obtain ⟨z,h1,h2,h3,-⟩:=root (A:=A+B*(x+y)) (B := -B) (x:=x) (y:=y) hxy (by grind) (by grind)
 exact ⟨x+y-z,by grind,by grind,by grind⟩
theorem cut {e f:Ed} {x y:Rat} (hxy:x<y) (h1:ht e x<ht f x) (h2:ht f y≤ht e y):∃ z,x<z∧z≤y∧ht f z=ht e z∧(ht f y<ht e y→z<y):=by
 obtain ⟨z,a,b,c,d⟩:=root (A:=f.1.2-f.1.1*sl f-e.1.2+e.1.1*sl e) (B:=sl f-sl e) (x:=x) (y:=y) hxy (by unfold ht at h1;grind) (by unfold ht at h2;grind)
 refine ⟨z,a,b,by unfold ht;grind,fun k=>d ?_⟩
 unfold ht at k;grind
theorem cut' {e f:Ed} {x y:Rat} (hxy:x<y) (h1:ht f x≤ht e x) (h2:ht e y<ht f y):∃ z,x≤z∧z<y∧ht f z=ht e z:=by
 obtain ⟨z,a,b,c⟩:=root' (A:=f.1.2-f.1.1*sl f-e.1.2+e.1.1*sl e) (B:=sl f-sl e) (x:=x) (y:=y) hxy (by unfold ht at h1;grind) (by unfold ht at h2;grind)
 exact ⟨z,a,b,by unfold ht;grind⟩
theorem min_of {α:Type} (f:α→Rat):∀ (l:List α),l≠[]→∃ a∈l,∀ b∈l,f a≤f b
 | [],h=>absurd rfl h
 | [a],_=>⟨a,by simp,by simp⟩
 | a :: b :: l,_=>by
  obtain ⟨c,hc,h⟩:=min_of f (b :: l) (by simp)
  by_cases k:f a≤f c
  ·refine ⟨a,by simp,fun x hx=>?_⟩
   rcases List.mem_cons.1 hx with rfl | hx
   ·grind
   ·exact Rat.le_trans k (h x hx)
  ·refine ⟨c,List.mem_cons_of_mem _ hc,fun x hx=>?_⟩
   rcases List.mem_cons.1 hx with rfl | hx
   ·grind
   ·exact h x hx
structure Drawn (V:List Q2) (E:List Ed):Prop where
 way:∀ e∈E,e.1.1<e.2.1
 fst:∀ e∈E,e.1∈V
 snd:∀ e∈E,e.2∈V
 inj:∀ p∈V,∀ q∈V,p.1=q.1→p=q
 used:∀ p∈V,∃ e∈E,e.1=p∨e.2=p
 meet:∀ e∈E,∀ f∈E,e≠f→∀ x,e.1.1≤x→x≤e.2.1→f.1.1≤x→x≤f.2.1→ht e x=ht f x→(x=e.1.1∨x=e.2.1)∧(x=f.1.1∨x=f.2.1)
variable {V : List Q2} {E : List Ed}
theorem steeper {e f:Ed} {x:Rat} (h:e.1=f.1) (hx:e.1.1<x):ht e x<ht f x↔sl e<sl f:=by
 unfold ht
 rw [← h]
 constructor
 ·intro k
  refine Classical.byContradiction fun n=>?_
  have:=Rat.mul_nonneg (a:=x-e.1.1) (b:=sl e-sl f) (by grind) (by grind)
  grind
 ·intro k
  have:=Rat.mul_pos (a:=x-e.1.1) (b:=sl f-sl e) (by grind) (by grind)
  grind
theorem same_slope (h:Drawn V E) {e f:Ed} (he:e∈E) (hf:f∈E) (h1:e.1=f.1) (hs:sl e=sl f):e=f:=by
 refine Classical.byContradiction fun hne=>?_
 have we:=h.way e he
 have wf:=h.way f hf
 have hh:∀ x,ht e x=ht f x:=fun x=>by unfold ht;rw [h1,hs]
 obtain ⟨m,m1,m2,m3⟩:∃ m:Rat,e.1.1<m∧m<e.2.1∧m<f.2.1:=by
  by_cases k:e.2.1≤f.2.1
  ·exact ⟨(e.1.1+e.2.1)/2,by grind,by grind,by grind⟩
  ·exact ⟨(f.1.1+f.2.1)/2,by grind,by grind,by grind⟩
 have:=(h.meet e he f hf hne m (by grind) (by grind) (by grind) (by grind) (hh m)).1
 grind
def Top (E:List Ed) (e:Ed) (p:Q2):Prop:=e.1=p∧∀ f∈E,f.1=p→sl f≤sl e
def Bot (E:List Ed) (e:Ed) (p:Q2):Prop:=e.2=p∧∀ f∈E,f.2=p→sl e≤sl f
def Und (E:List Ed) (e:Ed) (p:Q2):Prop:=e.1.1<p.1∧p.1<e.2.1∧ht e p.1<p.2∧∀ f∈E,f.1.1<p.1→p.1<f.2.1→ht e p.1<ht f p.1→p.2≤ht f p.1
theorem top_one (h:Drawn V E) {e f:Ed} {p:Q2} (he:e∈E) (hf:f∈E) (h1:Top E e p) (h2:Top E f p):e=f:=by
 have a:=h1.2 f hf h2.1
 have b:=h2.2 e he h1.1
 exact same_slope h he hf (h1.1.trans h2.1.symm) (by grind)
theorem bot_one (h:Drawn V E) {e f:Ed} {p:Q2} (he:e∈E) (hf:f∈E) (h1:Bot E e p) (h2:Bot E f p):e=f:=by
 refine Classical.byContradiction fun hne=>?_
 have a:=h1.2 f hf h2.1
 have b:=h2.2 e he h1.1
 have hs:sl e=sl f:=by grind
 have we:=h.way e he
 have wf:=h.way f hf
 have e2:=ht_snd we
 have f2:=ht_snd wf
 rw [h1.1] at e2 we
 rw [h2.1] at f2 wf
 have hh:∀ x,ht e x=ht f x:=fun x=>by unfold ht at *;rw [hs] at *;grind
 obtain ⟨m,m1,m2,m3⟩:∃ m:Rat,m<p.1∧e.1.1<m∧f.1.1<m:=by
  by_cases k:e.1.1≤f.1.1
  ·exact ⟨(f.1.1+p.1)/2,by grind,by grind,by grind⟩
  ·exact ⟨(e.1.1+p.1)/2,by grind,by grind,by grind⟩
 have:=(h.meet e he f hf hne m (by grind) (by rw [h1.1];grind) (by grind) (by rw [h2.1];grind) (hh m)).1
 rw [h1.1] at this
 grind
theorem und_one (h:Drawn V E) {e f:Ed} {p:Q2} (he:e∈E) (hf:f∈E) (h1:Und E e p) (h2:Und E f p):e=f:=by
 refine Classical.byContradiction fun hne=>?_
 have hh:ht e p.1=ht f p.1:=by
  have a:=h1.2.2.2 f hf h2.1 h2.2.1
  have b:=h2.2.2.2 e he h1.1 h1.2.1
  have c:=h1.2.2.1
  have d:=h2.2.2.1
  grind
 have a:=h1.1
 have b:=h1.2.1
 have c:=h2.1
 have d:=h2.2.1
 have:=(h.meet e he f hf hne p.1 (by grind) (by grind) (by grind) (by grind) hh).1
 grind
set_option maxHeartbeats 1000000 in
theorem kinds (h:Drawn V E) {e:Ed} (he:e∈E):Top E e e.1∨Bot E e e.2∨∃ x∈V,Und E e x:=by
 refine Classical.byContradiction fun hno=>?_
 have nT:¬ Top E e e.1:=fun k=>hno (.inl k)
 have nB:¬ Bot E e e.2:=fun k=>hno (.inr (.inl k))
 have nU:∀ x∈V,¬ Und E e x:=fun x hx k=>hno (.inr (.inr ⟨x,hx,k⟩))
 have we:=h.way e he
 -- the next one above, at the left end
 obtain ⟨e0,he0,hl0,hs0⟩:∃ f∈E,f.1=e.1∧sl e<sl f:=by
  refine Classical.byContradiction fun k=>nT ⟨rfl,fun f hf hl=>?_⟩
  refine Classical.byContradiction fun k2=>k ⟨f,hf,hl,by grind⟩
 obtain ⟨e1,hm1,hmin⟩:=min_of sl (E.filter fun f=>decide (f.1=e.1∧sl e<sl f)) (fun k=>by
  have:e0∈E.filter fun f=>decide (f.1=e.1∧sl e<sl f):=List.mem_filter.2 ⟨he0,by simp [hl0,hs0]⟩
  rw [k] at this;cases this)
 have h1' := List.mem_filter.1 hm1
 have he1:=h1'.1
 have hl1:e1.1=e.1:=(of_decide_eq_true h1'.2).1
 have hs1:sl e<sl e1:=(of_decide_eq_true h1'.2).2
 have hmin:∀ f∈E,f.1=e.1→sl e<sl f→sl e1≤sl f:=fun f hf a b=>hmin f (List.mem_filter.2 ⟨hf,by simp [a,b]⟩)
 clear h1' hm1 hs0 hl0 he0
 -- one above, at the right end
 obtain ⟨e2,he2,hr2,hs2⟩:∃ f∈E,f.2=e.2∧sl f<sl e:=by
  refine Classical.byContradiction fun k=>nB ⟨rfl,fun f hf hl=>?_⟩
  refine Classical.byContradiction fun k2=>k ⟨f,hf,hl,by grind⟩
 have w1:=h.way e1 he1
 have w2:=h.way e2 he2
 have l1:e1.1.1=e.1.1:=by rw [hl1]
 have r2:e2.2.1=e.2.1:=by rw [hr2]
 have ne1:e1≠e:=fun k=>by rw [k] at hs1;grind
 have ne2:e2≠e:=fun k=>by rw [k] at hs2;grind
 have up1:∀ x,e.1.1<x→ht e x<ht e1 x:=fun x hx=>(steeper hl1.symm hx).2 hs1
 have up2:∀ x,x<e.2.1→ht e x<ht e2 x:=fun x hx=>by
  have a:=ht_snd we
  have b:=ht_snd w2
  rw [hr2] at b
  have:=Rat.mul_pos (a:=e.2.1-x) (b:=sl e-sl e2) (by grind) (by grind)
  unfold ht at *
  grind
 -- the first point behind u that is on or above e and not above e1
 obtain ⟨x,hx,hxmin⟩:=min_of (fun p:Q2=>p.1) (V.filter fun p=>decide (e.1.1<p.1∧p.1≤e.2.1∧ht e p.1≤p.2∧(e1.2.1≤p.1∨p.2≤ht e1 p.1))) (fun k=>by
  have:e.2∈V.filter fun p=>decide (e.1.1<p.1∧p.1≤e.2.1∧ht e p.1≤p.2∧(e1.2.1≤p.1∨p.2≤ht e1 p.1)):=List.mem_filter.2 ⟨h.snd e he,by
   have a:=ht_snd we
   have b:=up1 _ we
   simp only [decide_eq_true_eq]
   exact ⟨we,by grind,by grind,by grind⟩⟩
  rw [k] at this;cases this)
 have hx' := List.mem_filter.1 hx
 have hxV:=hx'.1
 have hxp:e.1.1<x.1∧x.1≤e.2.1∧ht e x.1≤x.2∧(e1.2.1≤x.1∨x.2≤ht e1 x.1):=of_decide_eq_true hx'.2
 have hxm:∀ p∈V,p.1<x.1→e.1.1<p.1→ht e p.1≤p.2→p.1<e1.2.1∧ht e1 p.1<p.2:=fun p hp a b c=>by
  refine Classical.byContradiction fun k=>?_
  have:=hxmin p (List.mem_filter.2 ⟨hp,by
   simp only [decide_eq_true_eq]
   exact ⟨b,by grind,c,by grind⟩⟩)
  grind
 clear hx hxmin hx'
 obtain ⟨x1,x2,x3,x4⟩:=hxp
 have hxw:x.1≤e1.2.1:=by
  refine Classical.byContradiction fun k=>?_
  have a:=ht_snd w1
  have b:=up1 e1.2.1 (by grind)
  have:=hxm e1.2 (h.snd e1 he1) (by grind) (by grind) (by grind)
  grind
 have hx1:x.2≤ht e1 x.1:=by
  rcases x4 with k | k
  ·have e:=h.inj x hxV e1.2 (h.snd e1 he1) (by grind)
   rw [e,ht_snd w1];grind
  ·exact k
 by_cases hv:x.1=e.2.1
 ·-- it is the right end
  have ex:=h.inj x hxV e.2 (h.snd e he) hv
  have hv2:e.2.2≤ht e1 e.2.1:=by rw [← ex];exact hx1
  have hz2:=ht_snd w2
  rw [hr2] at hz2
  have ne12:e2≠e1:=fun k=>by
   rw [k] at hs2;grind
  -- e1 and e2 meet at v alone
  have fin:∀ y,y<e.2.1→e.1.1≤y→e2.1.1≤y→ht e1 y<ht e2 y→(∀ z,y<z→z=e1.1.1∨z=e1.2.1→z=e1.2.1)→False:=fun y y1 y2 y3 y4 y5=>by
   obtain ⟨z,z1,z2,z3,-⟩:=cut y1 y4 (by rw [hz2];exact hv2)
   have m:=h.meet e2 he2 e1 he1 ne12 z (by grind) (by grind) (by grind) (by grind) z3
   have zw:=y5 z z1 m.2
   have zv:z=e.2.1:=by rcases m.1 with k | k <;> grind
   have e12:=h.inj e1.2 (h.snd e1 he1) e.2 (h.snd e he) (by grind)
   exact ne1 (Prod.ext hl1 e12)
  by_cases hz:e.1.1<e2.1.1
  ·have a:=up2 e2.1.1 (by grind)
   rw [ht_fst] at a
   have k:=hxm e2.1 (h.fst e2 he2) (by grind) hz (by grind)
   exact fin e2.1.1 (by grind) (by grind) (by grind) (by rw [ht_fst];exact k.2) (fun z a b=>by grind)
  ·by_cases hz' : e2.1.1=e.1.1
   ·have:=h.inj e2.1 (h.fst e2 he2) e.1 (h.fst e he) hz'
    exact ne2 (Prod.ext this hr2)
   ·have a:=up2 e.1.1 we
    have b:=ht_fst e
    have c:=ht_fst e1
    rw [hl1] at c
    exact fin e.1.1 we (by grind) (by grind) (by grind) (fun z a b=>by grind)
 ·-- e is at once below it
  have hxv:x.1<e.2.1:=by grind
  have x5:ht e x.1<x.2:=by
   refine Classical.byContradiction fun k=>?_
   obtain ⟨f,hf,hfx⟩:=h.used x hxV
   have wf:=h.way f hf
   have nfe:e≠f:=fun k=>by
    subst k
    rcases hfx with k | k
    ·rw [k] at x1;grind
    ·rw [k] at hv;grind
   have hfh:ht f x.1=x.2:=by
    rcases hfx with k | k
    ·rw [← k];exact ht_fst f
    ·rw [← k];exact ht_snd wf
   have:=(h.meet e he f hf nfe x.1 (by grind) (by grind) (by rcases hfx with k | k <;> rw [← k] <;> grind) (by rcases hfx with k | k <;> rw [← k] <;> grind) (by grind)).1
   grind
  refine nU x hxV ⟨x1,hxv,x5,fun f hf f1 f2 f3=>?_⟩
  refine Classical.byContradiction fun k=>?_
  have f4:ht f x.1<x.2:=by grind
  have nfe:f≠e:=fun k=>by rw [k] at f3;grind
  have nf1:f≠e1:=fun k=>by rw [k] at f4;grind
  have wf:=h.way f hf
  have hf1:ht f x.1<ht e1 x.1:=by grind
  by_cases hp:e.1.1<f.1.1
  ·have pe:ht e f.1.1≤f.1.2:=by
    refine Classical.byContradiction fun k=>?_
    have hk:ht f f.1.1≤ht e f.1.1:=by rw [ht_fst];grind
    obtain ⟨z,z1,z2,z3⟩:=cut' f1 hk f3
    have:=(h.meet f hf e he nfe z (by grind) (by grind) (by grind) (by grind) z3).2
    grind
   have k2:=hxm f.1 (h.fst f hf) f1 hp pe
   obtain ⟨z,z1,z2,z3,z4⟩:=cut f1 (by rw [ht_fst];exact k2.2) (Rat.le_of_lt hf1)
   have z4:=z4 hf1
   have:=(h.meet f hf e1 he1 nf1 z (by grind) (by grind) (by grind) (by grind) z3).1
   grind
  ·by_cases hp' : f.1.1=e.1.1
   ·have e5:=h.inj f.1 (h.fst f hf) e.1 (h.fst e he) hp'
    have s1:=(steeper e5.symm x1).1 f3
    have s2:=hmin f hf e5 s1
    have s3:=(steeper (e:=f) (f:=e1) (by rw [e5,hl1]) (by grind)).1 hf1
    grind
   ·have hu:e.1.2<ht f e.1.1:=by
     refine Classical.byContradiction fun k=>?_
     have hk:ht f e.1.1≤ht e e.1.1:=by rw [ht_fst e];grind
     obtain ⟨z,z1,z2,z3⟩:=cut' x1 hk f3
     have:=(h.meet f hf e he nfe z (by grind) (by grind) (by grind) (by grind) z3).1
     grind
    have c:=ht_fst e1
    rw [hl1] at c
    obtain ⟨z,z1,z2,z3,z4⟩:=cut (e:=e1) (f:=f) x1 (by grind) (Rat.le_of_lt hf1)
    have z4:=z4 hf1
    have:=(h.meet f hf e1 he1 nf1 z (by grind) (by grind) (by grind) (by grind) z3).1
    grind
theorem pigeon {α β:Type} [DecidableEq β] (R:α→β→Prop):∀ (l:List α) (m:List β),l.Nodup→(∀ a∈l,∃ b∈m,R a b)→(∀ a∈l,∀ c∈l,∀ b,R a b→R c b→a=c)→l.length≤m.length
 | [],_,_,_,_=>by simp
 | a :: l,m,hn,h1,h2=>by
  rw [List.nodup_cons] at hn
  obtain ⟨b,hb,hr⟩:=h1 a (by simp)
  have:=pigeon R l (m.erase b) hn.2 (fun c hc=>by
   obtain ⟨d,hd,hr'⟩:=h1 c (by simp [hc])
   refine ⟨d,?_,hr'⟩
   refine (List.mem_erase_of_ne fun e=>?_).2 hd
   subst e
   exact hn.1 ((h2 a (by simp) c (by simp [hc]) d hr hr') ▸ hc)) (fun c hc d hd=>h2 c (by simp [hc]) d (by simp [hd]))
  rw [List.length_erase_of_mem hb] at this
  have:0<m.length:=List.length_pos_of_mem hb
  simp only [List.length_cons];omega
theorem bound (h:Drawn V E) (hn:E.Nodup):E.length≤3*V.length:=by
 have:=pigeon (β:=Nat×Q2) (fun e b=>(b.1=0∧Top E e b.2)∨(b.1=1∧Bot E e b.2)∨(b.1=2∧Und E e b.2)) E (V.map (fun p=>(0,p))++(V.map (fun p=>(1,p))++V.map fun p=>(2,p))) hn (fun e he=>by
  rcases kinds h he with k | k | ⟨x,hx,k⟩
  ·exact ⟨(0,e.1),by simp [h.fst e he],.inl ⟨rfl,k⟩⟩
  ·exact ⟨(1,e.2),by simp [h.snd e he],.inr (.inl ⟨rfl,k⟩)⟩
  ·exact ⟨(2,x),by simp [hx],.inr (.inr ⟨rfl,k⟩)⟩) (fun e he f hf b k1 k2=>by
  rcases k1 with ⟨a,k⟩ | ⟨a,k⟩ | ⟨a,k⟩ <;> rcases k2 with ⟨b',k'⟩ | ⟨b',k'⟩ | ⟨b',k'⟩
  all_goals first
   | (exfalso;omega)
   | exact top_one h he hf k k'
   | exact bot_one h he hf k k'
   | exact und_one h he hf k k')
 simp only [List.length_append,List.length_map] at this
 omega
end Plane
end
section
theorem at0 {s:Sg} (h:s.1≠s.2) {l:Rat} {p:Pt2} (e:lerp (toQ s.1) (toQ s.2) l=toQ p) (k:p=s.1∨p=s.2):l=0∨l=1:=by
 rcases k with k | k
 ·exact .inl (lerp_inj h (by rw [e,lerp0,k]))
 ·exact .inr (lerp_inj h (by rw [e,lerp1,k]))
theorem fix_common {cs:List (List Pt2)} (h:Inv cs) (hf:stepC cs=cs) {s t:Sg} (hs:s∈edgL cs) (ht:t∈edgL cs) (hne:s≠t) {l m:Rat} (hl:I01 l) (hm:I01 m) (e:lerp (toQ s.1) (toQ s.2) l=lerp (toQ t.1) (toQ t.2) m) :
  (l=0∨l=1)∧(m=0∨m=1):=by
 have os:=h.eok s hs
 have ot:=h.eok t ht
 have ls:=edg_lx h hs
 have lt:=edg_lx h ht
 have he:=hot_end hs
 have he' := hot_end ht
 -- an end of one that is on the other is an end of it
 have on_t:∀ {x:Pt2} {u:Rat},x∈hotL (edgL cs)→I01 u→toQ x=lerp (toQ t.1) (toQ t.2) u→x=t.1∨x=t.2:=fun {x u} hx hu k=>fix_edge h hf ht hx hu (by rw [← k];exact in_self _)
 have on_s:∀ {x:Pt2} {u:Rat},x∈hotL (edgL cs)→I01 u→toQ x=lerp (toQ s.1) (toQ s.2) u→x=s.1∨x=s.2:=fun {x u} hx hu k=>fix_edge h hf hs hx hu (by rw [← k];exact in_self _)
 have key:¬ (l≠0∧l≠1∧m≠0∧m≠1):=by
  rintro ⟨l0,l1,m0,m1⟩
  have b0:0<l∧l<1:=by unfold I01 at hl;grind
  have b1:0<m∧m<1:=by unfold I01 at hm;grind
  by_cases hD:crs t.1 t.2 s.1-crs t.1 t.2 s.2=0
  ·obtain ⟨r,r',e1,e2⟩:=par_line os.2.2 e hD
   rw [e1,e2,lerp_lerp] at e
   have el:=lerp_inj os.2.2 e
   have in_:∀ {u:Rat},0≤u→u≤1→I01 u:=fun {u} a b=>⟨a,b⟩
   have z1:∀ {u:Rat} {x:Pt2},toQ x=lerp (toQ s.1) (toQ s.2) u→x∈hotL (edgL cs)→0≤u→u≤1→u=0∨u=1:=fun {u x} k hx a b=>at0 os.2.2 k.symm (on_s hx ⟨a,b⟩ k)
   have q1:=z1 e1 he'.1
   have q2:=z1 e2 he'.2
   have c0:lerp (toQ s.1) (toQ s.2) 0=toQ s.1:=lerp0 _ _
   have c1:lerp (toQ s.1) (toQ s.2) 1=toQ s.2:=lerp1 _ _
   -- the ends of s on t
   have back:∀ {u v:Rat} {x:Pt2},lerp (toQ s.1) (toQ s.2) v=toQ x→x∈hotL (edgL cs)→0≤u→u≤1→r+u*(r' - r)=v→v=r∨v=r' := fun {u v x} k hx a b ev=>by
    have k2:toQ x=lerp (toQ t.1) (toQ t.2) u:=by rw [e1,e2,lerp_lerp,ev,k]
    rcases on_t hx ⟨a,b⟩ k2 with g | g
    ·exact .inl (lerp_inj os.2.2 (by rw [k,g,e1]))
    ·exact .inr (lerp_inj os.2.2 (by rw [k,g,e2]))
   have hrr:r≠r' := fun k=>by rw [k] at el;grind
   obtain ⟨i,hi⟩:=inv_ (show r' - r≠0 by grind)
   rcases (show r<r' ∨ r' < r by grind) with hlt | hlt
   ·have p1:=Rat.mul_pos (a:=m) (b:=r' - r) b1.1 (by grind)
    have p2:=Rat.mul_pos (a:=1-m) (b:=r' - r) (by grind) (by grind)
    have g1:r<l:=by grind
    have g2:l<r' := by grind
    have hip:0<i:=by
     refine Classical.byContradiction fun k=>?_
     have:=Rat.mul_nonneg (a := -i) (b:=r' - r) (by grind) (by grind)
     grind
    -- a parameter between r and r' is one of t
    have par:∀ {v:Rat},r≤v→v≤r' → 0≤(v-r)*i∧(v-r)*i≤1∧r+(v-r)*i*(r' - r)=v:=fun {v} a b=>by
     have:=Rat.mul_nonneg (a:=v-r) (b:=i) (by grind) (by grind)
     have:=Rat.mul_nonneg (a:=r' - v) (b:=i) (by grind) (by grind)
     have e5:(v-r)*i*(r' - r)=(v-r)*(i*(r' - r)):=by grind
     refine ⟨by grind,by grind,by rw [e5,hi];grind⟩
    have r0:r=0:=by
     rcases (show r<0∨0≤r by grind) with k | k
     ·obtain ⟨a,b,c⟩:=par (v:=0) (by grind) (by grind)
      rcases back c0 he.1 a b c with g | g <;> grind
     ·rcases q1 k (by grind) with g | g <;> grind
    have r1:r' = 1:=by
     rcases (show 1<r' ∨ r' ≤ 1 by grind) with k | k
     ·obtain ⟨a,b,c⟩:=par (v:=1) (by grind) (by grind)
      rcases back c1 he.2 a b c with g | g <;> grind
     ·rcases q2 (by grind) k with g | g <;> grind
    rw [r0,c0] at e1
    rw [r1,c1] at e2
    exact hne (Prod.ext (toQ_inj e1.symm) (toQ_inj e2.symm))
   ·have p1:=Rat.mul_pos (a:=m) (b:=r-r') b1.1 (by grind)
    have p2:=Rat.mul_pos (a:=1-m) (b:=r-r') (by grind) (by grind)
    have g1:l<r:=by grind
    have g2:r' < l:=by grind
    have hip:i<0:=by
     refine Classical.byContradiction fun k=>?_
     have:=Rat.mul_nonneg (a:=i) (b:=r-r') (by grind) (by grind)
     grind
    have par:∀ {v:Rat},r' ≤ v→v≤r→0≤(v-r)*i∧(v-r)*i≤1∧r+(v-r)*i*(r' - r)=v:=fun {v} a b=>by
     have:=Rat.mul_nonneg (a:=r-v) (b := -i) (by grind) (by grind)
     have:=Rat.mul_nonneg (a:=v-r') (b := -i) (by grind) (by grind)
     have e5:(v-r)*i*(r' - r)=(v-r)*(i*(r' - r)):=by grind
     refine ⟨by grind,by grind,by rw [e5,hi];grind⟩
    have r0:r' = 0:=by
     rcases (show r' < 0∨0≤r' by grind) with k | k
     ·obtain ⟨a,b,c⟩:=par (v:=0) (by grind) (by grind)
      rcases back c0 he.1 a b c with g | g <;> grind
     ·rcases q2 k (by grind) with g | g <;> grind
    have r1:r=1:=by
     rcases (show 1<r∨r≤1 by grind) with k | k
     ·obtain ⟨a,b,c⟩:=par (v:=1) (by grind) (by grind)
      rcases back c1 he.2 a b c with g | g <;> grind
     ·rcases q1 (by grind) k with g | g <;> grind
    rw [r1,c1] at e1
    rw [r0,c0] at e2
    rw [toQ_inj e1,toQ_inj e2] at lt
    exact lx_asy ls lt
  ·-- not parallel: the common point is a hot one
   obtain ⟨x,hx,hi⟩:∃ x∈hotL (edgL cs),inP (toQ x) (lerp (toQ s.1) (toQ s.2) l):=by
    rcases hot_core h.eok hs ht hl hm e with k | k
    ·exact k
    ·exact absurd k (fun k=>hD (by
      obtain ⟨r,r',hc,hd⟩:=k
      unfold toQ lerp at hc hd
      rw [Prod.ext_iff] at hc hd
      dsimp only at hc hd
      obtain ⟨c1,c2⟩:=hc
      obtain ⟨d1,d2⟩:=hd
      have h1:=crsQ t.1 t.2 s.1
      have h2:=crsQ t.1 t.2 s.2
      have:((crs t.1 t.2 s.1-crs t.1 t.2 s.2:Int):Rat)=0:=by
       push_cast
       rw [h1,h2,c1,c2,d1,d2]
       grind
      exact cast0.1 this))
   have x1:=fix_edge h hf hs hx hl hi
   have x2:=fix_edge h hf ht hx hm (by rw [← e];exact hi)
   -- two common points: parallel
   obtain ⟨u,hu,eu⟩:∃ u:Rat,(u=0∨u=1)∧lerp (toQ s.1) (toQ s.2) u=toQ x:=by
    rcases x1 with k | k
    ·exact ⟨0,.inl rfl,by rw [lerp0,k]⟩
    ·exact ⟨1,.inr rfl,by rw [lerp1,k]⟩
   obtain ⟨v,hv,ev⟩:∃ v:Rat,(v=0∨v=1)∧lerp (toQ t.1) (toQ t.2) v=toQ x:=by
    rcases x2 with k | k
    ·exact ⟨0,.inl rfl,by rw [lerp0,k]⟩
    ·exact ⟨1,.inr rfl,by rw [lerp1,k]⟩
   apply hD
   have e2:lerp (toQ s.1) (toQ s.2) u=lerp (toQ t.1) (toQ t.2) v:=by rw [eu,ev]
   unfold lerp toQ at e e2
   rw [Prod.ext_iff] at e e2
   dsimp only at e e2
   obtain ⟨a1,a2⟩:=e
   obtain ⟨b1',b2'⟩:=e2
   have h1:=crsQ t.1 t.2 s.1
   have h2:=crsQ t.1 t.2 s.2
   have hul:l-u≠0:=by rcases hu with k | k <;> grind
   have f1:(l-u)*((s.2.1:Rat)-s.1.1)=(m-v)*((t.2.1:Rat)-t.1.1):=by grind
   have f2:(l-u)*((s.2.2:Rat)-s.1.2)=(m-v)*((t.2.2:Rat)-t.1.2):=by grind
   have:((crs t.1 t.2 s.1-crs t.1 t.2 s.2:Int):Rat)*(l-u)=0:=by
    push_cast
    rw [h1,h2]
    grind
   rcases Rat.mul_eq_zero.1 this with g | g
   ·exact cast0.1 g
   ·exact absurd g hul
 have l_end:l=0∨l=1→m=0∨m=1:=fun k=>by
  rcases k with k | k
  ·rw [k,lerp0] at e
   exact at0 ot.2.2 e.symm (on_t he.1 hm e)
  ·rw [k,lerp1] at e
   exact at0 ot.2.2 e.symm (on_t he.2 hm e)
 have m_end:m=0∨m=1→l=0∨l=1:=fun k=>by
  rcases k with k | k
  ·rw [k,lerp0] at e
   exact at0 os.2.2 e (on_s he'.1 hl e.symm)
  ·rw [k,lerp1] at e
   exact at0 os.2.2 e (on_s he'.2 hl e.symm)
 by_cases k1:l=0∨l=1
 ·exact ⟨k1,l_end k1⟩
 ·by_cases k2:m=0∨m=1
  ·exact ⟨m_end k2,k2⟩
  ·exact absurd ⟨fun k=>k1 (.inl k),fun k=>k1 (.inr k),fun k=>k2 (.inl k),fun k=>k2 (.inr k)⟩ key
def sh (p:Pt2):Q2:=(((4194304*p.1+p.2:Int):Rat),(p.2:Rat))
def shE (s:Sg):Q2×Q2:=(sh s.1,sh s.2)
theorem ok_bd {p:Pt2} (h:okP p.1 p.2=true) : -1048576≤p.1∧p.1≤1048576 ∧ -1048576≤p.2∧p.2≤1048576:=by
 have:=okP_abs h;omega
theorem sh_lt {p q:Pt2} (hp:okP p.1 p.2=true) (hq:okP q.1 q.2=true) (h:lx p q):(sh p).1<(sh q).1:=by
 have:=ok_bd hp
 have:=ok_bd hq
 unfold lx at h
 exact Rat.intCast_lt_intCast.2 (by omega)
theorem sh_inj {p q:Pt2} (hp:okP p.1 p.2=true) (hq:okP q.1 q.2=true) (h:(sh p).1=(sh q).1):p=q:=by
 have:=ok_bd hp
 have:=ok_bd hq
 have:(4194304*p.1+p.2:Int)=4194304*q.1+q.2:=Rat.intCast_inj.1 h
 exact Prod.ext (by omega) (by omega)
theorem sh_lerp {s:Sg} {x:Rat} (hw:(sh s.1).1<(sh s.2).1) (h1:(sh s.1).1≤x) (h2:x≤(sh s.2).1) :
  ∃ l,I01 l∧Plane.ht (shE s) x=(lerp (toQ s.1) (toQ s.2) l).2∧x=4194304*(lerp (toQ s.1) (toQ s.2) l).1+(lerp (toQ s.1) (toQ s.2) l).2∧(l=0→x=(sh s.1).1)∧(l=1→x=(sh s.2).1):=by
 obtain ⟨i,hi⟩:=inv_ (show (sh s.2).1-(sh s.1).1≠0 by grind)
 have hie:((sh s.2).1-(sh s.1).1)⁻¹=i:=by
  have h3:((sh s.2).1-(sh s.1).1)⁻¹*((sh s.2).1-(sh s.1).1)=1:=Rat.inv_mul_cancel _ (by grind)
  have:(((sh s.2).1-(sh s.1).1)⁻¹-i)*((sh s.2).1-(sh s.1).1)=0:=by grind
  rcases Rat.mul_eq_zero.1 this with g | g <;> grind
 have hip:0≤i:=by
  refine Classical.byContradiction fun k=>?_
  have:=Rat.mul_pos (a := -i) (b:=(sh s.2).1-(sh s.1).1) (by grind) (by grind)
  grind
 have a:=Rat.mul_nonneg (a:=x-(sh s.1).1) (b:=i) (by grind) hip
 have b:=Rat.mul_nonneg (a:=(sh s.2).1-x) (b:=i) (by grind) hip
 have hx:x=(sh s.1).1+(x-(sh s.1).1)*(i*((sh s.2).1-(sh s.1).1)):=by rw [hi];grind
 refine ⟨(x-(sh s.1).1)*i,⟨by grind,by grind⟩,?_,?_,fun k=>?_,fun k=>?_⟩
 ·unfold Plane.ht Plane.sl shE
  dsimp only
  rw [hie]
  unfold lerp toQ sh
  dsimp only
  grind
 ·have e1:4194304*(lerp (toQ s.1) (toQ s.2) ((x-(sh s.1).1)*i)).1+(lerp (toQ s.1) (toQ s.2) ((x-(sh s.1).1)*i)).2=(sh s.1).1+(x-(sh s.1).1)*(i*((sh s.2).1-(sh s.1).1)):=by
   have a1:(sh s.1).1=4194304*(s.1.1:Rat)+s.1.2:=by unfold sh;push_cast;rfl
   have a2:(sh s.2).1=4194304*(s.2.1:Rat)+s.2.2:=by unfold sh;push_cast;rfl
   rw [a1,a2]
   unfold lerp toQ
   dsimp only
   grind
  rw [e1];exact hx
 ·have:(x-(sh s.1).1)*(i*((sh s.2).1-(sh s.1).1))=0:=by
   have e:(x-(sh s.1).1)*(i*((sh s.2).1-(sh s.1).1))=((x-(sh s.1).1)*i)*((sh s.2).1-(sh s.1).1):=by grind
   rw [e,k];grind
  grind
 ·have:(x-(sh s.1).1)*(i*((sh s.2).1-(sh s.1).1))=(sh s.2).1-(sh s.1).1:=by
   have e:(x-(sh s.1).1)*(i*((sh s.2).1-(sh s.1).1))=((x-(sh s.1).1)*i)*((sh s.2).1-(sh s.1).1):=by grind
   rw [e,k];grind
  grind
def endsL (E:List Sg):List Pt2:=hullS (E.flatMap fun s=>[s.1,s.2])
theorem ends_mem {E:List Sg} {p:Pt2}:p∈endsL E↔∃ s∈E,s.1=p∨s.2=p:=by
 unfold endsL
 rw [hullS_mem,List.mem_flatMap]
 constructor
 ·rintro ⟨s,hs,h⟩
  simp only [List.mem_cons,List.not_mem_nil,or_false] at h
  exact ⟨s,hs,h.imp Eq.symm Eq.symm⟩
 ·rintro ⟨s,hs,h⟩
  exact ⟨s,hs,by simp only [List.mem_cons,List.not_mem_nil,or_false];exact h.imp Eq.symm Eq.symm⟩
theorem fix_drawn {cs:List (List Pt2)} (h:Inv cs) (hf:stepC cs=cs):Plane.Drawn ((endsL (edgL cs)).map sh) ((edgL cs).map shE):=by
 have way:∀ s∈edgL cs,(sh s.1).1<(sh s.2).1:=fun s hs=>sh_lt (h.eok s hs).1 (h.eok s hs).2.1 (edg_lx h hs)
 have okE:∀ p∈endsL (edgL cs),okP p.1 p.2=true:=fun p hp=>by
  obtain ⟨s,hs,rfl | rfl⟩:=ends_mem.1 hp
  ·exact (h.eok s hs).1
  ·exact (h.eok s hs).2.1
 refine ⟨fun e he=>?_,fun e he=>?_,fun e he=>?_,fun p hp q hq hpq=>?_,fun p hp=>?_,fun e he f hf' hne x x1 x2 x3 x4 x5=>?_⟩
 ·obtain ⟨s,hs,rfl⟩:=List.mem_map.1 he
  exact way s hs
 ·obtain ⟨s,hs,rfl⟩:=List.mem_map.1 he
  exact List.mem_map.2 ⟨s.1,ends_mem.2 ⟨s,hs,.inl rfl⟩,rfl⟩
 ·obtain ⟨s,hs,rfl⟩:=List.mem_map.1 he
  exact List.mem_map.2 ⟨s.2,ends_mem.2 ⟨s,hs,.inr rfl⟩,rfl⟩
 ·obtain ⟨p',hp',rfl⟩:=List.mem_map.1 hp
  obtain ⟨q',hq',rfl⟩:=List.mem_map.1 hq
  rw [sh_inj (okE p' hp') (okE q' hq') hpq]
 ·obtain ⟨p',hp',rfl⟩:=List.mem_map.1 hp
  obtain ⟨s,hs,k⟩:=ends_mem.1 hp'
  exact ⟨shE s,List.mem_map.2 ⟨s,hs,rfl⟩,k.imp (fun k=>by rw [← k];rfl) (fun k=>by rw [← k];rfl)⟩
 ·obtain ⟨s,hs,rfl⟩:=List.mem_map.1 he
  obtain ⟨t,ht,rfl⟩:=List.mem_map.1 hf'
  have hst:s≠t:=fun k=>hne (by rw [k])
  obtain ⟨l,hl,a1,a2,a3,a4⟩:=sh_lerp (way s hs) x1 x2
  obtain ⟨m,hm,b1,b2,b3,b4⟩:=sh_lerp (way t ht) x3 x4
  have c2:(lerp (toQ s.1) (toQ s.2) l).2=(lerp (toQ t.1) (toQ t.2) m).2:=by rw [← a1,← b1];exact x5
  have c1:(lerp (toQ s.1) (toQ s.2) l).1=(lerp (toQ t.1) (toQ t.2) m).1:=by grind
  have k:=fix_common h hf hs ht hst hl hm (Prod.ext c1 c2)
  exact ⟨k.1.imp a3 a4,k.2.imp b3 b4⟩
theorem shE_inj {s t:Sg} (hs:SgOk s) (ht:SgOk t) (h:shE s=shE t):s=t:=by
 have h1:sh s.1=sh t.1:=congrArg Prod.fst h
 have h2:sh s.2=sh t.2:=congrArg Prod.snd h
 exact Prod.ext (sh_inj hs.1 ht.1 (by rw [h1])) (sh_inj hs.2.1 ht.2.1 (by rw [h2]))
theorem srtG_nodup {E:List Sg} (h:SrtG E):E.Nodup:=List.Pairwise.imp (fun {x y} (hxy:lxG x y=true) (e:x=y)=>by rw [e,lxG_irr] at hxy;cases hxy) h
theorem fix_len {cs:List (List Pt2)} (h:Inv cs) (hf:stepC cs=cs):(edgL cs).length≤3*(hotL (edgL cs)).length:=by
 have hn:((edgL cs).map shE).Nodup:=by
  rw [List.Nodup,List.pairwise_map]
  exact (srtG_nodup (edg_srt cs)).imp_of_mem fun {x y} hx hy hne e=>hne (shE_inj (h.eok x hx) (h.eok y hy) e)
 have:=Plane.bound (fix_drawn h hf) hn
 rw [List.length_map,List.length_map] at this
 have h2:(endsL (edgL cs)).length≤(hotL (edgL cs)).length:=by
  unfold endsL hotL
  refine hull_le_of_sub fun p hp=>hullS_mem.1 ?_
  obtain ⟨s,hs,k⟩:=List.mem_flatMap.1 hp
  simp only [List.mem_cons,List.not_mem_nil,or_false] at k
  rcases k with rfl | rfl
  ·exact (hot_end hs).1
  ·exact (hot_end hs).2
 omega
theorem outS_tri (l:List Sg):∀ k,(outS l k).length*2≤k*(k+3)
 | 0=>by simp [outS]
 | k+1=>by
  have ih:=outS_tri l k
  have h2:=innS_len l (sgAt l k) k
  rw [outS_succ]
  simp only [List.length_append,List.length_cons,List.length_nil]
  have e:(k+1)*(k+1+3)=k*(k+3)+2*k+4:=by grind
  omega
theorem hot_90 {m:List Sg} (h:m.length≤12):(hotL (edgL (cs0 m))).length≤90:=by
 have hE:(edgL (cs0 m)).length≤12:=by
  unfold edgL
  have h1:=cmpG_le (srtG (edgA (cs0 m) (cs0 m).length))
  have h2:(srtG (edgA (cs0 m) (cs0 m).length)).length=(edgA (cs0 m) (cs0 m).length).length:=by unfold srtG;simp
  have h3:=edgA_len (cs:=cs0 m) (M:=1) (fun i hi=>by rw [cs0_at (by simpa [cs0] using hi)];simp) (cs0 m).length (Nat.le_refl _)
  have h4:(cs0 m).length=m.length:=by simp [cs0]
  omega
 have h1:=outS_tri (edgL (cs0 m)) (edgL (cs0 m)).length
 have h2:(hotL (edgL (cs0 m))).length≤(outS (edgL (cs0 m)) (edgL (cs0 m)).length).length:=hull_len_le fun p hp=>hp
 have h3:=Nat.mul_le_mul hE (show (edgL (cs0 m)).length+3≤15 by omega)
 omega
theorem rnd_again {m E:List Sg} (hm:m.length≤12) (hok:∀ s∈m,SgOk s) (h:IsRnd m E) (hne:E≠[]) :
  E.length≤270∧RunC (cs0 E) 0∧StepOk (iterC (0+1) (cs0 E))∧edgL (iterC (0+1) (cs0 E))=E:=by
 rcases h with ⟨-,rfl⟩ | ⟨hm0,N,hN,rfl⟩
 ·exact absurd rfl hne
 ·obtain ⟨hI,hW⟩:=cs0_inv hok
  have hit:=iter_inv hI hW N
  have hi:=hit.1
  have hf:=fixed_of hi hN.last
  have e:iterC (N+1) (cs0 m)=iterC N (cs0 m):=hf
  rw [e] at hne ⊢
  obtain ⟨cs,hcs⟩:∃ cs,cs=iterC N (cs0 m):=⟨_,rfl⟩
  have h90:=Nat.le_trans hit.2.2 (hot_90 hm)
  rw [← hcs] at hi hf h90 hne ⊢
  have hlen:=fix_len hi hf
  obtain ⟨hI2,hW2⟩:=cs0_inv hi.eok
  have hE:edgL (cs0 (edgL cs))=edgL cs:=edg_ext fun s=>by
   constructor
   ·intro hs
    obtain ⟨C,hC,p,q,k,rfl⟩:=edg_mem.1 hs
    obtain ⟨t,ht,rfl⟩:=List.mem_map.1 hC
    rcases adj_cons k with ⟨rfl,rfl⟩ | ⟨u,v,e⟩
    ·rcases ordE_cases t.1 t.2 with o | o
     ·rw [o];exact ht
     ·have:=ord_lx t.1 t.2 (hi.eok t ht).2.2
      rw [o] at this
      exact (lx_asy this (edg_lx hi ht)).elim
    ·have:=congrArg List.length e
     simp at this;omega
   ·intro hs
    refine edg_mem.2 ⟨[s.1,s.2],List.mem_map.2 ⟨s,hs,rfl⟩,s.1,s.2,⟨[],[],rfl⟩,?_⟩
    rcases ordE_cases s.1 s.2 with o | o
    ·rw [o]
    ·have:=ord_lx s.1 s.2 (hi.eok s hs).2.2
     rw [o] at this
     exact (lx_asy this (edg_lx hi hs)).elim
  have hH:=hot_ok hi.eok
  have hfix:stepC (cs0 (edgL cs))=cs0 (edgL cs):=by
   unfold stepC
   rw [hE]
   refine (List.map_congr_left (g:=id) fun C hC=>?_).trans (List.map_id _)
   obtain ⟨s,hs,rfl⟩:=List.mem_map.1 hC
   obtain ⟨p,q,hpq,hthr,-,op,oq,-⟩:=fix_org hi hf hs
   have ht:thrL s.1 s.2 (hotL (edgL cs))=[s.1,s.2]:=by
    rcases hpq with rfl | rfl
    ·exact hthr
    ·show thrL q p _=[q,p]
     rw [thr_rev hH op oq,hthr];rfl
   show nextC _ [s.1,s.2]=[s.1,s.2]
   simp [nextC,nextG,pAt,ht]
  have hst:StepOk (cs0 (edgL cs)):=by
   refine step_okE hI2 hW2 ?_ ?_ ?_ ?_
   ·intro k
    unfold cs0 at k
    exact hne (List.map_eq_nil_iff.1 k)
   ·unfold cs0;rw [List.length_map];omega
   ·rw [hE];omega
   ·rw [hE];omega
  have e1:iterC (0+1) (cs0 (edgL cs))=cs0 (edgL cs):=hfix
  refine ⟨by omega,⟨fun k hk=>?_,fun k hk=>absurd hk (Nat.not_lt_zero _),?_⟩,?_,?_⟩
  ·rw [Nat.le_zero.1 hk];exact hst
  ·rw [e1];rfl
  ·rw [e1];exact hst
  ·rw [e1];exact hE
end
end Go.Proofs.YtdnccjdlmepafaaGreat
