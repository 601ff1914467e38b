/-
  The walk of half.Walk: the half-edges of a boundary. Conditions: next ones form a permutation.
-/
import Derived.Test.YtdnccjdlmepafaaGreatK27
set_option linter.unusedSimpArgs false
set_option linter.unusedVariables false
set_option linter.constructorNameAsVariable false
namespace Go.Proofs.YtdnccjdlmepafaaGreat
open Go.RowKit Go.BigFrame
def bndL (nx:Nat→Nat) (h k:Nat):List Int:=(List.range k).map fun i=>((itN nx h i:Nat):Int)
theorem bndL_succ (nx:Nat→Nat) (h k:Nat):bndL nx h (k+1)=bndL nx h k++[((itN nx h k:Nat):Int)]:=by unfold bndL;rw [List.range_succ,List.map_append];rfl
theorem bndL_len (nx:Nat→Nat) (h k:Nat):(bndL nx h k).length=k:=by simp [bndL]
set_option maxRecDepth 100000 in
set_option maxHeartbeats 4000000 in
theorem Walk_any (vP vH vF:Value) (P:List Pt2) (H:List Hf) (F:List Int) (w:World) (nx:Nat→Nat) (h n:Nat) (hm:MapR w vP vH vF P H F) (hH:H.length≤1000000) (hp:PermN H.length nx) (hx:∀ i,i<H.length→(hAt H i).2.2.1=(nx i:Int)) (hh:h<H.length) (hr:RndN nx h n) (hn:n≤H.length) :
  Calls Tryz.prog 12 #[.agg #[vP,vH,vF],.int .i64 h] w fun e w' => ∃ x,e=.returned x∧w'.ownsRow w.heap.size 3 1 x n ((bndL nx h n).map iV)∧Since w w' := by
 obtain ⟨i0,hi0,hz0,hz1,hz3⟩:=info_parts infoI
 have HI:=Lib.hid (And.intro hi0 (And.intro hz0 (And.intro hz1 hz3)))
 obtain ⟨aP,cP,hvP,-⟩:=hm.p
 obtain ⟨aH,cH,hvH,hpH⟩:=hm.h
 obtain ⟨aF,cF,hvF,-⟩:=hm.f
 subst hvP hvH hvF
 have HPH:=Lib.hid hpH
 have HP:=Lib.hid hp
 have HX:=Lib.hid hx
 have HR:=Lib.hid hr
 clear hm hpH hp hx hr hi0 hz0 hz1 hz3
 obtain ⟨nP,HNP⟩:∃ n,Hid (n=P.length):=⟨_,rfl⟩
 obtain ⟨nH,HNH⟩:∃ n,Hid (n=H.length):=⟨_,rfl⟩
 obtain ⟨nF,HNF⟩:∃ n,Hid (n=F.length):=⟨_,rfl⟩
 rw [← HNH.out] at hH hh hn HP
 rw [← HNP.out,← HNH.out,← HNF.out]
 obtain ⟨g0,o0,haH,-⟩:=HPH.out h (by rw [← HNH.out];exact hh)
 subst haH
 obtain ⟨B,HB⟩:∃ B,Hid (B=w.heap.size):=⟨_,rfl⟩
 have hn0:0<n:=HR.out.1
 go_enter Tryz.func12,Tryz.ntmps12
 go_upto_region 1 with fail
 rw [← HB.out]
 refine atW (fun w' => Hid (Since w w')∧Hid (Blk w' B 26 #[.slice aP nP cP,.slice (some ⟨g0,o0,none⟩) nH cH,.slice aF nF cF])) ⟨(Since.rfl_ w).alloc _,Blk.new' HB.out⟩ ?_
 rintro w1 ⟨HS1,HB1⟩
 go_wp2_with fail
 go_loopg [5,6] n (fun gm v5 v6 wr=>∃ k:Nat,k+gm=n∧k<n∧v6=.int .i64 (itN nx h k:Nat)∧Hid (Since w wr)∧Hid (Blk wr B 26 #[.slice aP nP cP,.slice (some ⟨g0,o0,none⟩) nH cH,.slice aF nF cF])∧Hid (wr.ownsRow (B+1) 3 1 v5 k ((bndL nx h k).map iV)))
 case atStart=>exact ⟨0,by omega,hn0,rfl,HS1,HB1,World.ownsRow_nil _ _ _ _⟩
 case round =>
  clear HS1 HB1
  obtain ⟨k,hk,hkn,rfl,HS,HBM,HO⟩:=hrel
  obtain ⟨w2,rfl⟩:∃ w2,w2=wr:=⟨_,rfl⟩
  have hcN:itN nx h k<nH:=it_lt HP.out hh k
  have hxc:=HX.out (itN nx h k) (by rw [← HNH.out];exact hcN)
  obtain ⟨g,o,e',-,-,e2,-⟩:=HPH.out (itN nx h k) (by rw [← HNH.out];exact hcN)
  injection e' with e'
  injection e' with q1 q2
  subst q1 q2
  rw [hxc] at e2
  obtain ⟨c,hc⟩:∃ c,Hid (c=itN nx h k):=⟨_,rfl⟩
  obtain ⟨d,hd⟩:∃ d,Hid (d=nx c):=⟨_,rfl⟩
  rw [← hc.out] at e2 hcN ⊢
  rw [← hd.out] at e2
  clear hxc
  have hdk:d=itN nx h (k+1):=by rw [hd.out,hc.out];rfl
  have HDK:=Lib.hid hdk
  clear hdk
  obtain ⟨a5,c5,hv⟩:=own_slice HO.out
  subst hv
  have b0:decide ((0:Int)≤(c:Int))=true:=by rw [decide_eq_true_eq];omega
  have b1:decide ((c:Int)<(nH:Int))=true:=by rw [decide_eq_true_eq];omega
  have b2:decide ((k:Int)<(nH:Int))=true:=by rw [decide_eq_true_eq];omega
  have b3:decide (c<nH)=true:=by rw [decide_eq_true_eq];omega
  have b4:decide (k<nH)=true:=by rw [decide_eq_true_eq];omega
  have b5:c<nH:=hcN
  have b6:k<nH:=by omega
  have m1:w2.cell? ⟨B,1,none⟩=some (.slice (some ⟨g0,o0,none⟩) nH cH):=HBM.out.cell 1
  have hB2:B+1≤w2.heap.size:=HBM.out.lt
  go_upto_region 5 with (at_builtin;refine wpList_append_own _ rfl _ _ 22 rfl (B+1) 3 i0 _ 1 8 Tryz.underlying22 HI.out.1 HI.out.2.1 HI.out.2.2.1 HI.out.2.2.2 rfl (by decide) _ _ _ rfl (own_since ((Since.rfl_ w2).alloc _) HO.out) _ _ _ [.int .i64 c] rfl rfl (blk1 (Blk.new w2 _ _)) (one1 _ _) (by unfold maxLen;omega) (by omega) (by simp only [World.size_alloc];omega) ?_;intro v' w3 hown hgrow _)
  have hne2:∀ ad,(Value.slice a5 k c5).ownBlock=some ad→B+1≤ad:=fun ad e=>(HO.out.lt ad e).1
  have HS3:Hid (Since w w3):=(HS.out.alloc _).grown hgrow (by have:=HS.out.size;rw [World.size_alloc];omega) fun k hk=>by have:=hne2 k hk;have:=HB.out;omega
  have HB3:Hid (Blk w3 B 26 #[.slice aP nP cP,.slice (some ⟨g0,o0,none⟩) nH cH,.slice aF nF cF]):=(HBM.out.alloc _).grown hgrow (fun e=>by have:=hne2 B e.symm;omega)
  have HO3:Hid (w3.ownsRow (B+1) 3 1 v' (k+1) ((bndL nx h (k+1)).map iV)):=by
   show World.ownsRow _ _ _ _ _ _ _
   rw [bndL_succ,List.map_append,← hc.out]
   exact hown
  clear hown hgrow hne2 HS HBM HO m1 hB2 b0 b1 b2 b3 b4
  have m1:w3.cell? ⟨B,1,none⟩=some (.slice (some ⟨g0,o0,none⟩) nH cH):=HB3.out.cell 1
  have e2:=keepC HS3.out _ _ e2
  have k1:(0:Int)≤(c:Int):=by omega
  have k2:(c:Int)<(nH:Int):=by omega
  by_cases hdh:d=h
  ·have hb:((d:Int) == (h:Int))=true:=by rw [hdh];simp
   have hkn1:k+1=n:=by
    rcases Nat.lt_or_ge (k+1) n with q | q
    ·exact absurd (HDK.out.symm.trans hdh) (HR.out.2.2 (k+1) (by omega) q)
    ·omega
   have HKN:=Lib.hid hkn1
   clear hkn1
   have HDH:=Lib.hid hdh
   clear hdh
   go_wp2_with fail
   go_ret
   exact ⟨_,rfl,by rw [← HKN.out];exact HO3.out.mono (by rw [HB.out];omega),HS3.out⟩
  ·have hb:((d:Int) == (h:Int))=false:=by rw [beq_eq_false_iff_ne];omega
   have hkn1:k+1<n:=by
    rcases Nat.lt_or_ge (k+1) n with q | q
    ·exact q
    ·have e:n=k+1:=by omega
     exact absurd (HDK.out.trans (by rw [← e];exact HR.out.2.1)) hdh
   go_wp2_with fail
   go_roundg (gk-1)
   case measure=>omega
   case rel=>exact ⟨k+1,by omega,hkn1,by rw [← HDK.out],HS3,HB3,HO3⟩
end Go.Proofs.YtdnccjdlmepafaaGreat
