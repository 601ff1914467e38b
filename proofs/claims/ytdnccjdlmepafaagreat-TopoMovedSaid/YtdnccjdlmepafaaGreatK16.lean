/-
  The walk of terrmake.Segs; The walk of hot.Chains; The walk of hot.Round; no segments at all; The walk of terrkeep3.rounds; Plain law of HotExact: chains of segments that are parallel to the axes stay on them; hot.points and hot.Chains of no segments at all; HotExact's closure, and ContainsFunc with it; HotExact's body. Conditions: those that each lemma names.
-/
import Derived.Test.YtdnccjdlmepafaaGreatK15
import Derived.Test.YtdnccjdlmepafaaGreatK13
import Derived.Test.YtdnccjdlmepafaaGreatK14
import Derived.Deep.LoopGhost
import Derived.Test.YtdnccjdlmepafaaGreatK03
set_option linter.unusedSimpArgs false
set_option linter.unusedVariables false
set_option linter.constructorNameAsVariable false
namespace Go.Proofs.YtdnccjdlmepafaaGreat
section
open Go.RowKit Go.BigFrame
attribute [local go_sem ↓] eqPt neqPt
def lineP(l:List Int):List Pt2:=mlineGo (2-1) (ptOf l).2 [(ptOf l).1]
def segO(l:List Int):Sg:=(pAt (lineP l) 0,pAt (lineP l) 1)
def restS:Nat→List Int→List Int
 | 0,l=>l
 | k+1,l=>dropP (2-1) (ptOf (restS k l)).2
def segsK(l:List Int)(k:Nat):List Sg:=(List.range k).map fun i=>segO (restS i l)
def msegs(l:List Int):List Sg:=segsK l (min (l.length/4) 12)
theorem segsK_succ(l:List Int)(k:Nat):segsK l (k+1)=segsK l k++[segO (restS k l)]:=by unfold segsK;rw[List.range_succ,List.map_append];rfl
theorem segsK_len(l:List Int)(k:Nat):(segsK l k).length=k:=by simp[segsK]
theorem lineP_len(l:List Int):(lineP l).length=2:=by simp[lineP,mlineGo]
theorem blk4{w:World}{g:Nat}{t:TypeId}{x y z u:Value}(h:Blk w g t #[x,y,z,u]):∀ j v,[x,y,z,u][j]? = some v→w.cell? ((⟨g,0,none⟩:Addr).add j)=some v:=by
 intro j v hv
 have e:(⟨g,0,none⟩:Addr).add j=⟨g,j,none⟩:=by unfold Addr.add;split <;> simp_all
 rw[e,h.cell]
 simpa using hv
set_option maxRecDepth 100000 in
set_option maxHeartbeats 4000000 in
theorem Segs_any(v:Value)(l:List Int)(w:World)(hi:IntsB w v l w.heap.size)(hlen:l.length≤9223372036854775807) :
  Calls Tryz.prog 38 #[v] w fun e w' => ∃ x,e=.returned x∧w'.ownsRow w.heap.size 37 4 x (msegs l).length ((msegs l).flatMap sgV)∧Since w w' ∧ (msegs l=[]→x=.slice none 0 0):=by
 have HI0:=Lib.hid hi
 obtain⟨a,c,rfl,hc,hm,-⟩:=hi
 clear hm hc
 obtain⟨n,hn⟩:∃ n,n=min (l.length/4) 12:=⟨_,rfl⟩
 have hnb:n≤12:=by omega
 have HN:=Lib.hid hn
 obtain⟨i0,hi0,hz0,hz1,hz3⟩:=info_parts infoSg
 have HI:=Lib.hid hi0
 have HZ:=Lib.hid (And.intro hz0 (And.intro hz1 hz3))
 clear hi0 hz0 hz1 hz3
 go_enter Tryz.func38,Tryz.ntmps38
 go_upto_region 4 with fail
 rw[show min ((l.length:Int)/4) 12=(n:Int) by omega]
 obtain⟨G,HG⟩:∃ G,G=w.heap.size:=⟨_,rfl⟩
 rw[← HG]
 have hst:Strm (w.alloc (.cells #[.slice a l.length c] 73)) G w.heap.size (restS 0 l):=Strm.new HI0.out HG (by rw[HG];exact Nat.le_refl _)
 refine atW (fun w' => Hid (Since w w')∧Hid (Strm w' G w.heap.size (restS 0 l))∧G+1≤w'.heap.size) ⟨(Since.rfl_ w).alloc _,hst,by simp[HG]⟩ ?_
 have hGe:w.heap.size≤G:=by omega
 clear HG hst HI0 hn
 rintro w1 ⟨HS1,HT1,hs1⟩
 go_loopw [13,4] (fun v v4 wr=>∃ k:Nat,k≤n∧v=.int .i64 k∧Hid (Since w wr)∧Hid (Strm wr G w.heap.size (restS k l))∧Hid (wr.ownsRow (G+1) 37 4 v4 k ((segsK l k).flatMap sgV))∧G+1≤wr.heap.size∧(k=0→v4=.slice none 0 0)) (fun v _ _=>n-(intOf v).toNat)
 case atStart=>exact⟨0,by omega,by go_num,HS1,HT1,World.ownsRow_nil _ _ _ _,hs1,fun _=>rfl⟩
 case round =>
  clear HS1 HT1 hs1
  obtain⟨k,hk,rfl,HS,HT,HO,hsz,hnil⟩:=hrel
  have HNL:=Lib.hid hnil
  clear hnil
  obtain⟨ar,cr,rfl⟩:=own_slice HO.out
  rcases Nat.lt_or_ge k n with hlt | hge
  ·have hz:decide ((k:Int)<(n:Int))=true:=by rw[decide_eq_true_eq];omega
   have HLI:=line_str G w.heap.size (restS k l) 2 wr (by omega) (by omega) HT.out
   rw[show(((2:Nat):Int))=2 from rfl] at HLI
   have HLI:=Lib.hid HLI
   have HSU:Hid (segsK l (k+1)=segsK l k++[segO (restS k l)]):=segsK_succ l k
   have HLL:Hid ((lineP (restS k l)).length=2):=lineP_len _
   go_wp2_with fail
   refine(HLI.out).mono ?_
   rintro e w2 ⟨v',rfl,hp,hst,ho⟩
   have HS2:=Lib.hid (Only.since HS.out ho hGe)
   have HT2:Hid (Strm w2 G w.heap.size (restS (k+1) l)):=hst
   have HO2:=Lib.hid (HO.out.kept ho (by right;intro h;exact absurd (HO.out.lt G h).1 (by omega)))
   have hsz2:G+1≤w2.heap.size:=Nat.le_trans hsz ho.size
   obtain⟨p,HP⟩:∃ p,Hid (p=pAt (lineP (restS k l)) 0):=⟨_,rfl⟩
   obtain⟨q,HQ⟩:∃ q,Hid (q=pAt (lineP (restS k l)) 1):=⟨_,rfl⟩
   have HSG:Hid (segsK l (k+1)=segsK l k++[(p,q)]):=by show _=_;rw[HSU.out,HP.out,HQ.out];rfl
   obtain⟨av,cv,rfl,hpt⟩:=hp
   have hLn:(mlineGo (2-1) (ptOf (restS k l)).2 [(ptOf (restS k l)).1]).length=2:=HLL.out
   obtain⟨g,o,rfl,p0,p1⟩:=hpt 0 (by rw[hLn];omega)
   obtain⟨g',o',hgo,q0,q1⟩:=hpt 1 (by rw[hLn];omega)
   injection hgo with hgo
   injection hgo with hg1 hg2
   subst hg1 hg2
   rw[hLn]
   have p0:w2.cell? ⟨g,o,none⟩=some (.int .i64 p.1):=by rw[HP.out];unfold lineP;simpa using p0
   have p1:w2.cell? ⟨g,o+1,none⟩=some (.int .i64 p.2):=by rw[HP.out];unfold lineP;simpa using p1
   have q0:w2.cell? ⟨g,o+2,none⟩=some (.int .i64 q.1):=by rw[HQ.out];unfold lineP;simpa using q0
   have q1:w2.cell? ⟨g,o+2+1,none⟩=some (.int .i64 q.2):=by rw[HQ.out];unfold lineP;simpa using q1
   have KF:=Lib.hid (fun w' (h:Since w2 w')=>(show w'.cell? ⟨g,o,none⟩=some (.int .i64 p.1)∧w'.cell? ⟨g,o+1,none⟩=some (.int .i64 p.2)∧w'.cell? ⟨g,o+2,none⟩=some (.int .i64 q.1)∧w'.cell? ⟨g,o+2+1,none⟩=some (.int .i64 q.2) from⟨keepC h _ _ p0,keepC h _ _ p1,keepC h _ _ q0,keepC h _ _ q1⟩))
   clear hpt hst ho HS HT HO hsz HLI hLn p0 p1 q0 q1
   go_upto_region 6 with fail
   apply region_facts 9 (fun w' => Since w2 w')
   case hm=>kernel_rfl
   case hB=>kernel_rfl
   case hS=>exact(Since.rfl_ w2).drew
   case h =>
   simp only[List.take_succ_cons,List.take_zero,List.drop_succ_cons,List.drop_zero]
   iterate 8 (apply wpO_det;(case hw=>rfl);(case h=>intro hFm wx hS_ hF_ K hK;go_big_quiet_op;first | exact hK _ rfl | (apply Exists.intro;refine⟨fun _=>?_,?_⟩;(focus (first | (intro hC;have hC:=KF.out _ hC.out.1;(try simp only[hC,Result.andThen]);first | exact⟨True.intro,rfl⟩ | exact⟨rfl,rfl⟩ | rfl)));exact hK _ rfl));(case' k=>simp only[Act.put,List.setIfInBounds_toArray,List.set_cons_succ,List.set_cons_zero,List.cons_append,List.nil_append]))
   apply wpO_mk (f:=fun g=>.slice (some ⟨g,0,none⟩) 1 1) (t:=37) (cs := #[.int .i64 p.1,.int .i64 p.2,.int .i64 q.1,.int .i64 q.2])
   case hi=>(intro g g' h;simpa using h)
   case hw=>rfl
   case h=>(intro w;simp[go_sem])
   case k =>
   intro gs
   simp only[Act.put,List.setIfInBounds_toArray,List.set_cons_succ,List.set_cons_zero,List.cons_append,List.nil_append]
   refine wpO_nil ?_
   intro w3 hS hF hB
   (try simp[allF] at hF)
   (try simp[List.pairwise_cons] at hB)
   have hb:=hF.1
   have HS3:=Lib.hid (HS2.out.trans hS)
   have HT3:=Lib.hid (HT2.out.since hS)
   have HO3:=Lib.hid (own_since hS HO2.out)
   have hsz3:G+1≤w3.heap.size:=Nat.le_trans hsz2 hS.size
   have HNEW:=Lib.hid (blk4 hb)
   clear hF hS hB hb HS2 HT2 HO2 hsz2 KF
   go_wp2_with (at_builtin;refine wpList_append_own _ rfl _ _ 27 rfl (G+1) 37 i0 _ 4 32 Tryz.underlying27 HI.out HZ.out.1 HZ.out.2.1 HZ.out.2.2 rfl (by decide) _ _ _ rfl HO3.out _ _ _ [.int .i64 p.1,.int .i64 p.2,.int .i64 q.1,.int .i64 q.2] rfl rfl HNEW.out (one4 _ _ _ _ _ _ _ _) (by unfold maxLen;omega) (by omega) hsz3 ?_)
   intro v' w' hown hgrow _
   obtain⟨ao',co',rfl⟩:=own_slice hown
   have HS5:Hid (Since w w'):=HS3.out.grown hgrow (by have:=HS3.out.size;omega) fun k hk=>by have:=(HO3.out.lt k hk).1;omega
   have HT5:Hid (Strm w' G w.heap.size (restS (k+1) l)):=by
    obtain⟨v,hb,hi,hB⟩:=HT3.out
    exact⟨v,hb.grown hgrow (own_ne HO3.out (by omega)),hi.keep (fun q x hq hc=>by
     have hl:=World.block_lt_of_cell? _ q hc
     rw[World.cell?_of_block (hgrow.block q.block hl (own_ne HO3.out (by omega)))];exact hc),hB⟩
   have HO5:Hid (w'.ownsRow (G+1) 37 4 (.slice ao' (k+1) co') (k+1) ((segsK l (k+1)).flatMap sgV)):=by
    show World.ownsRow _ _ _ _ _ _ _
    rw[HSG.out,List.flatMap_append]
    exact hown
   have hsz5:G+1≤w'.heap.size:=Nat.le_trans hsz3 hgrow.size
   clear hown hgrow HS3 HT3 HO3 hsz3 HNEW
   go_wp2_with fail
   go_roundw
   case rel=>exact⟨k+1,by omega,by go_num,HS5,HT5,HO5,hsz5,fun h=>absurd h (by omega)⟩
   case measure=>simp[intOf];omega
  ·obtain rfl:k=n:=by omega
   have hz:decide ((k:Int)<(k:Int))=false:=by rw[decide_eq_false_iff_not];omega
   have HE:Hid (msegs l=segsK l k):=by show _=_;rw[HN.out];rfl
   go_wp2_with fail
   go_ret
   refine⟨_,rfl,?_,HS.out,fun h=>HNL.out ?_⟩
   ·rw[HE.out,segsK_len]
    exact HO.out.mono (by omega)
   ·rw[HE.out] at h
    have:=congrArg List.length h
    rw[segsK_len] at this
    exact this
end
section
open Go.RowKit Go.BigFrame
attribute [local go_sem ↓] eqPt neqPt
theorem addrAdd(b o k:Nat):(⟨b,o,none⟩:Addr).add k=⟨b,o+k,none⟩:=by unfold Addr.add;split <;> simp_all
theorem tail_flat{T:List Pt2}{u:Nat}{y:Value}(h:(T.tail.flatMap ptV)[u]? = some y):(T.flatMap ptV)[2+u]? = some y:=by
 rcases T with _ | ⟨p,T⟩
 ·simp at h
 ·rw[List.flatMap_cons,List.getElem?_append_right (by simp[ptV])]
  simpa[ptV] using h
theorem own_segs{w:World}{B:Nat}{v:Value}{L:List Sg}(h:w.ownsRow B 37 4 v L.length (L.flatMap sgV))(h0:0<L.length):SegsS w v L:=by
 obtain⟨g,c,rfl⟩:=own_some h h0
 obtain⟨hr,hc,-,-⟩:=RowG.own h
 refine⟨_,c,rfl,hc,fun i hi=>⟨g,0,rfl,?_⟩⟩
 have:=hr.cells hi
 simpa using this
theorem own_SlP{w:World}{B G:Nat}{v:Value}{L:List Pt2}(h:w.ownsRow B 36 2 v L.length (L.flatMap ptV))(h0:0<L.length)(hG:G<B):SlP w v L G:=by
 obtain⟨g,c,rfl⟩:=own_some h h0
 obtain⟨hr,hc,hb⟩:=RowP.own h
 exact⟨g,c,rfl,hc,by omega,hr.lt,fun j hj=>hr.cells hj⟩
theorem edg_nil_of_hot{l:List Sg}(h:hotL l=[]):l=[]:=by
 rcases l with _ | ⟨s,l⟩
 ·rfl
 ·have:s.1∈hotL (s :: l):=by
   unfold hotL
   rw[hullS_mem]
   refine outS_sub (s :: l) (show 1≤(s :: l).length by simp) ?_
   rw[outS_succ];simp[sgAt]
  rw[h] at this;cases this
set_option maxRecDepth 100000 in
set_option maxHeartbeats 4000000 in
theorem chains_any (v:Value) (l:List Sg) (w:World) (hv:SegsS w v l) (h0:0<l.length) (hl:l.length≤300) (hok:∀ s∈l,SgOk s) (N:Nat) (hrun:RunC (cs0 l) N) :
  Calls Tryz.prog 60 #[v] w fun e w' => ∃ g,e=.returned (.tuple #[.slice (some ⟨g,0,none⟩) l.length l.length,.int .i64 0])∧ChS w' (.slice (some ⟨g,0,none⟩) l.length l.length) (iterC (N+1) (cs0 l))∧w.heap.size≤g∧Since w w' := by
 have HCK:=Lib.hid (fun w' (hs:Since w w')=>check_any v l w' (hv.since hs) hl hok)
 obtain⟨a,c,rfl,hcap0,hv⟩:=hv
 have HV:=Lib.hid hv
 have HRUN:=Lib.hid hrun
 obtain⟨n,hn⟩:∃ n,n=l.length:=⟨_,rfl⟩
 have HN:=Lib.hid hn
 rw[← hn] at HV hl hcap0 HCK h0 ⊢
 clear hv hok hn hrun
 obtain⟨i0,hi0,hz0,hz1,hz3⟩:=info_parts infoPts
 have HI:=Lib.hid hi0
 have HZ:=Lib.hid (And.intro hz0 (And.intro hz1 hz3))
 clear hi0 hz0 hz1 hz3
 go_enter Tryz.func60,Tryz.ntmps60
 go_wp2_with fail
 refine(HCK.out _ (Since.rfl_ w)).mono ?_
 rintro e w1 ⟨rfl,hs⟩
 have HS1:=Lib.hid hs
 clear hs HCK
 go_wp2_with (at_make;refine wpList_make_full _ rfl _ _ 85 rfl w.heap.size 23 i0 _ 1 Tryz.underlying85 HI.out HZ.out.1 HZ.out.2.1 .i64 .i64 _ _ n rfl rfl rfl rfl (by rw[HZ.out.2.2];omega) (by unfold maxLen;omega) HS1.out.size ?_;intro w2 hown hgrow)
 obtain⟨G,HG⟩:∃ G,G=w1.heap.size:=⟨_,rfl⟩
 rw[← HG] at hown ⊢
 have hw2:Since w w2:=HS1.out.trans ⟨hgrow.os,hgrow.tape,hgrow.output,hgrow.size,fun i hi=>hgrow.block i hi (by simp)⟩
 have hG:w.heap.size≤G:=by rw[HG];exact HS1.out.size
 have HVG0:Hid (VG w2 G (cs0 l) 0):=by
  obtain⟨-,⟨h1,-⟩ | ⟨g,cap,cur,h1,-,hb,-,-,hs,-⟩⟩:=hown
  ·cases h1
  ·injection h1 with h1 _ h3
   injection h1 with h1
   injection h1 with h1
   subst h1 h3
   exact⟨cur.toList,hb,by simp[cs0,hs,HN.out],fun i hi=>absurd hi (Nat.not_lt_zero _)⟩
 have HS2:=Lib.hid hw2
 clear hown hgrow HG HS1 hw2
 go_loopw [25] (fun v wr=>∃ k:Nat,k≤n∧v=.int .i64 k∧Hid (Since w wr)∧Hid (VG wr G (cs0 l) k)) (fun v _=>n-(intOf v).toNat)
 case atStart=>exact⟨0,by omega,rfl,HS2,HVG0⟩
 case round =>
  clear HS2 HVG0
  obtain⟨k,hk,rfl,HS,HG⟩:=hrel
  rcases Nat.lt_or_ge k n with hlt | hge
  ·have hz:decide ((k:Int)<(n:Int))=true:=by rw[decide_eq_true_eq];omega
   obtain⟨g,o,rfl,h1,h2,h3,h4⟩:=HV.out k hlt
   obtain⟨s,hs⟩:∃ s,s=sgAt l k:=⟨_,rfl⟩
   have HAT:Hid (chAt (cs0 l) k=[s.1,s.2]):=by show _=_;rw[hs];exact cs0_at (by rw[← HN.out];exact hlt)
   rw[← hs] at h1 h2 h3 h4
   have h1:=keepC HS.out _ _ h1
   have h2:=keepC HS.out _ _ h2
   have h3:=keepC HS.out _ _ h3
   have h4:=keepC HS.out _ _ h4
   have i1:(0:Int)≤(k:Int):=by omega
   have i2:(k:Int)<(n:Int):=by omega
   clear hs
   go_upto_region 8 with fail
   obtain⟨G7,HG7⟩:∃ G7,G7=wr.heap.size:=⟨_,rfl⟩
   rw[← HG7]
   refine atW (fun w' => Hid (Since w w')∧Hid (VG w' G (cs0 l) k)∧Blk w' G7 37 #[.int .i64 s.1.1,.int .i64 s.1.2,.int .i64 s.2.1,.int .i64 s.2.2]) ⟨HS.out.alloc _,HG.out.since ((Since.rfl_ wr).alloc _),Blk.new' HG7⟩ ?_
   clear HS HG HG7 h1 h2 h3 h4
   rintro w3 ⟨HS3,HG3,hb⟩
   have r_0:=hb.cell 0
   have r_1:=hb.cell 1
   have r_2:=hb.cell 2
   have r_3:=hb.cell 3
   simp only[List.getElem?_toArray,List.getElem?_cons_zero,List.getElem?_cons_succ] at r_0 r_1 r_2 r_3
   obtain⟨u,hu0,huf⟩:∃ u,w3.cell? ⟨G,k,none⟩=some u∧w3.frozen? ⟨G,k,none⟩=false:=by
    obtain⟨vals,hbv,hlv,-⟩:=HG3.out
    refine⟨vals.getD k undef,?_,hbv.frozen k⟩
    rw[hbv.cell]
    have:k<vals.length:=by rw[hlv];simp[cs0];rw[← HN.out];exact hlt
    simp[List.getD,this]
   have hGlt:G<w3.heap.size:=by obtain⟨vals,hbv,-⟩:=HG3.out;exact hbv.lt
   clear hb
   obtain⟨wa,HWA⟩:∃ wa,wa=w3.alloc (.cells #[.int .i64 s.1.1,.int .i64 s.1.2,.int .i64 s.2.1,.int .i64 s.2.2] 36):=⟨_,rfl⟩
   have hsa:Since w3 wa:=by rw[HWA];exact(Since.rfl_ w3).alloc _
   have hua:=keepC hsa _ _ hu0
   have hfa:wa.frozen? ⟨G,k,none⟩=false:=by obtain⟨vals,hbv,-⟩:=(HG3.out.since hsa);exact hbv.frozen k
   rw[HWA] at hua hfa
   clear hu0 huf
   have hcl:SlP wa (.slice (some ⟨w3.heap.size,0,none⟩) 2 2) (chAt (cs0 l) k) G:=by
    rw[HAT.out,HWA]
    have hbn:=Blk.new w3 36 #[.int .i64 s.1.1,.int .i64 s.1.2,.int .i64 s.2.1,.int .i64 s.2.2]
    refine⟨w3.heap.size,2,rfl,Nat.le_refl _,hGlt,hbn.lt,fun j hj=>?_⟩
    have:j=0∨j=1:=by simp at hj;omega
    rcases this with rfl | rfl
    ·exact⟨hbn.cell 0,hbn.cell 1⟩
    ·exact⟨hbn.cell 2,hbn.cell 3⟩
   obtain⟨hvg,hon⟩:=VG.set (cs' := cs0 l) HG3.out hsa rfl (i:=k) (by simp[cs0];rw[← HN.out];exact hlt) hcl (fun _ _ _=>rfl) (k+1) (fun j hj=>by omega)
   have HF:Hid (Since w (wa.setCell ⟨G,k,none⟩ (.slice (some ⟨w3.heap.size,0,none⟩) 2 2))∧VG (wa.setCell ⟨G,k,none⟩ (.slice (some ⟨w3.heap.size,0,none⟩) 2 2)) G (cs0 l) (k+1)):=⟨(HS3.out.trans hsa).setCell (by dsimp only;omega) _,hvg⟩
   rw[HWA] at HF
   clear hvg hon hcl hsa HWA wa HS3 HG3 hGlt HAT
   go_wp2_with fail
   go_roundw
   case rel=>exact⟨k+1,by omega,by go_num,HF.out.1,HF.out.2⟩
   case measure=>simp[intOf];omega
  ·obtain rfl:k=n:=by omega
   have hz:decide ((k:Int)<(k:Int))=false:=by rw[decide_eq_false_iff_not];omega
   have HGA:Hid (VG wr G (iterC 0 (cs0 l)) k):=HG.out
   clear HG HV
   go_wp2_with fail
   obtain⟨wz,HWZ⟩:∃ wz,wz=wr:=⟨_,rfl⟩
   go_loopg [8] (N+1) (fun gk v8 wr=>∃ t:Nat,t+gk=N+1∧v8=.bool (decide (t≤N))∧Hid (Since w wr∧VG wr G (iterC t (cs0 l)) k))
   case atStart=>exact⟨0,by omega,by simp,HS.out,HGA.out⟩
   case round =>
    clear HS HGA HWZ
    obtain⟨t,ht,rfl,HT⟩:=hrel
    rcases Nat.lt_or_ge N t with hge2 | hlt2
    ·have hb:decide (t≤N)=false:=by rw[decide_eq_false_iff_not];omega
     obtain rfl:t=N+1:=by omega
     rw[hb]
     go_wp2_with fail
     refine bodyPost_ret (v:=.tuple #[.slice (some ⟨G,0,none⟩) k k,.int .i64 0]) (by simp[results,Tryz.results60,go_sem,cSetS,cSetO,cellDrew,go_sem]) rfl ⟨G,rfl,?_,hG,HT.out.1⟩
     have h:=HT.out.2
     have e:k=(iterC (N+1) (cs0 l)).length:=by rw[iterC_len];simp[cs0,HN.out]
     have h2:=VG.ch (c:=k) (by rw[← e];exact h)
     rw[← e] at h2;exact h2
    ·have hb:decide (t≤N)=true:=by rw[decide_eq_true_eq];omega
     rw[hb]
     have HOK:=Lib.hid (HRUN.out.good t hlt2)
     have HSTEP:Hid (iterC (t+1) (cs0 l)=stepC (iterC t (cs0 l))):=rfl
     have HMOR:Hid (moreB (hotL (edgL (iterC t (cs0 l)))) (iterC t (cs0 l)) k=decide (t+1≤N)):=by
      show _=_
      have e:k=(iterC t (cs0 l)).length:=by rw[iterC_len];simp[cs0,HN.out]
      rw[e,Bool.eq_iff_iff,moreB_all,decide_eq_true_eq]
      constructor
      ·intro h
       refine Classical.byContradiction fun hn=>h ?_
       have:t=N:=by omega
       rw[this];exact HRUN.out.last
      ·intro h;exact HRUN.out.more t (by omega)
     obtain⟨cs,HCS⟩:∃ cs,Hid (cs=iterC t (cs0 l)):=⟨_,rfl⟩
     have hkl:k=cs.length:=by rw[HCS.out,iterC_len];simp[cs0,HN.out]
     rw[← HCS.out] at HT HOK HSTEP HMOR
     have HKL:=Lib.hid hkl
     have HED:=Lib.hid (edges_any (.slice (some ⟨G,0,none⟩) k k) cs wr (by have h:=VG.ch (c:=k) (by rw[← hkl];exact HT.out.2);rw[← hkl] at h;exact h) HOK.out.n (fun i hi=>by have:=(HOK.out.len i hi).2;omega) (fun e=>HOK.out.ene (by unfold edgL;rw[e];simp[srtG,cmpG])))
     clear hkl hb
     go_wp2_with fail
     refine(HED.out).mono ?_
     rintro e w4 ⟨x,rfl,hox,hs⟩
     have HT4:=Lib.hid (And.intro (HT.out.1.trans hs) (HT.out.2.since hs))
     have hel:=List.length_pos_iff.2 HOK.out.ene
     have HPO:=Lib.hid (points_any x (edgL cs) w4 (own_segs hox hel) HOK.out.el HOK.out.ene HOK.out.eok HOK.out.cap)
     clear hs hox HED HT
     go_wp2_with fail
     refine(HPO.out).mono ?_
     rintro e w5 ⟨xh,rfl,hoh,hs⟩
     obtain⟨H,HH⟩:∃ H,Hid (H=hotL (edgL cs)):=⟨_,rfl⟩
     rw[← HH.out] at hoh HMOR
     have hHp:0<H.length:=by
      rw[HH.out]
      refine List.length_pos_iff.2 fun e=>HOK.out.ene ?_
      exact edg_nil_of_hot e
     have hG4:G<w4.heap.size:=by obtain⟨vals,hbv,-⟩:=HT4.out.2;exact hbv.lt
     have HXH:=Lib.hid (own_SlP hoh hHp hG4)
     have HT5:Hid (Since w w5∧VG w5 G (midC H cs 0) k):=⟨HT4.out.1.trans hs,by rw[midC_zero];exact HT4.out.2.since hs⟩
     clear hs hoh HPO HT4 hHp hG4
     go_wp2_with fail
     obtain⟨wy,HWY⟩:∃ wy,wy=w5:=⟨_,rfl⟩
     go_loopw [50,8] (fun v50 v8 wr=>∃ i:Nat,i≤k∧v50=.int .i64 i∧v8=.bool (moreB H cs i)∧Hid (Since w wr∧VG wr G (midC H cs i) k)∧Hid (SlP wr xh H G)) (fun v50 _ _=>k-(intOf v50).toNat)
     case atStart=>exact⟨0,by omega,by go_num,by simp[moreB],HT5,HXH⟩
     case round =>
      clear HT5 HXH HWY
      obtain⟨i,hi,rfl,rfl,HT,HX⟩:=hrel
      rcases Nat.lt_or_ge i k with hlti | hgei
      ·have hzi:decide ((i:Int)<(k:Int))=true:=by rw[decide_eq_true_eq];omega
       have hic:i<cs.length:=by have:=HKL.out;omega
       obtain⟨C,HC⟩:∃ C,Hid (C=chAt cs i):=⟨_,rfl⟩
       have HLEN:=HOK.out.len i hic
       have HPOK:=Lib.hid (HOK.out.ok i hic)
       have HTWO:=Lib.hid (HOK.out.two i hic)
       have HONE:=Lib.hid (HOK.out.one i hic)
       have HNX:=Lib.hid (HOK.out.nx i hic)
       have hHok:=Lib.hid HOK.out.hok
       have hHcap:=HOK.out.cap
       rw[← HC.out] at HLEN HPOK HTWO HONE HNX
       rw[← HH.out] at HTWO HONE HNX hHok hHcap
       obtain⟨m,HM⟩:∃ m,Hid (m=C.length):=⟨_,rfl⟩
       obtain⟨vc,hvc,gc,cc,rfl,hcc,hgc,hgl,hcells⟩:∃ vc,wr.cell? ⟨G,i,none⟩=some vc∧SlP wr vc C G:=by
        obtain⟨vals,hbv,hlv,hsv⟩:=HT.out.2
        refine⟨vals.getD i undef,?_,?_⟩
        ·rw[hbv.cell]
         have:i<vals.length:=by rw[hlv,midC_len];exact hic
         simp[List.getD,this]
        ·have h:=hsv i hlti
         rw[midC_at hic,if_neg (by omega),← HC.out] at h
         exact h
       rw[← HM.out] at hcc HLEN hvc
       have HCL:=Lib.hid hcells
       have k1:(0:Int)≤(i:Int):=by omega
       have k2:(i:Int)<(k:Int):=by omega
       have k3:(1:Int)≤(cc:Int):=by omega
       have k4:¬ cc=0:=by omega
       have k5:1≤cc:=by omega
       clear hcells
       go_upto_region 20 with fail
       have HN0:Hid (NxS wr wr.heap.size (.slice (some ⟨gc,0,none⟩) 1 1) (pAt C 0 :: nextG H C (1-1))):=by
        refine .inl ⟨gc,pAt C 0,rfl,by simp[nextG],hgl,?_,?_⟩
        ·have:=(HCL.out 0 (by rw[← HM.out];omega)).1;simpa using this
        ·have:=(HCL.out 0 (by rw[← HM.out];omega)).2;simpa using this
       go_upto_region 21 with fail
       have HWR:=Lib.hid HT.out
       have HXR:=Lib.hid HX.out
       clear HT HX
       obtain⟨wv,rfl⟩:∃ wv,wv=wr:=⟨_,rfl⟩
       go_loopw [14,13] (fun v14 v13 wq=>∃ j:Nat,1≤j∧j≤m∧v14=.int .i64 j∧Hid (Since wv wq)∧Hid (NxS wq wv.heap.size v13 (pAt C 0 :: nextG H C (j-1)))∧Hid (1<j→wq.ownsRow wv.heap.size 36 2 v13 (pAt C 0 :: nextG H C (j-1)).length ((pAt C 0 :: nextG H C (j-1)).flatMap ptV))) (fun v14 _ _=>m-(intOf v14).toNat)
       case atStart=>exact⟨1,by omega,by omega,by go_num,Since.rfl_ wv,HN0,fun h=>by omega⟩
       case round =>
        clear HN0
        obtain⟨j,hj1,hj2,rfl,HS,HNXT,HOWN⟩:=hrel
        obtain⟨an,cn,rfl⟩:=HNXT.out.slice
        obtain⟨L,HL⟩:∃ L,Hid (L=pAt C 0 :: nextG H C (j-1)):=⟨_,rfl⟩
        rw[← HL.out] at HNXT HOWN ⊢
        rcases Nat.lt_or_ge j m with hltj | hgej
        ·have hzj:decide ((j:Int)<(m:Int))=true:=by rw[decide_eq_true_eq];omega
         obtain⟨r,hr⟩:∃ r,j=r+1:=⟨j-1,by omega⟩
         have iw:IntKind.i64.wrap ((j:Int)-1)=(r:Int):=by
          rw[i64wc,show(j:Int)-1=r by omega]
          exact wrap_id (by omega)
         obtain⟨p0,p1⟩:=HCL.out r (by rw[← HM.out];omega)
         obtain⟨q0,q1⟩:=HCL.out j (by rw[← HM.out];exact hltj)
         have HJR:=Lib.hid hr
         have HSU:Hid (pAt C 0 :: nextG H C (j+1-1)=L++(thrL (pAt C r) (pAt C j) H).tail):=by
          show _=_
          rw[HL.out,Nat.add_sub_cancel]
          have e1:=nextG_succ H C r
          rw[show j-1=r by omega,show nextG H C j=nextG H C (r+1) by rw[hr],e1,hr];rfl
         have hLlen:L.length≤100001:=by rw[HL.out,List.length_cons];have:=HNX.out (j-1) (by rw[← HM.out];omega);omega
         have hNlen:(nextG H C j).length≤100000:=HNX.out j (by rw[← HM.out];omega)
         have hTw:=HTWO.out r (by rw[← HM.out];omega)
         have hOn:=HONE.out r (by rw[← HM.out];omega)
         have hpo:okP (pAt C r).1 (pAt C r).2=true:=HPOK.out _ (pAt_mem (by rw[← HM.out];omega))
         have hqo:okP (pAt C j).1 (pAt C j).2=true:=HPOK.out _ (pAt_mem (by rw[← HM.out];omega))
         rw[show r+1=j by omega] at hTw hOn
         obtain⟨p,HP⟩:∃ p,Hid (p=pAt C r):=⟨_,rfl⟩
         obtain⟨q,HQ⟩:∃ q,Hid (q=pAt C j):=⟨_,rfl⟩
         rw[← HP.out] at p0 p1 hTw hOn hpo HSU
         rw[← HQ.out] at q0 q1 hTw hOn hqo HSU
         obtain⟨T,HTT⟩:∃ T,Hid (T=thrL p q H):=⟨_,rfl⟩
         rw[← HTT.out] at hTw hOn HSU
         have hfne:H.filter (metB p q)≠[]:=fun e=>by
          have:T=[]:=by rw[HTT.out];unfold thrL;rw[e];simp
          rw[this] at hTw;simp at hTw
         have HTH:=Lib.hid (fun w' (hs:Since wv w')=>through_any hpo hqo xh H w' (HXR.out.since hs).pts hHok.out hHcap hfne)
         have HON:=Lib.hid hOn
         have HTW:=Lib.hid hTw
         have hTl:T.length≤100001:=by
          have h1:nextG H C j=nextG H C r++T.tail:=by
           have e1:=nextG_succ H C r
           rw[show nextG H C j=nextG H C (r+1) by rw[hr],e1,HTT.out,HP.out,HQ.out,hr]
          rw[h1,List.length_append,List.length_tail] at hNlen
          omega
         have KF:=Lib.hid (fun w' (h:Since wr w')=>(show w'.cell? ⟨gc,r*2,none⟩=some (.int .i64 p.1)∧w'.cell? ⟨gc,r*2+1,none⟩=some (.int .i64 p.2)∧w'.cell? ⟨gc,j*2,none⟩=some (.int .i64 q.1)∧w'.cell? ⟨gc,j*2+1,none⟩=some (.int .i64 q.2) from⟨keepC (HS.out.trans h) _ _ p0,keepC (HS.out.trans h) _ _ p1,keepC (HS.out.trans h) _ _ q0,keepC (HS.out.trans h) _ _ q1⟩))
         have j1:(0:Int)≤(r:Int):=by omega
         have j2:(r:Int)<(m:Int):=by omega
         have j3:(0:Int)≤(j:Int):=by omega
         have j4:(j:Int)<(m:Int):=by omega
         clear p0 p1 q0 q1 hpo hqo hOn hTw hfne hNlen hr
         go_upto_region 23 with fail
         apply region_facts 13 (fun w' => Since wr w')
         case hm=>kernel_rfl
         case hB=>kernel_rfl
         case hS=>exact(Since.rfl_ wr).drew
         case h =>
         simp only[List.take_succ_cons,List.take_zero,List.drop_succ_cons,List.drop_zero]
         iterate 11 (apply wpO_det;(case hw=>rfl);(case h=>intro hFm wx hS_ hF_ K hK;go_big_quiet_op;first | exact hK _ rfl | (apply Exists.intro;refine⟨fun _=>?_,?_⟩;(focus (first | (intro hC;have hC:=KF.out _ hC.out.1;(try simp only[hC,Result.andThen]);first | exact⟨True.intro,rfl⟩ | exact⟨rfl,rfl⟩ | rfl)));exact hK _ rfl));(case' k=>simp only[Act.put,List.setIfInBounds_toArray,List.set_cons_succ,List.set_cons_zero,List.cons_append,List.nil_append]))
         apply wpO_any (R:=(fun v w' => ∃ (gx cx:Nat),v=.slice (some ⟨gx,0,none⟩) T.length cx∧T.length≤cx∧∀ (u:Nat) (y:Value),(T.flatMap ptV)[u]? = some y→w'.cell? ⟨gx,u,none⟩=some y))
         case hR=>exact(fun v a c h hs=>by
                   obtain⟨gx,cx,h1,h2,h3⟩:=h
                   exact⟨gx,cx,h1,h2,fun u y hy=>keepC hs _ _ (h3 u y hy)⟩)
         case hw=>rfl
         case h =>
          intro wx hS_ hF_
          unfold runV
          simp[go_sem]
          (
                   refine(HTH.out _ (HS.out.trans hS_)).mono ?_
                   rintro e w'' ⟨x',l',rfl,hth,ho,hs⟩
                   have hlT:=HON.out l' hth
                   subst hlT
                   obtain⟨gx,cx,rfl⟩:=own_some ho (by have:=HTW.out;omega)
                   refine⟨_,rfl,⟨gx,cx,rfl,(RowP.own ho).2.1,fun u y hy=>?_⟩,hs⟩
                   have:=ho.cells (g:=gx) rfl u y hy
                   rw[addrAdd,Nat.zero_add] at this;exact this)
         case k =>
         intro v74
         simp only[Act.put,List.setIfInBounds_toArray,List.set_cons_succ,List.set_cons_zero,List.cons_append,List.nil_append]
         apply wpO_any (R:=(fun v w' => ∃ (gx cx:Nat),v=.slice (some ⟨gx,2,none⟩) T.tail.length cx∧∀ (u:Nat) (y:Value),(T.tail.flatMap ptV)[u]? = some y→w'.cell? ⟨gx,2+u,none⟩=some y))
         case hR=>exact(fun v a c h hs=>by
                   obtain⟨gx,cx,h1,h3⟩:=h
                   exact⟨gx,cx,h1,fun u y hy=>keepC hs _ _ (h3 u y hy)⟩)
         case hw=>rfl
         case h =>
          intro wx hS_ hF_
          unfold runV
          simp[go_sem]
          (
                   obtain⟨gx,cx,hv,hcx,hce⟩:=factsOf_at (j:=11) (by decide) hF_
                   subst hv
                   have q0:=HTW.out
                   have q1:1≤T.length:=by omega
                   have q2:(1:Int)≤(T.length:Int):=by omega
                   have q3:(T.length:Int)≤(cx:Int):=by omega
                   have q4:¬ cx=1:=by omega
                   have q5:1<cx:=by omega
                   have q6:(1:Int)≤(cx:Int):=by omega
                   simp[go_sem,q1,q2,q3,q4,q5,q6,hcx,Result.andThen]
                   exact fun u y hy=>hce _ _ (tail_flat hy))
         case k =>
         intro v75
         simp only[Act.put,List.setIfInBounds_toArray,List.set_cons_succ,List.set_cons_zero,List.cons_append,List.nil_append]
         refine wpO_nil ?_
         intro w6 hS hF hB
         (try simp[allF] at hF)
         (try simp[List.pairwise_cons] at hB)
         obtain⟨gx,⟨cx,hv⟩,hce⟩:=hF.2
         obtain⟨v',w',hrun,hown,hsince⟩:=run_append_next (m:=T.tail) 23 (HNXT.out.since hS) (HS.out.trans hS).size ⟨gx,2,none⟩ cx (by rw[List.length_tail];have:=HTW.out;omega) (by rw[List.length_tail];omega) (fun j u h=>by rw[addrAdd];exact hce j u h)
         subst hv
         rw[List.length_tail] at hrun
         have HS6:=Lib.hid (hsince wv (HS.out.trans hS) (Nat.le_refl _))
         have HO6:Hid (w'.ownsRow wv.heap.size 36 2 v' (pAt C 0 :: nextG H C (j+1-1)).length ((pAt C 0 :: nextG H C (j+1-1)).flatMap ptV)):=by
          show World.ownsRow _ _ _ _ _ _ _
          rw[HSU.out,List.length_append];exact hown
         clear hF hS hB hce hown hsince HS HNXT HOWN KF HTH HON
         go_wp2_with (at_builtin;refine wpList_append_eq rfl _ _ rfl rfl rfl hrun ?_)
         go_wp2_with fail
         go_roundw
         case rel=>exact⟨j+1,by omega,by omega,by go_num,HS6,.inr HO6.out,fun _=>HO6.out⟩
         case measure=>simp[intOf];omega
        ·obtain rfl:j=m:=by omega
         have hzj:decide ((j:Int)<(j:Int))=false:=by rw[decide_eq_false_iff_not];omega
         have HLC:Hid (L=nextC H (chAt cs i)):=by
          show _=_
          rw[HL.out,HM.out,HC.out];rfl
         have hGv:G<wv.heap.size:=by obtain⟨vals,hbv,-⟩:=HWR.out.2;exact hbv.lt
         have hL0:0<L.length:=by rw[HL.out];simp
         have HSL:=Lib.hid (own_SlP (HOWN.out (by omega)) hL0 hGv)
         have HMB:=moreB_succ H cs i
         rw[← HLC.out,← HC.out,← HM.out] at HMB
         obtain⟨u,hua,hfa⟩:∃ u,wr.cell? ⟨G,i,none⟩=some u∧wr.frozen? ⟨G,i,none⟩=false:=by
          obtain⟨vals,hbv,hlv,-⟩:=HWR.out.2.since HS.out
          refine⟨vals.getD i undef,?_,hbv.frozen i⟩
          rw[hbv.cell]
          have:i<vals.length:=by rw[hlv,midC_len];exact hic
          simp[List.getD,this]
         obtain⟨hvg,hon⟩:=VG.set (cs' := midC H cs (i+1)) HWR.out.2 HS.out (by rw[midC_len,midC_len]) (i:=i) (by rw[midC_len];exact hic) (v:=.slice an L.length cn) (by
          rw[midC_at hic,if_pos (by omega),← HLC.out];exact HSL.out) (fun y hy hne=>by
          have hyc:y<cs.length:=by have:=HKL.out;omega
          rw[midC_at hyc,midC_at hyc]
          by_cases h:y<i
          ·rw[if_pos (by omega),if_pos h]
          ·rw[if_neg (by omega),if_neg h]) k (fun y hy=>.inl hy)
         have HF:Hid (Since w (wr.setCell ⟨G,i,none⟩ (.slice an L.length cn))∧VG (wr.setCell ⟨G,i,none⟩ (.slice an L.length cn)) G (midC H cs (i+1)) k):=⟨(HWR.out.1.trans HS.out).setCell (by dsimp only;omega) _,hvg⟩
         have HXF:Hid (SlP (wr.setCell ⟨G,i,none⟩ (.slice an L.length cn)) xh H G):=(HXR.out.since HS.out).only hon
         have HMBB:=Lib.hid HMB
         clear hvg hon HMB HSL HOWN HNXT HS
         cases hmb:moreB H cs i
         ·by_cases hlm:L.length=j
          ·have hq:((L.length:Int) == (j:Int))=true:=by rw[beq_iff_eq];omega
           have HB:Hid (moreB H cs (i+1)=false):=by show _=_;rw[HMBB.out,hmb];simp[hlm]
           clear hmb hlm
           go_wp2_with fail
           go_roundw
           case rel=>exact⟨i+1,by omega,by go_num,by(first | (rw[HB.out];done) | (rw[HB.out];simp only[bne,hq];rfl)),HF,HXF⟩
           case measure=>simp[intOf];omega
          ·have hq:((L.length:Int) == (j:Int))=false:=by rw[beq_eq_false_iff_ne];omega
           have HB:Hid (moreB H cs (i+1)=true):=by show _=_;rw[HMBB.out,hmb];simp[hlm]
           clear hmb hlm
           go_wp2_with fail
           go_roundw
           case rel=>exact⟨i+1,by omega,by go_num,by(first | (rw[HB.out];done) | (rw[HB.out];simp only[bne,hq];rfl)),HF,HXF⟩
           case measure=>simp[intOf];omega
         ·have HB:Hid (moreB H cs (i+1)=true):=by show _=_;rw[HMBB.out,hmb];simp
          clear hmb
          go_wp2_with fail
          go_roundw
          case rel=>exact⟨i+1,by omega,by go_num,by(first | (rw[HB.out];done) | (rw[HB.out];simp only[bne,hq];rfl)),HF,HXF⟩
          case measure=>simp[intOf];omega
      ·obtain rfl:i=k:=by omega
       have hzi:decide ((i:Int)<(i:Int))=false:=by rw[decide_eq_false_iff_not];omega
       have HFIN:Hid (Since w wr∧VG wr G (iterC (t+1) (cs0 l)) i):=by
        refine⟨HT.out.1,?_⟩
        have h:=HT.out.2
        have e:midC H cs i=iterC (t+1) (cs0 l):=by rw[HSTEP.out,← midC_all,HH.out,HKL.out]
        rw[e] at h;exact h
       rw[HMOR.out]
       clear HT HX
       go_wp2_with fail
       go_roundg (N-t)
       case measure=>omega
       case rel=>exact⟨t+1,by omega,rfl,HFIN⟩
end
section
open Go.RowKit Go.BigFrame
attribute [local go_sem ↓] eqPt neqPt
set_option maxHeartbeats 1000000 in
theorem Round_any(v:Value)(l:List Sg)(w:World)(hv:SegsS w v l)(h0:0<l.length)(hl:l.length≤300)(hok:∀ s∈l,SgOk s)(N:Nat)(hrun:RunC (cs0 l) N)(hst:StepOk (iterC (N+1) (cs0 l))) :
  Calls Tryz.prog 37 #[v] w fun e w' => ∃ x,e=.returned (.tuple #[x,.int .i64 0])∧w'.ownsRow w.heap.size 37 4 x (edgL (iterC (N+1) (cs0 l))).length ((edgL (iterC (N+1) (cs0 l))).flatMap sgV)∧Since w w' := by
 have HCH:=Lib.hid (chains_any v l w hv h0 (by omega) hok N hrun)
 have HST:=Lib.hid hst
 obtain⟨a,c,rfl,-,-⟩:=hv
 obtain⟨cs,HCS⟩:∃ cs,Hid (cs=iterC (N+1) (cs0 l)):=⟨_,rfl⟩
 rw[← HCS.out] at HCH HST ⊢
 clear hok hrun hst
 go_enter Tryz.func37,Tryz.ntmps37
 go_wp2_with fail
 refine(HCH.out).mono ?_
 rintro e w1 ⟨g,rfl,hch,hg,hs⟩
 have HED:=Lib.hid (edges_any _ cs w1 hch HST.out.n (fun i hi=>by have:=(HST.out.len i hi).2;omega) (fun e=>HST.out.ene (by unfold edgL;rw[e];simp[srtG,cmpG])))
 have HS1:=Lib.hid hs
 clear hch hs HCH
 go_wp2_with fail
 refine(HED.out).mono ?_
 rintro e w2 ⟨x,rfl,ho,hs⟩
 have HS2:=Lib.hid (HS1.out.trans hs)
 have HO2:=Lib.hid (ho.mono HS1.out.size)
 obtain⟨ax,cx,rfl⟩:=own_slice ho
 clear ho hs HED HS1
 go_wp2_with fail
 refine bodyPost_ret (v:=.tuple #[.slice ax (edgL cs).length cx,.int .i64 0]) (by simp[results,Tryz.results37,go_sem,cSetS,cSetO,cellDrew,go_sem]) rfl ⟨_,rfl,HO2.out,HS2.out⟩
theorem edges_nil(g c:Nat)(w:World):Calls Tryz.prog 61 #[.slice (some ⟨g,0,none⟩) 0 c] w fun e w' => e=.returned (.slice none 0 0)∧Since w w' := by
 have HSO:Hid (∀ w,Calls Tryz.prog 71 #[.slice none 0 0,.func (.func 82) #[] #[]] w fun e w' => e=.returned (.tuple #[])∧w' = w):=fun w=>Go.Proofs.AnyF.slices_SortFunc_none sortSg none 0 _ w
 have HCP:Hid (∀ w,Calls Tryz.prog 83 #[.slice none 0 0] w fun e w' => e=.returned (.slice none 0 0)∧w' = w):=fun w=>by
  go_enter Tryz.func83,Tryz.ntmps83
  go_wp2
  go_ret
  exact⟨rfl,rfl⟩
 go_enter Tryz.func61,Tryz.ntmps61
 go_upto_region 3 with fail
 go_loopw [10,3] (fun v v3 wr=>v=.int .i64 0∧v3=.slice none 0 0∧wr=w) (fun _ _ _=>0)
 case atStart=>exact⟨by go_num,rfl,rfl⟩
 case round =>
  obtain⟨rfl,rfl,rfl⟩:=hrel
  go_wp2_with fail
  refine(HSO.out _).mono ?_
  rintro e w2 ⟨rfl,rfl⟩
  go_wp2_with fail
  refine(HCP.out _).mono ?_
  rintro e w2 ⟨rfl,rfl⟩
  go_wp2_with fail
  go_ret
  exact⟨rfl,Since.rfl_ _⟩
end
section
open Go.RowKit Go.BigFrame
attribute [local go_sem ↓] eqPt neqPt
set_option maxHeartbeats 1000000 in
theorem rounds_any(w:World):Calls Tryz.prog 39 #[] w fun e w' => e=.returned (.bool true)∧Since w w' := by
 go_enter Tryz.func39,Tryz.ntmps39
 go_wp2_with fail
 refine(ptK_any _ _ _).mono ?_
 rintro e w1 ⟨rfl,hs1⟩
 go_wp2_with fail
 refine(ptK_any _ _ _).mono ?_
 rintro e w2 ⟨rfl,hs2⟩
 go_wp2_with fail
 refine(ptK_any _ _ _).mono ?_
 rintro e w3 ⟨rfl,hs3⟩
 go_wp2_with fail
 refine(ptK_any _ _ _).mono ?_
 rintro e w4 ⟨rfl,hs4⟩
 have HS4:=Lib.hid (((hs1.trans hs2).trans hs3).trans hs4)
 clear hs1 hs2 hs3 hs4
 go_wp2_with fail
 have hb:=Blk.new w4 37 #[.int .i64 0,.int .i64 0,.int .i64 2,.int .i64 2,.int .i64 0,.int .i64 2,.int .i64 2,.int .i64 0]
 have hsg:SegsS (w4.alloc (.cells #[.int .i64 0,.int .i64 0,.int .i64 2,.int .i64 2,.int .i64 0,.int .i64 2,.int .i64 2,.int .i64 0] 37)) (.slice (some ⟨w4.heap.size,0,none⟩) 2 2) fact2:=by
  refine⟨_,2,rfl,Nat.le_refl _,fun i hi=>⟨w4.heap.size,0,rfl,?_⟩⟩
  have:i=0∨i=1:=by simp[fact2] at hi;omega
  rcases this with rfl | rfl
  ·exact⟨hb.cell 0,hb.cell 1,hb.cell 2,hb.cell 3⟩
  ·exact⟨hb.cell 4,hb.cell 5,hb.cell 6,hb.cell 7⟩
 refine(Round_any _ fact2 _ hsg (by decide) (by decide) fOk 1 fRun fOk2).mono ?_
 rintro e w5 ⟨x,rfl,ho,hs⟩
 have HS5:Hid (Since w w5):=(HS4.out.alloc (.cells #[.int .i64 0,.int .i64 0,.int .i64 2,.int .i64 2,.int .i64 0,.int .i64 2,.int .i64 2,.int .i64 0] 37)).trans hs
 rw[fLen] at ho
 obtain⟨ax,cx,rfl⟩:=own_slice ho
 clear ho hs hb hsg HS4
 go_wp2_with fail
 go_ret
 exact⟨rfl,HS5.out⟩
end
section

end
section
open Go.RowKit Go.BigFrame
attribute [local go_sem ↓] eqPt neqPt
set_option maxRecDepth 100000 in
set_option maxHeartbeats 2000000 in
theorem points_nil(w:World):Calls Tryz.prog 80 #[.slice none 0 0] w fun e w' => e=.returned (.tuple #[.slice none 0 0,.bool true])∧Since w w' := by
 have HSO:Hid (∀ w,Calls Tryz.prog 86 #[.slice none 0 0,.func (.func 28) #[] #[]] w fun e w' => e=.returned (.tuple #[])∧w' = w):=fun w=>Go.Proofs.AnyF.slices_SortFunc_none sortPt none 0 _ w
 go_enter Tryz.func80,Tryz.ntmps80
 have hmm := @run_makeMap Tryz.prog
 go_upto_region 3 with fail
 clear hmm
 obtain⟨G,HG⟩:∃ G,G=w.heap.size:=⟨_,rfl⟩
 rw[← HG]
 refine atW (fun w' => Hid (Since w w')∧Hid (SetP w' G [])) ⟨(Since.rfl_ w).alloc _,by rw[HG];exact SetP.made w⟩ ?_
 have hGe:w.heap.size≤G:=by omega
 clear HG
 rintro w0 ⟨HS0,HP0⟩
 go_loopw [16] (fun v wr=>v=.int .i64 0∧Hid (Since w wr)∧Hid (SetP wr G [])) (fun _ _=>0)
 case atStart=>exact⟨by go_num,HS0,HP0⟩
 case round =>
  clear HS0 HP0
  obtain⟨rfl,HS,HP⟩:=hrel
  have hrz:=HS.out.size
  have hrg:=HP.out.lt
  go_wp2_with (first | (at_range;refine wpList_setrange rfl _ rfl rfl HP.out ?_;intro w1 hr0 hg0 hs0) | go_in)
  go_frame
  obtain⟨r,Hr⟩:∃ r,r=wr.heap.size:=⟨_,rfl⟩
  rw[← Hr] at hr0 hs0 ⊢
  have hsw:Since w w1:=HS.out.trans ⟨hg0.os,hg0.tape,hg0.output,hg0.size,fun i hi=>hg0.block i hi (by simp)⟩
  have HW0:=Lib.hid (And.intro hr0 hsw)
  clear HS HP hr0 hsw hg0 hs0 hrz hrg Hr
  go_loopw [11] (fun v wr=>v=.slice none 0 0∧Hid (SetR wr G r [] [])∧Hid (Since w wr)) (fun _ _=>0)
  case atStart=>exact⟨rfl,HW0.out.1,HW0.out.2⟩
  case round =>
   clear HW0
   obtain⟨rfl,HR,HS⟩:=hrel
   go_wp2_with (at_next;refine wpList_setnext rfl _ rfl rfl HR.out ?_ ?_)
   refine(HSO.out _).mono ?_
   rintro e w3 ⟨rfl,rfl⟩
   go_wp2_with fail
   refine bodyPost_ret (v:=.tuple #[.slice none 0 0,.bool true]) (by simp[results,Tryz.results80,go_sem,cSetS,cSetO,cellDrew,go_sem]) rfl ⟨rfl,HS.out⟩
set_option maxRecDepth 100000 in
set_option maxHeartbeats 2000000 in
theorem chains_nil(w:World):Calls Tryz.prog 60 #[.slice none 0 0] w fun e w' => ∃ g,e=.returned (.tuple #[.slice (some ⟨g,0,none⟩) 0 0,.int .i64 0])∧Since w w' := by
 have HCK:=Lib.hid (check_any (.slice none 0 0) [] w ⟨none,0,rfl,Nat.le_refl _,fun i hi=>absurd hi (Nat.not_lt_zero _)⟩ (by simp) (fun s hs=>by cases hs))
 obtain⟨i0,hi0,hz0,hz1,hz3⟩:=info_parts infoPts
 have HI:=Lib.hid hi0
 have HZ:=Lib.hid (And.intro hz0 (And.intro hz1 hz3))
 clear hi0 hz0 hz1 hz3
 go_enter Tryz.func60,Tryz.ntmps60
 go_wp2_with fail
 refine(HCK.out).mono ?_
 rintro e w1 ⟨rfl,hs⟩
 have HS1:=Lib.hid hs
 clear hs HCK
 go_wp2_with (at_make;refine wpList_make_full _ rfl _ _ 85 rfl w.heap.size 23 i0 _ 1 Tryz.underlying85 HI.out HZ.out.1 HZ.out.2.1 .i64 .i64 _ _ 0 rfl rfl rfl rfl (by rw[HZ.out.2.2];omega) (by unfold maxLen;omega) HS1.out.size ?_;intro w2 hown hgrow)
 obtain⟨G,HG⟩:∃ G,G=w1.heap.size:=⟨_,rfl⟩
 rw[← HG]
 have HS2:Hid (Since w w2):=HS1.out.trans ⟨hgrow.os,hgrow.tape,hgrow.output,hgrow.size,fun i hi=>hgrow.block i hi (by simp)⟩
 clear hown hgrow HG HS1
 go_loopw [25] (fun v wr=>v=.int .i64 0∧Hid (Since w wr)) (fun _ _=>0)
 case atStart=>exact⟨by go_num,HS2⟩
 case round =>
  clear HS2
  obtain⟨rfl,HS⟩:=hrel
  go_wp2_with fail
  obtain⟨wy,rfl⟩:∃ wy,wy=wr:=⟨_,rfl⟩
  go_loopg [8] 1 (fun gk v8 wr=>v8=.bool (decide (gk=1))∧gk≤1∧Hid (Since w wr))
  case atStart=>exact⟨by simp,Nat.le_refl _,HS⟩
  case round =>
   clear HS
   obtain⟨rfl,hgk,HS⟩:=hrel
   rcases Nat.lt_or_ge gk 1 with h | h
   ·have hb:decide (gk=1)=false:=by rw[decide_eq_false_iff_not];omega
    rw[hb]
    go_wp2_with fail
    refine bodyPost_ret (v:=.tuple #[.slice (some ⟨G,0,none⟩) 0 0,.int .i64 0]) (by simp[results,Tryz.results60,go_sem,cSetS,cSetO,cellDrew,go_sem]) rfl ⟨G,rfl,HS.out⟩
   ·have hb:decide (gk=1)=true:=by rw[decide_eq_true_eq];omega
    rw[hb]
    go_wp2_with fail
    refine(edges_nil _ _ _).mono ?_
    rintro e w4 ⟨rfl,hs⟩
    have HS4:=Lib.hid (HS.out.trans hs)
    clear hs HS
    go_wp2_with fail
    refine(points_nil _).mono ?_
    rintro e w5 ⟨rfl,hs⟩
    have HS5:=Lib.hid (HS4.out.trans hs)
    clear hs HS4
    go_wp2_with fail
    obtain⟨wz,rfl⟩:∃ wz,wz=w5:=⟨_,rfl⟩
    go_loopw [50,8] (fun v50 v8 wr=>v50=.int .i64 0∧v8=.bool false∧Hid (Since w wr)) (fun _ _ _=>0)
    case atStart=>exact⟨by go_num,rfl,HS5⟩
    case round =>
     clear HS5
     obtain⟨rfl,rfl,HS⟩:=hrel
     go_wp2_with fail
     go_roundg 0
     case measure=>omega
     case rel=>exact⟨by simp,by omega,HS⟩
end
section
open Go.RowKit Go.BigFrame
attribute [local go_sem ↓] eqPt neqPt
end
section
open Go.RowKit Go.BigFrame
theorem mline2(l:List Int):lineP l=[(ptOf l).1,mNext [(ptOf l).1] (ptOf (ptOf l).2).1]:=by simp[lineP,mlineGo]
theorem segO_bd(l:List Int):((-41≤(segO l).1.1∧(segO l).1.1≤41) ∧ -41≤(segO l).1.2∧(segO l).1.2≤41)∧(-41≤(segO l).2.1∧(segO l).2.1≤41) ∧ -41≤(segO l).2.2∧(segO l).2.2≤41:=by
 have h1:=ptOf_bd l
 have h2:=ptOf_bd (ptOf l).2
 have e1:(segO l).1=(ptOf l).1:=by unfold segO;rw[mline2];rfl
 have e2:(segO l).2=mNext [(ptOf l).1] (ptOf (ptOf l).2).1:=by unfold segO;rw[mline2];rfl
 rw[e1,e2]
 unfold mNext
 split <;> (try dsimp only) <;> omega
theorem segsK_at{l:List Int}{k i:Nat}(h:i<k):sgAt (segsK l k) i=segO (restS i l):=by simp[sgAt,segsK,List.getD,h]
theorem few_hot{l:List Sg}(h:l.length≤12):(hotL (edgL (cs0 l))).length≤1000:=by
 have hE:(edgL (cs0 l)).length≤12:=by
  unfold edgL
  have h1:=cmpG_le (srtG (edgA (cs0 l) (cs0 l).length))
  have h2:(srtG (edgA (cs0 l) (cs0 l).length)).length=(edgA (cs0 l) (cs0 l).length).length:=by unfold srtG;simp
  have h3:=edgA_len (cs:=cs0 l) (M:=1) (fun i hi=>by rw[cs0_at (by simpa[cs0] using hi)];simp) (cs0 l).length (Nat.le_refl _)
  have h4:(cs0 l).length=l.length:=by simp[cs0]
  omega
 have h1:=outS_len (edgL (cs0 l)) 12 (edgL (cs0 l)).length hE
 have h2:(hotL (edgL (cs0 l))).length≤(outS (edgL (cs0 l)) (edgL (cs0 l)).length).length:=hull_len_le fun p hp=>hp
 have h3:=Nat.mul_le_mul_right (12+2) hE
 omega
end
end Go.Proofs.YtdnccjdlmepafaaGreat
