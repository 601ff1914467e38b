/-
  The walk of TopoBack; The walk of TopoBack, for whatever lists; The arguments of laws, read as data: lists of numbers, points, boxes, numbers. Conditions: those that each lemma names.
-/
import Derived.Test.YtdnccjdlmepafaaGreatK30
import Derived.Test.YtdnccjdlmepafaaGreatK31
import Derived.Test.YtdnccjdlmepafaaGreatRows
import Derived.Test.YtdnccjdlmepafaaGreatK03
import Derived.ProofKit
import Derived.OpenShut
import Derived.ChangeOld
import Derived.SizedLaws
import Derived.Lib.SmallJoins
import Derived.Deep.SlicePairs
set_option linter.unusedSimpArgs false
set_option linter.unusedVariables false
set_option linter.constructorNameAsVariable false
namespace Go.Proofs.YtdnccjdlmepafaaGreat
section
open Go.RowKit Go.BigFrame
attribute [local go_sem ↓] eqPt neqPt
theorem tb_perm{E:List Sg}{p q:Pt2}(hE:RndOk E):(tbL (E++[(p,q)])).Perm (ornt (p,q) :: E):=by
 have e:(E++[(p,q)]).map ornt=E++[ornt (p,q)]:=by
  rw[List.map_append]
  congr 1
  exact(List.map_congr_left fun s hs=>ornt_lx (hE.lt s hs)).trans (List.map_id' E)
 unfold tbL srtG
 rw[e]
 exact(List.mergeSort_perm _ _).trans List.perm_append_comm
theorem eraseIdx_perm:∀ {l:List Sg} {i:Nat} (h:i<l.length),(l[i] :: l.eraseIdx i).Perm l
 | a :: l,0,_=>.refl _
 | a :: l,i+1,h=>(List.Perm.swap _ _ _).trans ((eraseIdx_perm (l:=l) (i:=i) (by simpa using h)).cons a)
theorem tb_ins{E:List Sg}{p q:Pt2}(hE:RndOk E)(hr:RndOk (tbL (E++[(p,q)]))) :
  ∃ i,i<(tbL (E++[(p,q)])).length∧sgAt (tbL (E++[(p,q)])) i=ornt (p,q)∧(∀ j,j<i→sgAt (tbL (E++[(p,q)])) j≠ornt (p,q))∧tbL ((tbL (E++[(p,q)])).eraseIdx i)=E:=by
 have hp:=tb_perm (p:=p) (q:=q) hE
 obtain⟨i,hi,e⟩:=List.getElem_of_mem (hp.mem_iff.2 (List.mem_cons_self ..))
 refine⟨i,hi,by rw[sgAt_get hi];exact e,fun j hj k=>?_,?_⟩
 ·rw[sgAt_get (by omega)] at k
  have:=(List.getElem_inj (h₀:=by omega) (h₁:=hi) (srtG_nodup hr.srt)).1 (k.trans e.symm)
  omega
 ·refine tbL_eq hE ?_
  have h1:(ornt (p,q) :: (tbL (E++[(p,q)])).eraseIdx i).Perm (tbL (E++[(p,q)])):=by
   have:=eraseIdx_perm hi
   rw[e] at this
   exact this
  have h2:=(List.perm_cons _).1 (h1.trans hp)
  have e2:((tbL (E++[(p,q)])).eraseIdx i).map ornt=(tbL (E++[(p,q)])).eraseIdx i :=
   (List.map_congr_left fun s hs=>ornt_lx (hr.lt s (List.mem_of_mem_eraseIdx hs))).trans (List.map_id' _)
  rw[e2]
  exact h2.symm
theorem own_intsB{w:World}{N0 n:Nat}{v:Value}{l:List Int}(h:w.ownsRow N0 3 1 v n (l.map iV))(hn:l.length=n)(h0:0<n):IntsB w v l w.heap.size:=by
 obtain⟨g,c,rfl⟩:=own_gc h h0
 obtain⟨-,⟨h1,-⟩ | ⟨g',cap,cur,h1,hb,hg,hc,hm,hs,ht⟩⟩:=id h
 ·cases h1
 ·injection h1 with h1 _ h3
  subst h3
  refine⟨some ⟨g,0,none⟩,c,by rw[hn],by omega,hm,fun i hi=>⟨g,0,rfl,(h.lt g rfl).2,?_⟩⟩
  rw[Nat.zero_add,h.cellAt i (by omega)]
  simp[iV,List.getD,hi]
set_option maxRecDepth 100000 in
set_option maxHeartbeats 4000000 in
theorem TBack_walk(v vk:Value)(l k:List Int)(w:World)(hi:IntsB w v l w.heap.size)(hk:IntsB w vk k w.heap.size)(hlen:l.length≤9223372036854775807) :
  Calls Tryz.prog 8 #[v,vk] w fun e w' => e=.returned (.bool true)∧Since w w' := by
 have HBL:=Lib.hid (Built_any v l w hi hlen)
 have HPK:=Lib.hid (fun w' (s:Since w w')=>Point_any vk k w' ((hk.since s).mono s.size))
 have hkl:k.length≤9223372036854775807:=by obtain⟨a,c,-,h1,h2,-⟩:=hk;exact Nat.le_trans h1 (Nat.le_trans h2 (by decide))
 have HK:=Lib.hid hk
 clear hi
 obtain⟨ak,ck,hvk,hc1,hc2,-⟩:=hk
 subst hvk
 go_enter Tryz.func8,Tryz.ntmps8
 go_wp2_with fail
 refine(HBL.out).mono ?_
 rintro e w1 ⟨x,vP,vH,vF,E,P,H,F,rfl,hs,hx,hE,hl,hm,hb⟩
 have HMR:=Lib.hid hm.read
 obtain⟨⟨aP,cP,rfl,-⟩,⟨aH,cH,rfl,-⟩,⟨aF,cF,rfl,-⟩⟩:=hm.read
 obtain⟨aX,cX,hvX⟩:=hx.slice
 subst hvX
 have HS1:=Lib.hid hs
 have HE:=Lib.hid hE
 have HBD:=Lib.hid hb
 have HBB:=Lib.hid (hb.bds hE (Nat.le_trans hl (by decide)))
 clear hs hx hm hb hE HBL
 obtain⟨n,HN⟩:∃ n,Hid (n=E.length):=⟨_,rfl⟩
 obtain⟨nP,HNP⟩:∃ n,Hid (n=P.length):=⟨_,rfl⟩
 obtain⟨nH,HNH⟩:∃ n,Hid (n=H.length):=⟨_,rfl⟩
 obtain⟨nF,HNF⟩:∃ n,Hid (n=F.length):=⟨_,rfl⟩
 obtain⟨nk,HNK⟩:∃ n,Hid (n=k.length):=⟨_,rfl⟩
 rw[← HNP.out,← HNH.out,← HNF.out] at HMR
 rw[← HNP.out,← HNH.out,← HNF.out,← HN.out,← HNK.out]
 rw[← HNK.out] at hc1 hkl
 obtain⟨B,HB⟩:∃ B,Hid (B=w1.heap.size):=⟨_,rfl⟩
 go_upto_region 2 with fail
 rw[← HB.out]
 refine atW (fun w' => Hid (Since w1 w' ∧ Blk w' B 26 #[.slice aP nP cP,.slice aH nH cH,.slice aF nF cF])) ⟨(Since.rfl_ w1).alloc _,Blk.new' HB.out⟩ ?_
 rintro w2 HW2
 obtain⟨n1,hn1⟩:∃ n1,Hid (n1=min nk 1):=⟨_,rfl⟩
 have hmin:min (nk:Int) 1=(n1:Int):=by have:=hn1.out;omega
 have h1k:n1≤nk:=by have:=hn1.out;omega
 have h11:n1≤1:=by have:=hn1.out;omega
 have h1c:n1≤ck:=by omega
 have j0:(0:Int)≤(n1:Int):=by omega
 have j1:(n1:Int)≤(ck:Int):=by omega
 obtain⟨p,hp⟩:∃ p:Pt2,Hid (p=(ptOf k).1):=⟨_,rfl⟩
 obtain⟨q,hq⟩:∃ q:Pt2,Hid (q=(ptOf (k.take 1++[7,50])).1):=⟨(ptOf (k.take 1++[7,50])).1,rfl⟩
 have HPK:Hid (∀ w',Since w w' → Calls Tryz.prog 21 #[.slice ak nk ck] w' fun e w2=>e=.returned (.agg #[.int .i64 p.1,.int .i64 p.2])∧Since w' w2):=fun w' s=>by rw[hp.out,HNK.out];exact HPK.out w' s
 obtain⟨N0,HN0⟩:∃ N0,Hid (N0=w2.heap.size):=⟨_,rfl⟩
 obtain⟨xs,hxs⟩:∃ xs,Hid (xs=(k.take 1).map iV):=⟨_,rfl⟩
 have HSW:Hid (Since w w2):=HS1.out.trans HW2.out.1
 have HXL:Hid (xs.length=n1):=by show _=_;rw[hxs.out,List.length_map,List.length_take,← HNK.out,hn1.out];omega
 have HCL:Hid (∀ w',Since w w' → Calls Tryz.prog 26 #[.slice ak n1 ck] w' fun e w2=>∃ x,e=.returned x∧w2.ownsRow w'.heap.size 3 1 x n1 xs∧Since w' w2):=fun w' s=>by
  obtain⟨a',c',e',-,-,hc⟩:=HK.out
  injection e' with e1 _ e3
  subst e1 e3
  refine CloneI_any h11 HXL.out (fun ad ha j u hu=>?_) (fun ha=>?_) (fun u hu=>?_)
  ·have hj:=(List.getElem?_eq_some_iff.1 hu).1
   rw[HXL.out] at hj
   obtain rfl:j=0:=by omega
   obtain⟨g,o,ha',-,hcell⟩:=hc 0 (by rw[← HNK.out];omega)
   rw[ha] at ha'
   injection ha' with ha'
   subst ha'
   rw[Addr.add_lit]
   refine(keepC s _ _ hcell).trans ?_
   rw[← hu,hxs.out]
   cases k with
   | nil=>rw[HNK.out] at h1k;simp at h1k;omega
   | cons z k=>rfl
  ·rcases Nat.eq_zero_or_pos n1 with e | e
   ·exact e
   ·obtain⟨g,o,ha',-⟩:=hc 0 (by rw[← HNK.out];omega)
    rw[ha] at ha'
    cases ha'
  ·rw[hxs.out] at hu
   obtain⟨z,-,rfl⟩:=List.mem_map.1 hu
   rfl
 have HP2:Hid (∀ (w' : World) v,w'.ownsRow N0 3 1 v (n1+2) (xs++nwL)→Calls Tryz.prog 21 #[v] w' fun e w2=>e=.returned (.agg #[.int .i64 q.1,.int .i64 q.2])∧Since w' w2):=fun w' v h=>by
  rw[hq.out]
  have e:xs++nwL=(k.take 1++[7,50]).map iV:=by rw[List.map_append,hxs.out];rfl
  rw[e] at h
  exact Point_any v _ w' (own_intsB h (by rw[List.length_append,← HXL.out,hxs.out,List.length_map];rfl) (by omega))
 go_upto_region 4 with fail
 letI RH:RegG:=gkH N0 n1 xs
 have HG0:∀ w',SinceG w2 w' → Since w2 w' := fun w' h=>GK.since h HN0.out.symm
 have HG0:=Lib.hid HG0
 apply region_factsG 13 (fun w' => SinceG w2 w')
 case hm=>kernel_rfl
 case hB=>kernel_rfl
 case hS=>exact(SinceG.rfl_ w2).drew
 case hmono=>exact(fun _ _ h k=>h.trans k)
 case hTb=>exact(fun g hg=>by show N0≤g;have:=HN0.out;omega)
 case h =>
 simp only[List.take_succ_cons,List.take_zero,List.drop_succ_cons,List.drop_zero]
 (apply wpO_detG;(case hw=>rfl);(case h=>intro hFm wx hS_ hF_ K hK;go_big_quiet_op;first | exact hK _ rfl | (apply Exists.intro;refine⟨fun _=>?_,?_⟩;(focus (first | (intro hC;have hC:=hC.out;(try simp only[hC,Result.andThen]);first | exact⟨True.intro,rfl⟩ | exact⟨rfl,rfl⟩ | rfl)));exact hK _ rfl));(case' k=>simp only[Act.put,List.setIfInBounds_toArray,List.set_cons_succ,List.set_cons_zero,List.cons_append,List.nil_append]))
 (apply wpO_detG;(case hw=>rfl);(case h=>intro hFm wx hS_ hF_ K hK;go_big_quiet_op;first | exact hK _ rfl | (apply Exists.intro;refine⟨fun _=>?_,?_⟩;(focus (first | (intro hC;go_at_call 21;(with_reducible refine(HPK.out _ (HSW.out.trans (HG0.out _ hC.out.1))).mono ?_);rintro e w' ⟨rfl,hb⟩;refine⟨rfl,?_⟩;exact cls_callG (fun _ _ h k=>h.trans k) hFm hC hb)));exact hK _ rfl));(case' k=>simp only[Act.put,List.setIfInBounds_toArray,List.set_cons_succ,List.set_cons_zero,List.cons_append,List.nil_append]))
 iterate 5 (apply wpO_detG;(case hw=>rfl);(case h=>intro hFm wx hS_ hF_ K hK;go_big_quiet_op;first | exact hK _ rfl | (apply Exists.intro;refine⟨fun _=>?_,?_⟩;(focus (first | (intro hC;have hC:=hC.out;(try simp only[hC,Result.andThen]);first | exact⟨True.intro,rfl⟩ | exact⟨rfl,rfl⟩ | rfl)));exact hK _ rfl));(case' k=>simp only[Act.put,List.setIfInBounds_toArray,List.set_cons_succ,List.set_cons_zero,List.cons_append,List.nil_append]))
 apply wpO_anyG (R:=(fun v w' => w'.ownsRow N0 3 1 v n1 xs))
 case hR=>exact(fun _ _ _ h k=>k.pre _ h)
 case hw=>rfl
 case h =>
  intro wx hS_ hF_
  unfold runVG
  (
   have hs2:=HG0.out _ hS_
   simp[execOp,go_sem,Result.andThen]
   refine(HCL.out wx (HSW.out.trans hs2)).mono ?_
   rintro e w' ⟨x,rfl,ho,hs⟩
   exact⟨x,rfl,ho.mono (by rw[HN0.out];exact hs2.size),.of hs⟩)
 case k =>
 intro x31
 simp only[Act.put,List.setIfInBounds_toArray,List.set_cons_succ,List.set_cons_zero,List.cons_append,List.nil_append]
 apply wpO_anyG (R:=(fun v w' => ∃ g,v=.slice (some ⟨g,0,none⟩) 2 2∧Blk w' g 3 nwL.toArray))
 case hR=>exact(fun _ _ _ h k=>by obtain⟨g,e,b⟩:=h;exact⟨g,e,k.lit g b⟩)
 case hw=>rfl
 case h =>
  intro wx hS_ hF_
  unfold runVG
  (
   simp[execOp,go_sem,Result.andThen]
   exact⟨Blk.new wx _ _,.of ((Since.rfl_ wx).alloc _)⟩)
 case k =>
 intro x32
 simp only[Act.put,List.setIfInBounds_toArray,List.set_cons_succ,List.set_cons_zero,List.cons_append,List.nil_append]
 apply wpO_anyG (R:=(fun v w' => w'.ownsRow N0 3 1 v (n1+2) (xs++nwL)))
 case hR=>exact(fun _ _ _ h k=>k.post _ h)
 case hw=>rfl
 case h =>
  intro wx hS_ hF_
  (
   obtain⟨g,e,b⟩:=factsOf_at (j:=8) (by decide) hF_
   have h7:=factsOf_at (j:=7) (by decide) hF_
   subst e
   refine runVG_app _ _ _ rfl rfl rfl ?_
   obtain⟨v',w',r1,r2,r3⟩:=gk_app h11 h7 (by rw[HN0.out];exact(HG0.out _ hS_).size) b _ 2
   exact⟨v',w',r1,r2,r3⟩)
 case k =>
 intro x33
 simp only[Act.put,List.setIfInBounds_toArray,List.set_cons_succ,List.set_cons_zero,List.cons_append,List.nil_append]
 (apply wpO_detG;(case hw=>rfl);(case h=>intro hFm wx hS_ hF_ K hK;go_big_quiet_op;first | exact hK _ rfl | (apply Exists.intro;refine⟨fun _=>?_,?_⟩;(focus (first | (intro hC;have h9:World.ownsRow _ N0 3 1 x33 (n1+2) (xs++nwL):=factsOf_at (j:=9) (by decide) hC.out.2.1;go_at_call 21;(with_reducible refine(HP2.out _ _ h9).mono ?_);rintro e w' ⟨rfl,hb⟩;refine⟨rfl,?_⟩;exact cls_callG (fun _ _ h k=>h.trans k) hFm hC hb)));exact hK _ rfl));(case' k=>simp only[Act.put,List.setIfInBounds_toArray,List.set_cons_succ,List.set_cons_zero,List.cons_append,List.nil_append]))
 apply wpO_mkG (f:=(fun g=>.pointer (some ⟨g,0,none⟩))) (t:=36) (cs := #[.int .i64 0,.int .i64 0])
 case hk=>(show(36:TypeId)≠3;decide)
 case hi=>(intro g g' h;simpa using h)
 case hw=>rfl
 case h=>(intro w;simp[go_sem])
 case k =>
 intro g8
 simp only[Act.put,List.setIfInBounds_toArray,List.set_cons_succ,List.set_cons_zero,List.cons_append,List.nil_append]
 apply wpO_mkG (f:=(fun g=>.pointer (some ⟨g,0,none⟩))) (t:=36) (cs := #[.int .i64 0,.int .i64 0])
 case hk=>(show(36:TypeId)≠3;decide)
 case hi=>(intro g g' h;simpa using h)
 case hw=>rfl
 case h=>(intro w;simp[go_sem])
 case k =>
 intro g9
 simp only[Act.put,List.setIfInBounds_toArray,List.set_cons_succ,List.set_cons_zero,List.cons_append,List.nil_append]
 refine wpO_nilG ?_
 intro w3 hS hF hB
 (try simp[allF] at hF)
 (try simp[List.pairwise_cons] at hB)
 obtain⟨-,-,-,⟨hb8,h8,-⟩,hb9,h9,-⟩:=hF
 have HS3:Hid (Since w2 w3):=HG0.out _ hS
 have hBl:=HW2.out.2.lt
 have hB8:B<g8:=by omega
 have hB9:B<g9:=by omega
 have hw2s:w1.heap.size≤w2.heap.size:=HW2.out.1.size
 have hw8:w1.heap.size≤g8:=by omega
 have hw9:w1.heap.size≤g9:=by omega
 have c0:=hb8.cell 0
 have c1:=hb8.cell 1
 have d0:=hb9.cell 0
 have d1:=hb9.cell 1
 have e0:=hb8.frozen 0
 have e1:=hb8.frozen 1
 have f0:=hb9.frozen 0
 have f1:=hb9.frozen 1
 simp only[List.getElem?_toArray,List.getElem?_cons_zero,List.getElem?_cons_succ] at c0 c1 d0 d1
 have HWW:Hid (Since w1 w3∧Blk w3 B 26 #[.slice aP nP cP,.slice aH nH cH,.slice aF nF cF]):=⟨HW2.out.1.trans HS3.out,HS3.out.blk HW2.out.2⟩
 have H89:=Lib.hid (And.intro hb8 hb9)
 clear hb8 hb9 hS HG0 HP2 HCL HXL hxs hmin h1k h11 h1c j0 j1 hn1 HPK HK HW2 HS3 hBl hw2s h8 h9
 go_upto_region 5 with fail
 refine atW (fun w' => Hid (Since w1 w' ∧ Blk w' B 26 #[.slice aP nP cP,.slice aH nH cH,.slice aF nF cF]∧Blk w' g8 36 #[.int .i64 p.1,.int .i64 p.2]∧Blk w' g9 36 #[.int .i64 q.1,.int .i64 q.2]))
  ⟨(((HWW.out.1.setCell (p:=⟨g8,0,none⟩) hw8 _).setCell (p:=⟨g8,1,none⟩) hw8 _).setCell (p:=⟨g9,0,none⟩) hw9 _).setCell (p:=⟨g9,1,none⟩) hw9 _,(((HWW.out.2.far (by dsimp only;omega) _).far (by dsimp only;omega) _).far (by dsimp only;omega) _).far (by dsimp only;omega) _,((((H89.out.1.set_ 0 _).set_ 1 _).far (by dsimp only;omega) _).far (by dsimp only;omega) _),((((H89.out.2.far (by dsimp only;omega) _).far (by dsimp only;omega) _).set_ 0 _).set_ 1 _)⟩ ?_
 clear c0 c1 d0 d1 e0 e1 f0 f1 HWW H89
 rintro w4 HW4
 have hpo:okP p.1 p.2=true:=by rw[okP_iff,hp.out];have:=ptOf_bd k;omega
 have hqo:okP q.1 q.2=true:=by rw[okP_iff,hq.out];have:=ptOf_bd (k.take 1++[7,50]);omega
 have HAD:Hid (∀ w',Since w1 w' → Calls Tryz.prog 27 #[.agg #[.slice aP nP cP,.slice aH nH cH,.slice aF nF cF],.agg #[.int .i64 p.1,.int .i64 p.2],.agg #[.int .i64 q.1,.int .i64 q.2]] w' fun e w2=>((p=q∧e=.returned (.tuple #[.agg #[nilV,nilV,nilV],.int .i64 3]))∨(p≠q∧TbR w'.heap.size (E++[(p,q)]) w2 e))∧Since w' w2):=fun w' s=>TAdd_any _ _ _ E P H F p q w' (HMR.out.since s) HE.out (Nat.le_trans hl (by decide)) HBD.out hpo hqo
 have m0:w4.cell? ⟨B,0,none⟩=some (.slice aP nP cP):=HW4.out.2.1.cell 0
 have m1:w4.cell? ⟨B,1,none⟩=some (.slice aH nH cH):=HW4.out.2.1.cell 1
 have m2:w4.cell? ⟨B,2,none⟩=some (.slice aF nF cF):=HW4.out.2.1.cell 2
 have p0:w4.cell? ⟨g8,0,none⟩=some (.int .i64 p.1):=HW4.out.2.2.1.cell 0
 have p1:w4.cell? ⟨g8,1,none⟩=some (.int .i64 p.2):=HW4.out.2.2.1.cell 1
 have q0:w4.cell? ⟨g9,0,none⟩=some (.int .i64 q.1):=HW4.out.2.2.2.cell 0
 have q1:w4.cell? ⟨g9,1,none⟩=some (.int .i64 q.2):=HW4.out.2.2.2.cell 1
 clear hpo hqo hp hq
 go_wp2_with fail
 refine(HAD.out _ HW4.out.1).mono ?_
 rintro e w5 ⟨hr,hs⟩
 have HW5:Hid (Since w1 w5∧Blk w5 B 26 #[.slice aP nP cP,.slice aH nH cH,.slice aF nF cF]∧Blk w5 g8 36 #[.int .i64 p.1,.int .i64 p.2]∧Blk w5 g9 36 #[.int .i64 q.1,.int .i64 q.2]):=⟨HW4.out.1.trans hs,hs.blk HW4.out.2.1,hs.blk HW4.out.2.2.1,hs.blk HW4.out.2.2.2⟩
 have h84:g8<w4.heap.size:=HW4.out.2.2.1.lt
 have h94:g9<w4.heap.size:=HW4.out.2.2.2.lt
 clear m0 m1 m2 p0 p1 q0 q1 hs HAD HW4
 rcases hr with⟨hpq,rfl⟩ | ⟨hpq,⟨hr,vP',vH',vF',P',H',F',rfl,hm,hbl⟩ | ⟨-,rfl⟩⟩
 ·have he:(p.1 == q.1 && p.2 == q.2)=true:=by rw[hpq];simp
  clear hpq
  unfold nilV
  go_upto_region 6 with fail
  refine atW (fun w' => Hid (Since w1 w' ∧ Blk w' g8 36 #[.int .i64 p.1,.int .i64 p.2]∧Blk w' g9 36 #[.int .i64 q.1,.int .i64 q.2])) ⟨HW5.out.1.alloc _,HW5.out.2.2.1.alloc _,HW5.out.2.2.2.alloc _⟩ ?_
  rintro w6 HW6
  have p0:w6.cell? ⟨g8,0,none⟩=some (.int .i64 p.1):=HW6.out.2.1.cell 0
  have p1:w6.cell? ⟨g8,1,none⟩=some (.int .i64 p.2):=HW6.out.2.1.cell 1
  have q0:w6.cell? ⟨g9,0,none⟩=some (.int .i64 q.1):=HW6.out.2.2.cell 0
  have q1:w6.cell? ⟨g9,1,none⟩=some (.int .i64 q.2):=HW6.out.2.2.cell 1
  have HSF:Hid (Since w w6):=HS1.out.trans HW6.out.1
  go_wp2_with fail
  go_ret
  exact⟨by simp,HSF.out⟩
 ·obtain⟨aP',cP',hvP'⟩:∃ a c,vP' = .slice a P'.length c:=Rws.slice hm (i:=0) rfl
  obtain⟨aH',cH',hvH'⟩:∃ a c,vH' = .slice a H'.length c:=Rws.slice hm (i:=1) rfl
  obtain⟨aF',cF',hvF'⟩:∃ a c,vF' = .slice a F'.length c:=Rws.slice hm (i:=2) rfl
  subst hvP' hvH' hvF'
  obtain⟨i,hiL,his,hij,hie⟩:=tb_ins HE.out hr
  obtain⟨M,HM⟩:∃ M,Hid (M=tbL (E++[(p,q)])):=⟨_,rfl⟩
  rw[← HM.out] at hr hbl hiL his hij hie
  have hML:M.length=n+1:=by rw[HM.out,tbL_len,List.length_append,HN.out];rfl
  obtain⟨s,hs⟩:∃ s,Hid (s=ornt (p,q)):=⟨_,rfl⟩
  rw[← hs.out] at his hij
  have hn270:n≤270:=by rw[HN.out];exact hl
  have HMS5:=Lib.hid hm
  have HLN:Hid (∀ w',MapR w' (.slice aP' P'.length cP') (.slice aH' H'.length cH') (.slice aF' F'.length cF') P' H' F' → Calls Tryz.prog 15 #[.agg #[.slice aP' P'.length cP',.slice aH' H'.length cH',.slice aF' F'.length cF']] w' fun e w2=>∃ x,e=.returned (.tuple #[x,.int .i64 0])∧SegsS w2 x M∧Since w' w2):=fun w' z =>
   (LinesO_any _ _ _ M P' H' F' w' z hr (by omega) hbl).mono fun e w2 ⟨x,x1,x2,x3⟩=>⟨x,x1,own_segs x2 (by omega),x3⟩
  obtain⟨h,hh⟩:∃ h,Hid (h=2*i):=⟨_,rfl⟩
  have HDR:Hid (∀ w',MapR w' (.slice aP' P'.length cP') (.slice aH' H'.length cH') (.slice aF' F'.length cF') P' H' F' → Calls Tryz.prog 30 #[.agg #[.slice aP' P'.length cP',.slice aH' H'.length cH',.slice aF' F'.length cF'],.int .i64 h] w' fun e w2=>∃ vP vH vF,e=.returned (.tuple #[.agg #[vP,vH,vF],.int .i64 0])∧MapR w2 vP vH vF P H F∧Since w' w2):=fun w' z =>
   (TDrop_any _ _ _ M P' H' F' h i w' z hr (by omega) hbl (by rw[hh.out];omega) hiL).mono fun e w2 ⟨x1,x2⟩=>by
    rcases x1 with⟨y1,vP,vH,vF,P2,H2,F2,y2,y3,y4⟩ | ⟨y1,-⟩
    ·rw[hie] at y4
     obtain⟨r1,r2,r3⟩:=BldR.uniq HE.out (Nat.le_trans hl (by decide)) HBD.out y4
     subst r1 r2 r3
     exact⟨vP,vH,vF,y2,y3.read,x2⟩
    ·rw[hie] at y1
     exact absurd HE.out y1
  have HIX:Hid (∀ w' x,SegsS w' x M→Calls Tryz.prog 29 #[x,.agg #[.int .i64 s.1.1,.int .i64 s.1.2,.int .i64 s.2.1,.int .i64 s.2.2]] w' fun e w2=>e=.returned (.int .i64 (i:Nat))∧Since w' w2):=fun w' x z=>IndexG_any z (by omega) hiL his hij
  obtain⟨m,Hm⟩:∃ m,Hid (m=M.length):=⟨_,rfl⟩
  have hi3:i≤3000:=by omega
  clear hiL his hij hie hr hbl hm hML hpq
  obtain⟨nP',HNP'⟩:∃ n,Hid (n=P'.length):=⟨_,rfl⟩
  obtain⟨nH',HNH'⟩:∃ n,Hid (n=H'.length):=⟨_,rfl⟩
  obtain⟨nF',HNF'⟩:∃ n,Hid (n=F'.length):=⟨_,rfl⟩
  rw[← HNP'.out,← HNH'.out,← HNF'.out] at HLN HDR HMS5
  rw[← HNP'.out,← HNH'.out,← HNF'.out]
  go_upto_region 6 with fail
  obtain⟨G,HG⟩:∃ G,Hid (G=w5.heap.size):=⟨_,rfl⟩
  rw[← HG.out]
  refine atW (fun w' => Hid (Since w1 w' ∧ Blk w' B 26 #[.slice aP nP cP,.slice aH nH cH,.slice aF nF cF]∧Blk w' g8 36 #[.int .i64 p.1,.int .i64 p.2]∧Blk w' g9 36 #[.int .i64 q.1,.int .i64 q.2]∧Blk w' G 26 #[.slice aP' nP' cP',.slice aH' nH' cH',.slice aF' nF' cF'])∧Hid (MapS w' w4.heap.size (.slice aP' nP' cP') (.slice aH' nH' cH') (.slice aF' nF' cF') P' H' F')) ⟨⟨HW5.out.1.alloc _,HW5.out.2.1.alloc _,HW5.out.2.2.1.alloc _,HW5.out.2.2.2.alloc _,Blk.new' HG.out⟩,HMS5.out.since ((Since.rfl_ w5).alloc _)⟩ ?_
  rintro w6 ⟨HW6,HM6⟩
  have HC:=Lib.hid (fun w=>Cmp_any p q w)
  obtain⟨x,HX⟩:∃ x,Hid (x=cmpP p q):=⟨_,rfl⟩
  rw[← HX.out] at HC
  have p0:w6.cell? ⟨g8,0,none⟩=some (.int .i64 p.1):=HW6.out.2.2.1.cell 0
  have p1:w6.cell? ⟨g8,1,none⟩=some (.int .i64 p.2):=HW6.out.2.2.1.cell 1
  have q0:w6.cell? ⟨g9,0,none⟩=some (.int .i64 q.1):=HW6.out.2.2.2.1.cell 0
  have q1:w6.cell? ⟨g9,1,none⟩=some (.int .i64 q.2):=HW6.out.2.2.2.1.cell 1
  have hG8:g8<G:=by rw[HG.out];exact HW5.out.2.2.1.lt
  have hG9:g9<G:=by rw[HG.out];exact HW5.out.2.2.2.lt
  clear HW5 HMS5
  go_wp2_with fail
  refine(HC.out _).mono ?_
  rintro e w7 ⟨rfl,hq2⟩
  have hs7:Since w6 w7:=by
   obtain⟨z,os,rfl⟩:=hq2
   exact grown_since _ _ _
  have HW7:Hid (Since w1 w7∧Blk w7 B 26 #[.slice aP nP cP,.slice aH nH cH,.slice aF nF cF]∧Blk w7 g8 36 #[.int .i64 p.1,.int .i64 p.2]∧Blk w7 g9 36 #[.int .i64 q.1,.int .i64 q.2]∧Blk w7 G 26 #[.slice aP' nP' cP',.slice aH' nH' cH',.slice aF' nF' cF']):=⟨HW6.out.1.trans hs7,hs7.blk HW6.out.2.1,hs7.blk HW6.out.2.2.1,hs7.blk HW6.out.2.2.2.1,hs7.blk HW6.out.2.2.2.2⟩
  have HM7:Hid (MapS w7 w4.heap.size (.slice aP' nP' cP') (.slice aH' nH' cH') (.slice aF' nF' cF') P' H' F'):=HM6.out.since hs7
  clear p0 p1 q0 q1 hs7 hq2 HW6 HM6 HC
  by_cases hx:0<x
  case' pos =>
   have hx1:decide (0<x)=true:=by rw[decide_eq_true_eq];exact hx
   have hsq:s=(q,p):=by rw[hs.out];unfold ornt;rw[if_pos (by rw[← HX.out];exact hx)]
   clear hx
   have p0:w7.cell? ⟨g8,0,none⟩=some (.int .i64 p.1):=HW7.out.2.2.1.cell 0
   have p1:w7.cell? ⟨g8,1,none⟩=some (.int .i64 p.2):=HW7.out.2.2.1.cell 1
   have q0:w7.cell? ⟨g9,0,none⟩=some (.int .i64 q.1):=HW7.out.2.2.2.1.cell 0
   have q1:w7.cell? ⟨g9,1,none⟩=some (.int .i64 q.2):=HW7.out.2.2.2.1.cell 1
   have e0:=HW7.out.2.2.1.frozen 0
   have e1:=HW7.out.2.2.1.frozen 1
   have f0:=HW7.out.2.2.2.1.frozen 0
   have f1:=HW7.out.2.2.2.1.frozen 1
   have HSQ:=Lib.hid hsq
   clear hsq
   go_upto_region 10 with fail
   refine atW (fun w' => Hid (Since w1 w' ∧ Blk w' B 26 #[.slice aP nP cP,.slice aH nH cH,.slice aF nF cF]∧Blk w' g8 36 #[.int .i64 s.1.1,.int .i64 s.1.2]∧Blk w' g9 36 #[.int .i64 s.2.1,.int .i64 s.2.2]∧Blk w' G 26 #[.slice aP' nP' cP',.slice aH' nH' cH',.slice aF' nF' cF'])∧Hid (MapR w' (.slice aP' nP' cP') (.slice aH' nH' cH') (.slice aF' nF' cF') P' H' F')) ⟨⟨(((HW7.out.1.setCell (p:=⟨g8,0,none⟩) hw8 _).setCell (p:=⟨g8,1,none⟩) hw8 _).setCell (p:=⟨g9,0,none⟩) hw9 _).setCell (p:=⟨g9,1,none⟩) hw9 _,
    (((HW7.out.2.1.far (by dsimp only;omega) _).far (by dsimp only;omega) _).far (by dsimp only;omega) _).far (by dsimp only;omega) _,
    by rw[HSQ.out];exact(((HW7.out.2.2.1.set_ 0 _).set_ 1 _).far (by dsimp only;omega) _).far (by dsimp only;omega) _,
    by rw[HSQ.out];exact(((HW7.out.2.2.2.1.far (by dsimp only;omega) _).far (by dsimp only;omega) _).set_ 0 _).set_ 1 _,
    (((HW7.out.2.2.2.2.far (by dsimp only;omega) _).far (by dsimp only;omega) _).far (by dsimp only;omega) _).far (by dsimp only;omega) _⟩,
    MapS.read (show MapS _ w4.heap.size _ _ _ _ _ _ from((((Rws.low HM7.out (p:=⟨g8,0,none⟩) h84 _).low (p:=⟨g8,1,none⟩) h84 _).low (p:=⟨g9,0,none⟩) h94 _).low (p:=⟨g9,1,none⟩) h94 _))⟩ ?_
   clear p0 p1 q0 q1 e0 e1 f0 f1 HW7 HM7 HSQ
   rintro w8 ⟨HW8,HM8⟩
  case' neg =>
   have hx1:decide (0<x)=false:=by rw[decide_eq_false_iff_not];exact hx
   have hsq:s=(p,q):=by rw[hs.out];unfold ornt;rw[if_neg (by rw[← HX.out];exact hx)]
   clear hx
   have HSQ:=Lib.hid hsq
   clear hsq
   go_upto_region 10 with fail
   refine atW (fun w' => Hid (Since w1 w' ∧ Blk w' B 26 #[.slice aP nP cP,.slice aH nH cH,.slice aF nF cF]∧Blk w' g8 36 #[.int .i64 s.1.1,.int .i64 s.1.2]∧Blk w' g9 36 #[.int .i64 s.2.1,.int .i64 s.2.2]∧Blk w' G 26 #[.slice aP' nP' cP',.slice aH' nH' cH',.slice aF' nF' cF'])∧Hid (MapR w' (.slice aP' nP' cP') (.slice aH' nH' cH') (.slice aF' nF' cF') P' H' F')) ⟨by rw[HSQ.out];exact HW7.out,HM7.out.read⟩ ?_
   clear HW7 HM7 HSQ
   rintro w8 ⟨HW8,HM8⟩
  all_goals
   clear hs HX hx1
   have n0:w8.cell? ⟨G,0,none⟩=some (.slice aP' nP' cP'):=HW8.out.2.2.2.2.cell 0
   have n2:w8.cell? ⟨G,1,none⟩=some (.slice aH' nH' cH'):=HW8.out.2.2.2.2.cell 1
   have n3:w8.cell? ⟨G,2,none⟩=some (.slice aF' nF' cF'):=HW8.out.2.2.2.2.cell 2
   go_wp2_with fail
   refine(HLN.out _ HM8.out).mono ?_
   rintro e w9 ⟨y,rfl,hy,hs⟩
   have HY9:=Lib.hid hy
   obtain⟨ay,cy,hvy,-⟩:=hy
   subst hvy
   rw[← Hm.out] at HY9 ⊢
   have HW9:Hid (Since w1 w9∧Blk w9 B 26 #[.slice aP nP cP,.slice aH nH cH,.slice aF nF cF]∧Blk w9 g8 36 #[.int .i64 s.1.1,.int .i64 s.1.2]∧Blk w9 g9 36 #[.int .i64 s.2.1,.int .i64 s.2.2]∧Blk w9 G 26 #[.slice aP' nP' cP',.slice aH' nH' cH',.slice aF' nF' cF']):=⟨HW8.out.1.trans hs,hs.blk HW8.out.2.1,hs.blk HW8.out.2.2.1,hs.blk HW8.out.2.2.2.1,hs.blk HW8.out.2.2.2.2⟩
   have HM9:=Lib.hid (HM8.out.since hs)
   clear n0 n2 n3 hs HW8 HM8 HLN
   have s0:w9.cell? ⟨g8,0,none⟩=some (.int .i64 s.1.1):=HW9.out.2.2.1.cell 0
   have s1:w9.cell? ⟨g8,1,none⟩=some (.int .i64 s.1.2):=HW9.out.2.2.1.cell 1
   have s2:w9.cell? ⟨g9,0,none⟩=some (.int .i64 s.2.1):=HW9.out.2.2.2.1.cell 0
   have s3:w9.cell? ⟨g9,1,none⟩=some (.int .i64 s.2.2):=HW9.out.2.2.2.1.cell 1
   go_wp2_with fail
   refine(HIX.out _ _ HY9.out).mono ?_
   rintro e w10 ⟨rfl,hs⟩
   have HW10:Hid (Since w1 w10∧Blk w10 B 26 #[.slice aP nP cP,.slice aH nH cH,.slice aF nF cF]∧Blk w10 G 26 #[.slice aP' nP' cP',.slice aH' nH' cH',.slice aF' nF' cF']):=⟨HW9.out.1.trans hs,hs.blk HW9.out.2.1,hs.blk HW9.out.2.2.2.2⟩
   have HM10:=Lib.hid (HM9.out.since hs)
   clear s0 s1 s2 s3 hs HW9 HM9 HIX HY9
   have n0:w10.cell? ⟨G,0,none⟩=some (.slice aP' nP' cP'):=HW10.out.2.2.cell 0
   have n2:w10.cell? ⟨G,1,none⟩=some (.slice aH' nH' cH'):=HW10.out.2.2.cell 1
   have n3:w10.cell? ⟨G,2,none⟩=some (.slice aF' nF' cF'):=HW10.out.2.2.cell 2
   go_wp2_with fail
   rw[show(2*(i:Int))=(h:Int) by have:=hh.out;omega]
   refine(HDR.out _ HM10.out).mono ?_
   rintro e w11 ⟨vP2,vH2,vF2,rfl,hm2,hs⟩
   have HMB:=Lib.hid hm2
   obtain⟨⟨aP2,cP2,hvP2⟩,⟨aH2,cH2,hvH2⟩,⟨aF2,cF2,hvF2⟩⟩:=hm2.vals
   subst hvP2 hvH2 hvF2
   rw[← HNP.out,← HNH.out,← HNF.out] at HMB ⊢
   have HW11:Hid (Since w1 w11∧Blk w11 B 26 #[.slice aP nP cP,.slice aH nH cH,.slice aF nF cF]):=⟨HW10.out.1.trans hs,hs.blk HW10.out.2.1⟩
   clear n0 n2 n3 hs HW10 HM10 HDR hm2
   go_upto_region 13 with fail
   obtain⟨G2,HG2⟩:∃ G2,Hid (G2=w11.heap.size):=⟨_,rfl⟩
   rw[← HG2.out]
   refine atW (fun w' => Hid (Since w1 w' ∧ Blk w' B 26 #[.slice aP nP cP,.slice aH nH cH,.slice aF nF cF]∧Blk w' G2 26 #[.slice aP2 nP cP2,.slice aH2 nH cH2,.slice aF2 nF cF2])∧Hid (MapR w' (.slice aP2 nP cP2) (.slice aH2 nH cH2) (.slice aF2 nF cF2) P H F)) ⟨⟨HW11.out.1.alloc _,HW11.out.2.alloc _,Blk.new' HG2.out⟩,HMB.out.since ((Since.rfl_ w11).alloc _)⟩ ?_
   clear HW11 HMB
   rintro w12 ⟨HW12,HM12⟩
   have HSM:=Lib.hid (Same_any _ _ _ _ _ _ P H F w12 HBB.out.1 (Nat.le_trans HBB.out.2.1 (by decide)) HBB.out.2.2 HM12.out (HMR.out.since HW12.out.1))
   have m0:w12.cell? ⟨B,0,none⟩=some (.slice aP nP cP):=HW12.out.2.1.cell 0
   have m1:w12.cell? ⟨B,1,none⟩=some (.slice aH nH cH):=HW12.out.2.1.cell 1
   have m2:w12.cell? ⟨B,2,none⟩=some (.slice aF nF cF):=HW12.out.2.1.cell 2
   have n0:w12.cell? ⟨G2,0,none⟩=some (.slice aP2 nP cP2):=HW12.out.2.2.cell 0
   have n2:w12.cell? ⟨G2,1,none⟩=some (.slice aH2 nH cH2):=HW12.out.2.2.cell 1
   have n3:w12.cell? ⟨G2,2,none⟩=some (.slice aF2 nF cF2):=HW12.out.2.2.cell 2
   have i0:decide ((0:Int)≤(i:Int))=true:=by rw[decide_eq_true_eq];omega
   have HSF:Hid (Since w w12):=HS1.out.trans HW12.out.1
   go_wp2_with fail
   refine(HSM.out).mono ?_
   rintro e w13 ⟨rfl,hs⟩
   have HSG:Hid (Since w w13):=HSF.out.trans hs
   clear hs
   go_wp2_with fail
   go_ret
   exact⟨rfl,HSG.out⟩
 ·have he:(p.1 == q.1 && p.2 == q.2)=false:=by
   rw[Bool.eq_false_iff]
   intro z
   simp only[Bool.and_eq_true,beq_iff_eq] at z
   exact hpq (Prod.ext z.1 z.2)
  clear hpq
  unfold nilV
  go_upto_region 6 with fail
  refine atW (fun w' => Hid (Since w1 w' ∧ Blk w' g8 36 #[.int .i64 p.1,.int .i64 p.2]∧Blk w' g9 36 #[.int .i64 q.1,.int .i64 q.2])) ⟨HW5.out.1.alloc _,HW5.out.2.2.1.alloc _,HW5.out.2.2.2.alloc _⟩ ?_
  rintro w6 HW6
  have p0:w6.cell? ⟨g8,0,none⟩=some (.int .i64 p.1):=HW6.out.2.1.cell 0
  have p1:w6.cell? ⟨g8,1,none⟩=some (.int .i64 p.2):=HW6.out.2.1.cell 1
  have q0:w6.cell? ⟨g9,0,none⟩=some (.int .i64 q.1):=HW6.out.2.2.cell 0
  have q1:w6.cell? ⟨g9,1,none⟩=some (.int .i64 q.2):=HW6.out.2.2.cell 1
  have HSF:Hid (Since w w6):=HS1.out.trans HW6.out.1
  go_wp2_with fail
  go_ret
  exact⟨by simp,HSF.out⟩
end
section
theorem TBack_walkB(v vk:Value)(l k:List Int)(w:World)(hi:IntsB w v l w.heap.size)(hk:IntsB w vk k w.heap.size):Calls Tryz.prog 8 #[v,vk] w fun e w' => e=.returned (.bool true)∧Since w w' :=
 TBack_walk v vk l k w hi hk (by obtain⟨a,c,-,h1,h2,-⟩:=hi;exact Nat.le_trans h1 (Nat.le_trans h2 (by decide)))
end
section
open Go.RowKit Go.BigFrame
open Go.ChangeShapes Go.WideShapes Go.ChangeAt Go.RowKit Go.Joins
theorem ownK:ownKnob Tryz.prog.godebug=none:=by kernel_rfl
theorem laidOutK:laidOutB Tryz.prog=true:=by kernel_rfl
section
variable {H : Type} {enc : TypeId × Value → H} {W : World} {v : Value} {d : DataW H} {p : List MemPlace}
theorem addr_at{W:World}{a:Addr}{i:Nat}{u:Value}(h0:(W.cell? a).isSome=true)(h:W.cell? (a.add i)=some u):W.cell? ⟨a.block,a.off+i,none⟩=some u:=by
 have hs:a.spot=none:=by
  unfold World.cell? at h0
  split at h0
  ·split at h0
   ·simp at h0
   ·next h1=>simpa using h1
  ·simp at h0
 obtain⟨b,o,s⟩:=a
 dsimp only at hs
 subst hs
 unfold Addr.add at h
 split at h
 ·next h1=>subst h1;exact h
 ·exact h
set_option maxRecDepth 100000 in
theorem ints_of{base:Nat}(hv:Value.okWide Tryz.prog W .any base 22 v)(h:DataW.Trod enc Tryz.prog W 0 (fun _=>true) true 22 v d p):∃ l:List Int,IntsB W v l W.heap.size:=by
 obtain⟨a0,len0,cap0,rfl⟩:=okWide_slice Tryz.underlying22 hv
 clear hv
 obtain⟨n,h⟩:=h
 rcases Go.Deep.open_slice1 Tryz.underlying22 (by kernel_rfl) h with⟨hv,-⟩ | ⟨a,len,cap,m,n',V,D,Pl,hv,-,hl,hm,hmm,-,hx⟩
 ·injection hv with hv
  rw[hv]
  exact⟨[],none,0,rfl,by simp,by unfold maxLen;omega,fun i hi=>absurd hi (Nat.not_lt_zero _)⟩
 ·injection hv with hv
  rw[hv]
  clear h
  simp only[if_true] at hmm
  subst hmm
  refine⟨(List.range len).map fun i=>intOf (V i),some a,m,by simp,by simpa using hl,hm,fun i hi=>?_⟩
  have hi' : i<len:=by simpa using hi
  have h0:=(hx 0 (by omega)).1
  have h1:=hx i (by omega)
  obtain⟨z,hz,-,-⟩:=DataW.trod_int Tryz.underlying3 h1.2
  injection hz with hz
  have ha:a.add 0=a:=rfl
  rw[ha] at h0
  have hs:=addr_at (by rw[h0];rfl) h1.1
  have hs0:=addr_at (i:=0) (by rw[h0];rfl) (by rw[ha];exact h0)
  have hsp:a=⟨a.block,a.off,none⟩:=by
   obtain⟨b,o,s⟩:=a
   unfold World.cell? at h0
   split at h0
   ·split at h0
    ·cases h0
    ·next h1=>simp at h1;rw[h1]
   ·cases h0
  refine⟨a.block,a.off,by rw[← hsp],World.block_lt_of_cell? W a h0,?_⟩
  rw[hs,hz]
  simp[List.getD,hi',hz,intOf]
end
end
end Go.Proofs.YtdnccjdlmepafaaGreat
