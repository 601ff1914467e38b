/-
  What topo.build calls: Clone, the sort with its closure, arr.Build where segments are not apart, and of none; Plain: segments turned to their order, sorted; what topo.build makes of them; What reads as a subdivision; the walk of arr's Lines; The walk of topo.build; slices.Delete of one segment out of a row of one's own. Conditions: those that each lemma names.
-/
import Derived.Test.YtdnccjdlmepafaaGreatK18
import Derived.Test.YtdnccjdlmepafaaGreatK28
import Derived.BigQuiet
import Derived.Shelf.SlicesE.Clone
import Derived.Deep.RegionLaw
import Derived.Deep.MidRow
import Derived.Lib.SliceRun
set_option linter.unusedSimpArgs false
set_option linter.unusedVariables false
set_option linter.constructorNameAsVariable false
namespace Go.Proofs.YtdnccjdlmepafaaGreat
section
open Go.RowKit Go.BigFrame Go.Shelf Go.Lib Go.Proofs
attribute [local go_sem ↓] eqPt neqPt
def cloneSg_ren:Go.Shelf.Ren:=⟨fun | 41=>70 | n=>n,fun | 22=>27 | 23=>37 | 4=>4 | n=>n,fun | n=>n⟩
theorem cloneSg:Go.Proofs.SlLaysE0.n41 Tryz.prog cloneSg_ren:={
 mixed:=by kernel_rfl
 f41:=⟨Tryz.f70.name,by decide,Tryz.func70.trans (congrArg some (by kernel_rfl))⟩
 t4:=Tryz.underlying4
 a4:=Tryz.isAgg4
 z4:=Tryz.sizeOf4
 v4:=Tryz.zeroValue4
 t22:=Tryz.underlying27
 a22:=Tryz.isAgg27
 z22:=Tryz.sizeOf27
 v22:=Tryz.zeroValue27 }
set_option maxHeartbeats 1000000 in
theorem TopCmp_any(s t:Sg)(w:World):Calls Tryz.prog 72 #[.agg #[.int .i64 s.1.1,.int .i64 s.1.2,.int .i64 s.2.1,.int .i64 s.2.2],.agg #[.int .i64 t.1.1,.int .i64 t.1.2,.int .i64 t.2.1,.int .i64 t.2.2]] w fun e w' => e=.returned (.int .i64 (cmpS s t))∧∃ q os',w' = Go.Sort.grow (w.drewN q) os' := by
 have H1:=Lib.hid (fun w=>Cmp_any s.1 t.1 w)
 have H2:=Lib.hid (fun w=>Cmp_any s.2 t.2 w)
 have HD:Hid (cmpS s t=if cmpP s.1 t.1=0 then cmpP s.2 t.2 else cmpP s.1 t.1):=rfl
 obtain⟨x,HX⟩:∃ x,Hid (x=cmpP s.1 t.1):=⟨_,rfl⟩
 obtain⟨y,HY⟩:∃ y,Hid (y=cmpP s.2 t.2):=⟨_,rfl⟩
 rw[← HX.out] at H1 HD
 rw[← HY.out] at H2 HD
 go_enter Tryz.func72,Tryz.ntmps72
 go_upto_region 1 with fail
 obtain⟨G,HG⟩:∃ G,G=w.heap.size:=⟨_,rfl⟩
 rw[← HG]
 refine atW (fun w' => Hid (∃ q os,w' = Go.Sort.grow (w.drewN q) os)∧Blk w' G 37 #[.int .i64 s.1.1,.int .i64 s.1.2,.int .i64 s.2.1,.int .i64 s.2.2]∧Blk w' (G+1) 37 #[.int .i64 t.1.1,.int .i64 t.1.2,.int .i64 t.2.1,.int .i64 t.2.2]) ⟨⟨0,_,by rw[Go.Sort.alloc_eq_grow,Go.Sort.alloc_eq_grow,Go.Sort.grow_grow];rfl⟩,(Blk.new' HG).alloc _,Blk.new' (by simp[HG])⟩ ?_
 clear HG
 rintro w1 ⟨HW,hs,ht⟩
 have a_0:=hs.cell 0
 have a_1:=hs.cell 1
 have a_2:=hs.cell 2
 have a_3:=hs.cell 3
 simp only[List.getElem?_toArray,List.getElem?_cons_zero,List.getElem?_cons_succ] at a_0 a_1 a_2 a_3
 have b_0:=ht.cell 0
 have b_1:=ht.cell 1
 have b_2:=ht.cell 2
 have b_3:=ht.cell 3
 simp only[List.getElem?_toArray,List.getElem?_cons_zero,List.getElem?_cons_succ] at b_0 b_1 b_2 b_3
 have HB:=Lib.hid (And.intro hs ht)
 clear hs ht
 go_wp2_with fail
 refine(H1.out _).mono ?_
 rintro e w2 ⟨rfl,hq⟩
 have hs2:Since w1 w2:=by
  obtain⟨q,os,rfl⟩:=hq
  exact grown_since _ _ _
 have HW2:Hid (∃ q os,w2=Go.Sort.grow (w.drewN q) os):=by
  obtain⟨q,os,rfl⟩:=hq
  obtain⟨q',os',rfl⟩:=HW.out
  exact⟨q' + q,os' ++ os,by simp[World.drewN,Go.Sort.grow,Nat.add_assoc]⟩
 have a_2:=keepC hs2 _ _ a_2
 have a_3:=keepC hs2 _ _ a_3
 have b_2:=keepC hs2 _ _ b_2
 have b_3:=keepC hs2 _ _ b_3
 clear a_0 a_1 b_0 b_1 HW HB hs2 hq
 by_cases hx:x=0
 ·have hx0:(x == 0)=true:=by rw[beq_iff_eq];exact hx
  have HE:Hid (y=cmpS s t):=by show _=_;rw[HD.out,if_pos hx]
  clear hx HD
  go_wp2_with fail
  refine(H2.out _).mono ?_
  rintro e w3 ⟨rfl,hq⟩
  have HW3:Hid (∃ q os,w3=Go.Sort.grow (w.drewN q) os):=by
   obtain⟨q,os,rfl⟩:=hq
   obtain⟨q',os',rfl⟩:=HW2.out
   exact⟨q' + q,os' ++ os,by simp[World.drewN,Go.Sort.grow,Nat.add_assoc]⟩
  clear hq
  go_wp2_with fail
  go_ret
  exact⟨ret_int HE.out,HW3.out⟩
 ·have hx0:(x == 0)=false:=by rw[beq_eq_false_iff_ne];exact hx
  have HE:Hid (x=cmpS s t):=by show _=_;rw[HD.out,if_neg hx]
  clear hx HD
  go_wp2_with fail
  go_ret
  exact⟨ret_int HE.out,HW2.out⟩
theorem sortT_any(g c n B:Nat)(l:List Sg)(w:World)(h:w.ownsRow B 37 4 (.slice (some ⟨g,0,none⟩) n c) n (l.flatMap sgV))(hn:n=l.length)(hlen:n≤1000000000000) :
  Calls Tryz.prog 71 #[.slice (some ⟨g,0,none⟩) n c,.func (.func 72) #[] #[]] w fun e w' => e=.returned (.tuple #[])∧w'.ownsRow B 37 4 (.slice (some ⟨g,0,none⟩) n c) n ((srtG l).flatMap sgV)∧Only g w w' := by
 have eg:∀ args w,(callFunc 72 args).run Tryz.prog w=.ok (.enter 72 args) w:=enters_of Tryz.func72 (by kernel_rfl) rfl
 have hT:∀ x y,(ltOf cmpS) x y=false→(ltOf cmpS) y x=false→x=y:=fun x y h1 h2=>by
  rw[cmpS_lt] at *
  rcases lxG_tri x y with k | k | k
  ·rw[k] at h1;cases h1
  ·exact k
  ·rw[k] at h2;cases h2
 have hcon:=AnyQ.slices_SortFunc_total sortSg 4 Tryz.isAgg37 Tryz.sizeOf37 sgV sgV_len sgV_one cmpS cmpS_swo 72 #[] g 0 c l.toArray w eg (fun _ _ _ _ x y=>TopCmp_any x y _) (own_holdsG h hn) (h.lt g rfl).2 (by simp;omega) hT
 change Calls Tryz.prog 71 _ _ _ at hcon
 rw[show l.toArray.size=n by simp[hn]] at hcon
 refine hcon.mono ?_
 rintro e w' ⟨rfl,m,os,rfl⟩
 have e1:(l.toArray.toList.mergeSort fun x y => !(ltOf cmpS) y x).toArray=(srtG l).toArray:=by
  unfold srtG
  have:(fun x y => !(ltOf cmpS) y x)=fun x y => !lxG y x:=by funext x y;rw[cmpS_lt]
  rw[this]
 rw[e1]
 exact⟨rfl,own_sortG h hn (by unfold srtG;simp),only_sortG _ (h.lt g rfl).2⟩
set_option maxRecDepth 100000 in
theorem BuildN_any(v:Value)(E:List Sg)(w:World)(hv:SegsN w v E)(hE:PreOk E)(hn:¬ RndOk E)(hl:E.length≤3000) :
  Calls Tryz.prog 40 #[v] w fun e w' => e=.returned (.tuple #[.agg #[nilV,nilV,nilV],.int .i64 10])∧Since w w' := by
 have HCK:=Lib.hid (fun w' (k:Since w w')=>CheckN_any v E w' (hv.since k) hE hn hl)
 obtain⟨a,c,rfl⟩:=hv.slice
 clear hv hE hn
 obtain⟨n,HN⟩:∃ n,Hid (n=E.length):=⟨_,rfl⟩
 rw[← HN.out] at HCK ⊢
 obtain⟨B,HB⟩:∃ B,Hid (B=w.heap.size):=⟨_,rfl⟩
 go_enter Tryz.func40,Tryz.ntmps40
 go_upto_region 1 with fail
 rw[← HB.out]
 refine atW (fun w' => Hid (Since w w' ∧ Blk w' B 26 #[nilV,nilV,nilV])) ⟨(Since.rfl_ w).alloc _,Blk.new' HB.out⟩ ?_
 rintro w1 HW1
 go_upto_region 3 with(go_at_call 63;refine(HCK.out _ HW1.out.1).mono ?_;rintro e w2 ⟨rfl,hs2⟩;have HS2:=Lib.hid hs2;clear hs2 HCK)
 have HS3:=Lib.hid (HW1.out.1.trans HS2.out)
 have HBB:=Lib.hid (HS2.out.blk HW1.out.2)
 have b0:=HBB.out.cell 0
 have b1:=HBB.out.cell 1
 have b2:=HBB.out.cell 2
 have d0:=HBB.out.frozen 0
 have d1:=HBB.out.frozen 1
 have d2:=HBB.out.frozen 2
 simp only[List.getElem?_toArray,List.getElem?_cons_zero,List.getElem?_cons_succ] at b0 b1 b2
 have hBw:w.heap.size≤B:=by rw[HB.out];exact Nat.le_refl _
 have HSF:=Lib.hid (((HS3.out.setCell (p:=⟨B,0,none⟩) hBw nilV).setCell (p:=⟨B,1,none⟩) hBw nilV).setCell (p:=⟨B,2,none⟩) hBw nilV)
 clear HS2 HW1 HS3 HBB
 go_wp2_with fail
 refine bodyPost_ret (v:=.tuple #[.agg #[.slice none 0 0,.slice none 0 0,.slice none 0 0],.int .i64 10]) (by simp[results,Tryz.results40,go_sem,cSetS,cSetO,cellDrew,b0,b1,b2,d0,d1,d2]) rfl ⟨rfl,HSF.out⟩
set_option maxRecDepth 100000 in
theorem CheckE_any(a:Option Addr)(c:Nat)(w:World) :
  Calls Tryz.prog 63 #[.slice a 0 c] w fun e w' => e=.returned (.int .i64 0)∧Since w w' := by
 go_enter Tryz.func63,Tryz.ntmps63
 go_upto_region 4 with fail
 go_loopw [14] (fun v wr=>v=.int .i64 0∧wr=w) (fun v _=>0)
 case atStart=>exact⟨by go_num,rfl⟩
 case round =>
  obtain⟨rfl,rfl⟩:=hrel
  go_upto_region 14 with fail
  go_loopw [50] (fun v wr' => v=.int .i64 0∧wr' = wr) (fun v _=>0)
  case atStart=>exact⟨by go_num,rfl⟩
  case round =>
   obtain⟨rfl,rfl⟩:=hrel
   go_wp2_with fail
   go_ret
   exact⟨rfl,Since.rfl_ _⟩
set_option maxRecDepth 100000 in
set_option maxHeartbeats 4000000 in
theorem BuildT_any(a:Option Addr)(c:Nat)(E:List Sg)(w:World)(hck:∀ w',Since w w' → Calls Tryz.prog 63 #[.slice a E.length c] w' fun e w2=>e=.returned (.int .i64 0)∧Since w' w2)
  (hst:∀ (G:Nat) (w0 w' : World),Since w0 w' → w0.heap.size≤G→Mk w' G St.nil →
   Calls Tryz.prog 64 #[.pointer (some ⟨G,0,none⟩),.slice a E.length c] w' fun e1 w1=>e1=.returned (.tuple #[])∧Since w0 w1 ∧
   Calls Tryz.prog 65 #[.pointer (some ⟨G,0,none⟩)] w1 fun e2 w2=>e2=.returned (.tuple #[])∧Since w0 w2 ∧
   Calls Tryz.prog 66 #[.pointer (some ⟨G,0,none⟩)] w2 fun e3 w3=>e3=.returned (.tuple #[])∧Since w0 w3 ∧
   Calls Tryz.prog 67 #[.pointer (some ⟨G,0,none⟩)] w3 fun e4 w4=>e4=.returned (.tuple #[])∧Since w0 w4∧BldS w4 G E) :
  Calls Tryz.prog 40 #[.slice a E.length c] w fun e w' => ∃ (vP vH vF:Value) (P:List Pt2) (H:List Hf) (F:List Int),e=.returned (.tuple #[.agg #[vP,vH,vF],.int .i64 0])∧Since w w' ∧ MapS w' w.heap.size vP vH vF P H F∧BldR E P H F:=by
 have HST:=Lib.hid hst
 have HCK:=Lib.hid hck
 clear hst hck
 obtain⟨n,HN⟩:∃ n,Hid (n=E.length):=⟨_,rfl⟩
 rw[← HN.out] at HST HCK ⊢
 obtain⟨B,HB⟩:∃ B,Hid (B=w.heap.size):=⟨_,rfl⟩
 go_enter Tryz.func40,Tryz.ntmps40
 go_upto_region 1 with fail
 rw[← HB.out]
 refine atW (fun w' => Hid (Since w w' ∧ Blk w' B 26 #[nilV,nilV,nilV])) ⟨(Since.rfl_ w).alloc _,Blk.new' HB.out⟩ ?_
 rintro w1 HW1
 go_upto_region 4 with(go_at_call 63;refine(HCK.out _ HW1.out.1).mono ?_;rintro e w2 ⟨rfl,hs2⟩;have HS2:=Lib.hid hs2;clear hs2 HCK)
 have HW2:=Lib.hid (And.intro (HW1.out.1.trans HS2.out) (HS2.out.blk HW1.out.2))
 clear HS2 HW1
 obtain⟨G,HG⟩:∃ G,Hid (G=w2.heap.size):=⟨_,rfl⟩
 go_upto_region 5 with fail
 rw[← HG.out]
 have hr0:Rws (w2.alloc (.cells #[nilV,nilV,nilV,nilV,nilV,nilV,nilV,nilV] 94)) (G+1) St.nil.rows :=
  Rws.more (L:=[]) ⟨fun i r hi=>(by simp at hi),fun i j r s _ hi=>(by simp at hi)⟩ St.nil.rows (fun r hr=>by
   simp only[St.rows,St.nil,rI,List.mem_cons,List.not_mem_nil,or_false,List.map_nil,List.append_nil,List.length_nil,List.flatMap_nil] at hr
   rcases hr with rfl | rfl | rfl | rfl | rfl | rfl | rfl | rfl <;> exact⟨rfl,rfl,rfl⟩)
 have HC5:=Lib.hid (HST.out G w2 (w2.alloc (.cells #[nilV,nilV,nilV,nilV,nilV,nilV,nilV,nilV] 94)) ((Since.rfl_ w2).alloc _) (by rw[HG.out];exact Nat.le_refl _) ⟨Blk.new' HG.out,hr0⟩)
 clear hr0 HST
 go_upto_region 6 with(go_at_call 64;refine HC5.out.mono ?_;rintro e w3 ⟨rfl,-,hc6⟩;have HC6:=Lib.hid hc6;clear hc6)
 go_upto_region 7 with(go_at_call 65;refine HC6.out.mono ?_;rintro e w4 ⟨rfl,-,hc7⟩;have HC7:=Lib.hid hc7;clear hc7)
 go_upto_region 8 with(go_at_call 66;refine HC7.out.mono ?_;rintro e w5 ⟨rfl,-,hc8⟩;have HC8:=Lib.hid hc8;clear hc8)
 go_upto_region 9 with(go_at_call 67;refine HC8.out.mono ?_;rintro e w6 ⟨rfl,hs6,vP,vH,vF,P,H,F,vs,hb,hm,hbl⟩;have HS6:=Lib.hid hs6;have HB6:=Lib.hid hb;have HM6:=Lib.hid hm;have HBL:=Lib.hid hbl;clear hs6 hb hm hbl)
 obtain⟨aP,cP,hvP⟩:∃ a c,vP=.slice a P.length c:=Rws.slice HM6.out (i:=0) rfl
 obtain⟨aH,cH,hvH⟩:∃ a c,vH=.slice a H.length c:=Rws.slice HM6.out (i:=1) rfl
 obtain⟨aF,cF,hvF⟩:∃ a c,vF=.slice a F.length c:=Rws.slice HM6.out (i:=2) rfl
 subst hvP hvH hvF
 have c0:w6.cell? ⟨G,0,none⟩=some (.slice aP P.length cP):=HB6.out.cell 0
 have c1:w6.cell? ⟨G,1,none⟩=some (.slice aH H.length cH):=HB6.out.cell 1
 have c2:w6.cell? ⟨G,2,none⟩=some (.slice aF F.length cF):=HB6.out.cell 2
 have HBB:=Lib.hid (HS6.out.blk HW2.out.2)
 have b0:=HBB.out.cell 0
 have b1:=HBB.out.cell 1
 have b2:=HBB.out.cell 2
 have d0:=HBB.out.frozen 0
 have d1:=HBB.out.frozen 1
 have d2:=HBB.out.frozen 2
 simp only[List.getElem?_toArray,List.getElem?_cons_zero,List.getElem?_cons_succ] at b0 b1 b2
 have hBw:w.heap.size≤B:=by rw[HB.out];exact Nat.le_refl _
 have hBG:B<G:=by rw[HG.out];exact HW2.out.2.lt
 have HSF:=Lib.hid ((((HW2.out.1.trans HS6.out).setCell (p:=⟨B,0,none⟩) hBw (.slice aP P.length cP)).setCell (p:=⟨B,1,none⟩) hBw (.slice aH H.length cH)).setCell (p:=⟨B,2,none⟩) hBw (.slice aF F.length cF))
 have HMF:Hid (MapS (((w6.setCell ⟨B,0,none⟩ (.slice aP P.length cP)).setCell ⟨B,1,none⟩ (.slice aH H.length cH)).setCell ⟨B,2,none⟩ (.slice aF F.length cF)) w.heap.size (.slice aP P.length cP) (.slice aH H.length cH) (.slice aF F.length cF) P H F) :=
  Rws.mono (((Rws.low HM6.out (p:=⟨B,0,none⟩) (by dsimp only;omega) _).low (p:=⟨B,1,none⟩) (by dsimp only;omega) _).low (p:=⟨B,2,none⟩) (by dsimp only;omega) _) (by omega)
 clear HS6 HB6 HM6 HBB HW2 HC5 HC6 HC7 HC8
 go_wp2_with fail
 refine bodyPost_ret (v:=.tuple #[.agg #[.slice aP P.length cP,.slice aH H.length cH,.slice aF F.length cF],.int .i64 0]) (by simp[results,Tryz.results40,go_sem,cSetS,cSetO,cellDrew,b0,b1,b2,d0,d1,d2]) rfl ⟨_,_,_,P,H,F,rfl,HSF.out,HMF.out,HBL.out⟩
theorem BuildE_any(a:Option Addr)(c:Nat)(w:World) :
  Calls Tryz.prog 40 #[.slice a 0 c] w fun e w' => ∃ (vP vH vF:Value) (P:List Pt2) (H:List Hf) (F:List Int),e=.returned (.tuple #[.agg #[vP,vH,vF],.int .i64 0])∧Since w w' ∧ MapS w' w.heap.size vP vH vF P H F∧BldR [] P H F :=
 BuildT_any a c [] w (fun w' _=>CheckE_any a c w') fun G w0 w' hs hG hM=>by
  refine(Begin_nil a c G w0 w' hs hG hM.blk).mono ?_
  rintro e1 w1 ⟨rfl,hs1,gO,hM1⟩
  refine⟨rfl,hs1,(Link_nil G gO w0 w1 hs1 hG hM1).mono ?_⟩
  rintro e2 w2 ⟨rfl,hs2,gC,hM2⟩
  refine⟨rfl,hs2,(Parts_nil G gO gC w0 w2 hs2 hG hM2).mono ?_⟩
  rintro e3 w3 ⟨rfl,hs3,gA,hM3⟩
  refine⟨rfl,hs3,(Faces_nil G gO gC gA w0 w3 hs3 hG hM3).mono ?_⟩
  rintro e4 w4 ⟨rfl,hs4,gF,hM4,hGF,hF4⟩
  refine⟨rfl,hs4,nilV,nilV,.slice (some ⟨gF,0,none⟩) 1 1,[],[],[-1],_,hM4,?_,BldR.none⟩
  have h0:Rws w4 (G+1) [⟨nilV,36,2,0,[]⟩,⟨nilV,33,4,0,[]⟩,⟨nilV,3,1,0,[]⟩] :=
   Rws.more (L:=[]) ⟨fun i r hi=>(by simp at hi),fun i j r s _ hi=>(by simp at hi)⟩ _ (fun r hr=>by
    simp only[List.mem_cons,List.not_mem_nil,or_false] at hr
    rcases hr with rfl | rfl | rfl <;> exact⟨rfl,rfl,rfl⟩)
  have ho:w4.ownsRow (G+1) 3 1 (.slice (some ⟨gF,0,none⟩) 1 1) 1 ([(-1:Int)].map iV):=⟨rfl,.inr ⟨gF,1,_,rfl,hGF,hF4,Nat.le_refl _,by unfold maxLen;omega,rfl,rfl⟩⟩
  refine⟨fun i r hi=>?_,fun i j r s hij hi hj=>?_⟩
  ·rcases i with _ | _ | _ | i
   ·exact h0.ok 0 r hi
   ·exact h0.ok 1 r hi
   ·injection hi with hi;rw[← hi];exact ho
   ·simp at hi
  ·rcases i with _ | _ | _ | i <;> rcases j with _ | _ | _ | j <;> first
    | (simp at hij;done)
    | (simp at hi;done)
    | (simp at hj;done)
    | (injection hi with hi;rw[← hi];intro g h1 _;cases h1;done)
    | (injection hj with hj;rw[← hj];intro g _ h1;cases h1;done)
end
section
open Go.RowKit Go.BigFrame
theorem sgAt_set{l:List Sg}{i j:Nat}(x:Sg)(hi:i<l.length):sgAt (l.set i x) j=if j=i then x else sgAt l j:=by
 unfold sgAt
 split
 ·rename_i e;subst e;simp[List.getD,hi]
 ·rename_i e;simp[List.getD,List.getElem?_set_ne (Ne.symm e)]
theorem sgAt_get{l:List Sg}{i:Nat}(h:i<l.length):sgAt l i=l[i]:=by simp[sgAt,List.getD,h]
def ornt(s:Sg):Sg:=if 0<cmpP s.1 s.2 then(s.2,s.1) else s
def orK(L:List Sg):Nat→List Sg
 | 0=>L
 | i+1=>(orK L i).set i (ornt (sgAt L i))
theorem orK_len(L:List Sg):∀ i,(orK L i).length=L.length
 | 0=>rfl
 | i+1=>by unfold orK;rw[List.length_set];exact orK_len L i
theorem orK_at{L:List Sg}{j:Nat}(hj:j<L.length):∀ i,i≤L.length→sgAt (orK L i) j=if j<i then ornt (sgAt L j) else sgAt L j
 | 0,_=>by rw[if_neg (Nat.not_lt_zero _)];rfl
 | i+1,hi=>by
  unfold orK
  rw[sgAt_set _ (by rw[orK_len];omega)]
  split
  ·rename_i e;subst e;rw[if_pos (Nat.lt_succ_self _)]
  ·rename_i e
   rw[orK_at hj i (by omega)]
   split
   ·rw[if_pos (by omega)]
   ·rw[if_neg (by omega)]
theorem orK_all(L:List Sg):orK L L.length=L.map ornt:=by
 refine List.ext_getElem (by rw[orK_len,List.length_map]) fun i h1 h2=>?_
 rw[orK_len] at h1
 rw[← sgAt_get,orK_at h1 _ (Nat.le_refl _),if_pos h1,List.getElem_map,sgAt_get h1]
theorem orK_eq{L:List Sg}{i:Nat}(hi:i<L.length)(h:¬ 0<cmpP (sgAt L i).1 (sgAt L i).2):orK L (i+1)=orK L i:=by
 have e1:ornt (sgAt L i)=sgAt (orK L i) i:=by
  rw[orK_at hi i (Nat.le_of_lt hi),if_neg (Nat.lt_irrefl _)]
  unfold ornt
  rw[if_neg h]
 show(orK L i).set i (ornt (sgAt L i))=orK L i
 rw[e1,sgAt_get (by rw[orK_len];exact hi),List.set_getElem_self]
theorem ornt_ok{s:Sg}(h:SgOk s):SgOk (ornt s)∧lx (ornt s).1 (ornt s).2:=by
 unfold ornt
 split
 ·rename_i e
  refine⟨⟨h.2.1,h.1,h.2.2.symm⟩,?_⟩
  rcases lx_tri s.1 s.2 with k | k | k
  ·have:=cmpP_neg.2 k;omega
  ·exact absurd k h.2.2
  ·exact k
 ·rename_i e
  refine⟨h,?_⟩
  rcases lx_tri s.1 s.2 with k | k | k
  ·exact k
  ·exact absurd k h.2.2
  ·have h1:=cmpP_neg.2 k
   have h2:¬ cmpP s.1 s.2=0:=fun e=>h.2.2 ((cmpP_zero _ _).1 e)
   have h3:¬ cmpP s.1 s.2<0:=fun e=>lx_irr _ (lx_trans (cmpP_neg.1 e) k)
   omega
theorem ornt_lx{s:Sg}(h:lx s.1 s.2):ornt s=s:=by
 unfold ornt
 rw[if_neg]
 have:=cmpP_neg.2 h
 omega
theorem flatG_set(s:Sg):∀ (l:List Sg) (i:Nat),i<l.length→((((l.flatMap sgV).set (i*4) (.int .i64 s.1.1)).set (i*4+1) (.int .i64 s.1.2)).set (i*4+2) (.int .i64 s.2.1)).set (i*4+3) (.int .i64 s.2.2)=(l.set i s).flatMap sgV
 | [],i,h=>absurd h (Nat.not_lt_zero _)
 | p :: l,0,_=>by simp[sgV]
 | p :: l,i+1,h=>by
  have ih:=flatG_set s l i (by simpa using h)
  rw[List.set_cons_succ,List.flatMap_cons,List.flatMap_cons,← ih]
  simp only[sgV,show(i+1)*4=i*4+1+1+1+1 by omega,show i*4+1+1+1+1+1=i*4+1+1+1+1+1 from rfl,List.cons_append,List.nil_append,List.set_cons_succ]
def tbL(L:List Sg):List Sg:=srtG (L.map ornt)
theorem tbL_len(L:List Sg):(tbL L).length=L.length:=by simp[tbL,srtG]
theorem tbL_pre{L:List Sg}(hok:∀ s∈L,SgOk s)(hd:∀ i,i+1<L.length→sgAt (tbL L) i≠sgAt (tbL L) (i+1)):PreOk (tbL L):=by
 have hm:∀ s∈tbL L,SgOk s∧lx s.1 s.2:=fun s hs=>by
  obtain⟨t,ht,rfl⟩:=List.mem_map.1 (srtG_mem.1 hs)
  exact ornt_ok (hok t ht)
 refine⟨fun s hs=>(hm s hs).1,?_,fun s hs=>(hm s hs).2⟩
 have hw:∀ i j,i<j→j<(tbL L).length→lxG (sgAt (tbL L) j) (sgAt (tbL L) i)=false:=fun i j hij hj=>by
  have:=List.pairwise_iff_getElem.1 (srtG_pw (L.map ornt)) i j (by show i<(tbL L).length;omega) hj hij
  rw[sgAt_get hj,sgAt_get (by omega)]
  exact this
 refine List.pairwise_iff_getElem.2 fun i j hi hj hij=>?_
 rw[← sgAt_get hi,← sgAt_get hj]
 rcases lxG_tri (sgAt (tbL L) i) (sgAt (tbL L) j) with k | k | k
 ·exact k
 ·exfalso
  have hn:=hd i (by rw[tbL_len] at hj;omega)
  rcases Nat.lt_or_ge (i+1) j with q | q
  ·have h1:=hw i (i+1) (by omega) (by omega)
   have h2:=hw (i+1) j q hj
   rw[← k] at h2
   rcases lxG_tri (sgAt (tbL L) i) (sgAt (tbL L) (i+1)) with z | z | z
   ·rw[z] at h2;cases h2
   ·exact hn z
   ·rw[z] at h1;cases h1
  ·rw[show i+1=j by omega] at hn
   exact hn k
 ·rw[hw i j hij hj] at k;cases k
theorem tbL_dup{L:List Sg}{i:Nat}(hi:i+1<L.length)(e:sgAt (tbL L) i=sgAt (tbL L) (i+1)):¬ RndOk (tbL L):=fun h=>by
 have:=List.pairwise_iff_getElem.1 h.srt i (i+1) (by rw[tbL_len];omega) (by rw[tbL_len];omega) (by omega)
 rw[← sgAt_get,← sgAt_get,e,lxG_irr] at this
 cases this
theorem tbL_eq{L E:List Sg}(hE:RndOk E)(hp:E.Perm (L.map ornt)):tbL L=E :=
 srtG_eq hp (List.Pairwise.imp (fun {x y} (h:lxG x y=true)=>by
  cases k:lxG y x
  ·rfl
  ·have:=lxG_trans h k;rw[lxG_irr] at this;cases this) hE.srt)
end
section
open Go.RowKit Go.BigFrame
attribute [local go_sem ↓] eqPt neqPt
def HvsS(w:World)(v:Value)(l:List Hf):Prop :=
 ∃ a c,v=.slice a l.length c∧∀ i,i<l.length→∃ g o:Nat,a=some ⟨g,o,none⟩∧w.cell? ⟨g,o+i*4,none⟩=some (.int .i64 (hAt l i).1)∧w.cell? ⟨g,o+i*4+1,none⟩=some (.int .i64 (hAt l i).2.1)∧w.cell? ⟨g,o+i*4+2,none⟩=some (.int .i64 (hAt l i).2.2.1)∧w.cell? ⟨g,o+i*4+3,none⟩=some (.int .i64 (hAt l i).2.2.2)
theorem HvsS.since{w w' : World}{v:Value}{l:List Hf}(h:HvsS w v l)(k:Since w w'):HvsS w' v l:=by
 obtain⟨a,c,hv,h⟩:=h
 refine⟨a,c,hv,fun i hi=>?_⟩
 obtain⟨g,o,ha,h1,h2,h3,h4⟩:=h i hi
 exact⟨g,o,ha,keepC k _ _ h1,keepC k _ _ h2,keepC k _ _ h3,keepC k _ _ h4⟩
def IntS(w:World)(v:Value)(l:List Int):Prop :=
 ∃ a c,v=.slice a l.length c∧∀ i,i<l.length→∃ g o:Nat,a=some ⟨g,o,none⟩∧w.cell? ⟨g,o+i,none⟩=some (.int .i64 (iAt l i))
theorem IntS.since{w w' : World}{v:Value}{l:List Int}(h:IntS w v l)(k:Since w w'):IntS w' v l:=by
 obtain⟨a,c,hv,h⟩:=h
 refine⟨a,c,hv,fun i hi=>?_⟩
 obtain⟨g,o,ha,h1⟩:=h i hi
 exact⟨g,o,ha,keepC k _ _ h1⟩
structure MapR(w:World)(vP vH vF:Value)(P:List Pt2)(H:List Hf)(F:List Int):Prop where
 p:PtsS w vP P
 h:HvsS w vH H
 f:IntS w vF F
theorem MapR.since{w w' : World}{vP vH vF:Value}{P:List Pt2}{H:List Hf}{F:List Int}(h:MapR w vP vH vF P H F)(k:Since w w'):MapR w' vP vH vF P H F:=⟨h.p.keep (keepC k),h.h.since k,h.f.since k⟩
theorem own_gc{w:World}{B:Nat}{t:TypeId}{k n:Nat}{v:Value}{xs:List Value}(h:w.ownsRow B t k v n xs)(hn:0<n):∃ g c,v=.slice (some ⟨g,0,none⟩) n c:=by
 obtain⟨-,⟨-,h2⟩ | ⟨g',cap,cur,h1,-⟩⟩:=h
 ·omega
 ·exact⟨g',cap,h1⟩
theorem own_ptsS{w:World}{B:Nat}{v:Value}{l:List Pt2}(h:w.ownsRow B 36 2 v l.length (l.flatMap ptV)):PtsS w v l:=by
 obtain⟨a,c,e⟩:=own_slice h
 refine⟨a,c,e,fun i hi=>?_⟩
 obtain⟨g,c',e'⟩:=own_gc h (by omega)
 rw[e] at e'
 injection e' with e1 _ e3
 subst e1 e3
 rw[e] at h
 have:=rowP_cells h hi
 exact⟨g,0,rfl,by rw[Nat.zero_add];exact this.1,by rw[Nat.zero_add];exact this.2⟩
theorem own_hvsS{w:World}{B:Nat}{v:Value}{l:List Hf}(h:w.ownsRow B 33 4 v l.length (l.flatMap hfV)):HvsS w v l:=by
 obtain⟨a,c,e⟩:=own_slice h
 refine⟨a,c,e,fun i hi=>?_⟩
 obtain⟨g,c',e'⟩:=own_gc h (by omega)
 rw[e] at e'
 injection e' with e1 _ e3
 subst e1 e3
 rw[e] at h
 have:=rowH_cells h hi
 exact⟨g,0,rfl,by rw[Nat.zero_add];exact this.1,by rw[Nat.zero_add];exact this.2.1,by rw[Nat.zero_add];exact this.2.2.1,by rw[Nat.zero_add];exact this.2.2.2⟩
theorem own_intS{w:World}{B:Nat}{v:Value}{l:List Int}(h:w.ownsRow B 3 1 v l.length (l.map iV)):IntS w v l:=by
 obtain⟨a,c,e⟩:=own_slice h
 refine⟨a,c,e,fun i hi=>?_⟩
 obtain⟨g,c',e'⟩:=own_gc h (by omega)
 rw[e] at e'
 injection e' with e1 _ e3
 subst e1 e3
 rw[e] at h
 have:=rowI_cell h hi
 exact⟨g,0,rfl,by rw[Nat.zero_add];exact this⟩
theorem MapS.read{w:World}{B:Nat}{vP vH vF:Value}{P:List Pt2}{H:List Hf}{F:List Int}(h:MapS w B vP vH vF P H F):MapR w vP vH vF P H F :=
 ⟨own_ptsS (h.ok 0 _ rfl),own_hvsS (h.ok 1 _ rfl),own_intS (h.ok 2 _ rfl)⟩
theorem MapS.since{w w' : World}{B:Nat}{vP vH vF:Value}{P:List Pt2}{H:List Hf}{F:List Int}(h:MapS w B vP vH vF P H F)(k:Since w w'):MapS w' B vP vH vF P H F:=Rws.since h k
def vtxB(P:List Pt2)(x:Int):Prop:=0≤x∧x<P.length
def linB(P:List Pt2)(H:List Hf)(i:Nat):Prop:=vtxB P (hAt H (2*i)).1∧vtxB P (hAt H (2*i+1)).1
def linV(P:List Pt2)(H:List Hf)(i:Nat):Sg:=(pAt P (hAt H (2*i)).1.toNat,pAt P (hAt H (2*i+1)).1.toNat)
def linK(P:List Pt2)(H:List Hf)(k:Nat):List Sg:=(List.range k).map (linV P H)
theorem linK_succ(P:List Pt2)(H:List Hf)(k:Nat):linK P H (k+1)=linK P H k++[linV P H k]:=by unfold linK;rw[List.range_succ,List.map_append];rfl
theorem linK_len(P:List Pt2)(H:List Hf)(k:Nat):(linK P H k).length=k:=by simp[linK]
def LinR(w w' : World)(P:List Pt2)(H:List Hf)(e:Ending):Prop :=
 ((∀ i,i<H.length/2→linB P H i)∧∃ x,e=.returned (.tuple #[x,.int .i64 0])∧w'.ownsRow w.heap.size 37 4 x (H.length/2) ((linK P H (H.length/2)).flatMap sgV)) ∨
 (¬ (∀ i,i<H.length/2→linB P H i)∧e=.returned (.tuple #[.slice none 0 0,.int .i64 1]))
set_option maxRecDepth 100000 in
set_option maxHeartbeats 4000000 in
theorem Lines_any(vP vH vF:Value)(P:List Pt2)(H:List Hf)(F:List Int)(w:World)(hm:MapR w vP vH vF P H F)(hH:H.length≤4398046510976)(hP:P.length≤1000000000000000) :
  Calls Tryz.prog 15 #[.agg #[vP,vH,vF]] w fun e w' => LinR w w' P H e∧Since w w' := by
 obtain⟨i0,hi0,hz0,hz1,hz3⟩:=info_parts infoSg
 have HI:=Lib.hid (And.intro hi0 (And.intro hz0 (And.intro hz1 hz3)))
 obtain⟨aP,cP,hvP,hpP⟩:=hm.p
 obtain⟨aH,cH,hvH,hpH⟩:=hm.h
 obtain⟨aF,cF,hvF,-⟩:=hm.f
 subst hvP hvH hvF
 have HPP:=Lib.hid hpP
 have HPH:=Lib.hid hpH
 clear hm hpP hpH hi0 hz0 hz1 hz3
 obtain⟨nP,HNP⟩:∃ n,Hid (n=P.length):=⟨_,rfl⟩
 obtain⟨nH,HNH⟩:∃ n,Hid (n=H.length):=⟨_,rfl⟩
 obtain⟨nF,HNF⟩:∃ n,Hid (n=F.length):=⟨_,rfl⟩
 rw[← HNH.out] at hH
 rw[← HNP.out] at hP
 rw[← HNP.out,← HNH.out,← HNF.out]
 obtain⟨B,HB⟩:∃ B,Hid (B=w.heap.size):=⟨_,rfl⟩
 go_enter Tryz.func15,Tryz.ntmps15
 go_upto_region 1 with fail
 rw[← HB.out]
 refine atW (fun w' => Hid (Since w w' ∧ Blk w' B 26 #[.slice aP nP cP,.slice aH nH cH,.slice aF nF cF])) ⟨(Since.rfl_ w).alloc _,Blk.new' HB.out⟩ ?_
 rintro w1 HW1
 go_wp2_with fail
 go_loopw [4,5] (fun v4 v5 wr=>∃ k:Nat,2*k≤nH∧v5=.int .i64 ((2*k:Nat):Int)∧Hid (Since w wr)∧Hid (Blk wr B 26 #[.slice aP nP cP,.slice aH nH cH,.slice aF nF cF])∧Hid (wr.ownsRow (B+1) 37 4 v4 k ((linK P H k).flatMap sgV))∧Hid (∀ i,i<k→linB P H i)) (fun _ v5 _=>nH-(intOf v5).toNat)
 case atStart=>exact⟨0,by omega,by go_num,HW1.out.1,HW1.out.2,World.ownsRow_nil _ _ _ _,fun i hi=>absurd hi (Nat.not_lt_zero _)⟩
 case round =>
  clear HW1
  obtain⟨k,hk,rfl,HS,HBM,HO,HG⟩:=hrel
  obtain⟨w2,rfl⟩:∃ w2,w2=wr:=⟨_,rfl⟩
  have m0:w2.cell? ⟨B,0,none⟩=some (.slice aP nP cP):=HBM.out.cell 0
  have m1:w2.cell? ⟨B,1,none⟩=some (.slice aH nH cH):=HBM.out.cell 1
  obtain⟨h,HHK⟩:∃ h:Nat,Hid (h=2*k):=⟨_,rfl⟩
  rw[← HHK.out]
  have hw1:wrap64 ((h:Int)+1)=(h:Int)+1:=wrap_id (by have:=HHK.out;omega)
  rcases Nat.lt_or_ge (h+1) nH with hlt | hge
  ·have hz:decide ((h:Int)+1<(nH:Int))=true:=by rw[decide_eq_true_eq];omega
   obtain⟨g,o,rfl,e1,-⟩:=HPH.out h (by rw[← HNH.out];omega)
   obtain⟨g',o',e',e2,-⟩:=HPH.out (h+1) (by rw[← HNH.out];omega)
   injection e' with e'
   injection e' with q1 q2
   subst q1 q2
   obtain⟨x,hx⟩:∃ x,Hid (x=(hAt H h).1):=⟨_,rfl⟩
   obtain⟨y,hy⟩:∃ y,Hid (y=(hAt H (h+1)).1):=⟨_,rfl⟩
   rw[← hx.out] at e1
   rw[← hy.out] at e2
   have e1:=keepC HS.out _ _ e1
   have e2:=keepC HS.out _ _ e2
   have KF:=Lib.hid (fun w' (k:Since w2 w')=>(show w'.cell? ⟨B,1,none⟩=some (.slice (some ⟨g,o,none⟩) nH cH)∧w'.cell? ⟨g,o+h*4,none⟩=some (.int .i64 x)∧w'.cell? ⟨g,o+(h+1)*4,none⟩=some (.int .i64 y) from⟨keepC k _ _ m1,keepC k _ _ e1,keepC k _ _ e2⟩))
   have i1:(0:Int)≤(h:Int):=by omega
   have i2:(h:Int)<(nH:Int):=by omega
   have i3:(0:Int)≤(h:Int)+1:=by omega
   have i4:(h:Int)+1<(nH:Int):=by omega
   go_upto_region 5 with fail
   clear e1 e2 m0 m1
   apply region_facts 15 (fun w' => Since w2 w')
   case hm=>kernel_rfl
   case hB=>kernel_rfl
   case hS=>exact(Since.rfl_ w2).drew
   case h =>
   simp only[List.take_succ_cons,List.take_zero,List.drop_succ_cons,List.drop_zero]
   iterate 15 (apply wpO_det;(case hw=>rfl);(case h=>intro hFm wx hS_ hF_ K hK;go_big_quiet_op;first | exact hK _ rfl | (apply Exists.intro;refine⟨fun _=>?_,?_⟩;(focus (first | (intro hC;have hC:=KF.out _ hC.out.1;(try simp only[hC,Result.andThen]);first | exact⟨True.intro,rfl⟩ | exact⟨rfl,rfl⟩ | rfl)));exact hK _ rfl));(case' k=>simp only[Act.put,List.setIfInBounds_toArray,List.set_cons_succ,List.set_cons_zero,List.cons_append,List.nil_append]))
   refine wpO_nil ?_
   intro w3 hS hF hB
   (try simp[allF] at hF)
   (try simp[List.pairwise_cons] at hB)
   clear hF hB KF
   have HS3:=Lib.hid (HS.out.trans hS)
   have HBM3:=Lib.hid (hS.blk HBM.out)
   have HO3:=Lib.hid (own_since hS HO.out)
   have m0:w3.cell? ⟨B,0,none⟩=some (.slice aP nP cP):=HBM3.out.cell 0
   have m1:w3.cell? ⟨B,1,none⟩=some (.slice (some ⟨g,o,none⟩) nH cH):=HBM3.out.cell 1
   clear hS HS HBM HO
   have hk2:k<H.length/2:=by rw[← HNH.out];have:=HHK.out;omega
   have HBAD:Hid (¬ (vtxB P x∧vtxB P y)→¬ (∀ i,i<H.length/2→linB P H i)):=fun hb hall=>hb (by
    have:=hall k hk2
    unfold linB at this
    rw[← HHK.out,← hx.out,← hy.out] at this
    exact this)
   by_cases hx0:x<0
   ·have b1:decide (x<0)=true:=decide_eq_true hx0
    go_wp2_with fail
    go_ret2
    exact⟨.inr ⟨HBAD.out (fun k=>by have:=k.1.1;omega),rfl⟩,HS3.out⟩
   have b1:decide (x<0)=false:=decide_eq_false hx0
   by_cases hx1:(nP:Int)≤x
   ·have b2:decide ((nP:Int)≤x)=true:=decide_eq_true hx1
    go_wp2_with fail
    go_ret2
    exact⟨.inr ⟨HBAD.out (fun k=>by have:=k.1.2;have:=HNP.out;omega),rfl⟩,HS3.out⟩
   have b2:decide ((nP:Int)≤x)=false:=decide_eq_false hx1
   by_cases hy0:y<0
   ·have b3:decide (y<0)=true:=decide_eq_true hy0
    go_wp2_with fail
    go_ret2
    exact⟨.inr ⟨HBAD.out (fun k=>by have:=k.2.1;omega),rfl⟩,HS3.out⟩
   have b3:decide (y<0)=false:=decide_eq_false hy0
   by_cases hy1:(nP:Int)≤y
   ·have b4:decide ((nP:Int)≤y)=true:=decide_eq_true hy1
    go_wp2_with fail
    go_ret2
    exact⟨.inr ⟨HBAD.out (fun k=>by have:=k.2.2;have:=HNP.out;omega),rfl⟩,HS3.out⟩
   have b4:decide ((nP:Int)≤y)=false:=decide_eq_false hy1
   obtain⟨u,rfl⟩:∃ u:Nat,x=u:=⟨x.toNat,by omega⟩
   obtain⟨v,rfl⟩:∃ v:Nat,y=v:=⟨y.toNat,by omega⟩
   have hu:u<P.length:=by rw[← HNP.out];omega
   have hv:v<P.length:=by rw[← HNP.out];omega
   obtain⟨gP,oP,rfl,pu0,pu1⟩:=HPP.out u hu
   obtain⟨gP',oP',e',pv0,pv1⟩:=HPP.out v hv
   injection e' with e'
   injection e' with q1 q2
   subst q1 q2
   have hgP:gP<B:=by rw[HB.out];exact World.block_lt_of_cell? w _ pu0
   have hBw3:B<w3.heap.size:=HBM3.out.lt
   have hwB:w.heap.size≤B:=by rw[HB.out];exact Nat.le_refl _
   obtain⟨p,hp⟩:∃ p,Hid (p=pAt P u):=⟨_,rfl⟩
   obtain⟨q,hq⟩:∃ q,Hid (q=pAt P v):=⟨_,rfl⟩
   rw[← hp.out] at pu0 pu1
   rw[← hq.out] at pv0 pv1
   have HLK:Hid (linK P H (k+1)=linK P H k++[(p,q)]):=by
    show _=_
    rw[linK_succ]
    unfold linV
    rw[← HHK.out,← hx.out,← hy.out,Int.toNat_natCast,Int.toNat_natCast,hp.out,hq.out]
   have HLB:Hid (linB P H k):=by
    show linB _ _ _
    unfold linB
    rw[← HHK.out,← hx.out,← hy.out]
    exact⟨⟨by omega,by omega⟩,⟨by omega,by omega⟩⟩
   have HCU:=Lib.hid (And.intro (keepC HS3.out _ _ pu0) (And.intro (keepC HS3.out _ _ pu1) (And.intro (keepC HS3.out _ _ pv0) (keepC HS3.out _ _ pv1))))
   clear pu0 pu1 pv0 pv1
   obtain⟨a4,c4,hv4⟩:=own_slice HO3.out
   subst hv4
   obtain⟨A,HA⟩:∃ A:Ap,Hid (A=⟨.slice a4 k c4,37,4,k,(linK P H k).flatMap sgV,1,sgV (p,q)⟩):=⟨_,rfl⟩
   have HAV:Hid (A.v=.slice a4 k c4):=by show _=_;rw[HA.out]
   have HLO:Hid (∀ A' ∈ [A],∀ g,A'.v.ownBlock=some g→B+1≤g∧g<w3.heap.size):=fun A' hA' g e=>by
    rw[List.mem_singleton.1 hA',HAV.out] at e
    exact HO3.out.lt g e
   letI RG:RegG:=apG (B+1) w3.heap.size [A] (fun A' hA' g e=>(HLO.out A' hA' g e).2)
   have KB:Hid (∀ w',SinceG w3 w' → Blk w' B 26 #[.slice (some ⟨gP,oP,none⟩) nP cP,.slice (some ⟨g,o,none⟩) nH cH,.slice aF nF cF]):=fun w' k =>
    ApK.blk k (fun A hA e=>by have:=(HLO.out A hA B e).1;omega) HBM3.out
   have KC:Hid (∀ w',SinceG w3 w' → ∀ (ad:Addr) x,ad.block=gP→w3.cell? ad=some x→w'.cell? ad=some x):=fun w' k ad x he hx =>
    ApK.cell k (fun A hA e=>by have:=(HLO.out A hA _ e).1;rw[he] at this;omega) hx
   have KF:=Lib.hid (fun w' (k:SinceG w3 w')=>(show w'.cell? ⟨B,0,none⟩=some (.slice (some ⟨gP,oP,none⟩) nP cP)∧w'.cell? ⟨gP,oP+u*2,none⟩=some (.int .i64 p.1)∧w'.cell? ⟨gP,oP+u*2+1,none⟩=some (.int .i64 p.2)∧w'.cell? ⟨gP,oP+v*2,none⟩=some (.int .i64 q.1)∧w'.cell? ⟨gP,oP+v*2+1,none⟩=some (.int .i64 q.2) from
    ⟨(KB.out w' k).cell 0,KC.out w' k _ _ rfl HCU.out.1,KC.out w' k _ _ rfl HCU.out.2.1,KC.out w' k _ _ rfl HCU.out.2.2.1,KC.out w' k _ _ rfl HCU.out.2.2.2⟩))
   have u1:(0:Int)≤(u:Int):=by omega
   have u2:(u:Int)<(nP:Int):=by omega
   have v1:(0:Int)≤(v:Int):=by omega
   have v2:(v:Int)<(nP:Int):=by omega
   have hkn:k≤2199023255488:=by have:=HHK.out;omega
   go_upto_region 8 with fail
   clear m0 m1
   apply region_factsG 14 (fun w' => SinceG w3 w')
   case hm=>kernel_rfl
   case hB=>kernel_rfl
   case hS=>exact(SinceG.rfl_ w3).drew
   case hmono=>exact(fun _ _ h k=>h.trans k)
   case hTb=>exact(fun g hg=>hg)
   case h =>
   simp only[List.take_succ_cons,List.take_zero,List.drop_succ_cons,List.drop_zero]
   iterate 12 (apply wpO_detG;(case hw=>rfl);(case h=>intro hFm wx hS_ hF_ K hK;go_big_quiet_op;first | exact hK _ rfl | (apply Exists.intro;refine⟨fun _=>?_,?_⟩;(focus (first | (intro hC;have hC:=KF.out _ hC.out.1;(try simp only[hC,Result.andThen]);first | exact⟨True.intro,rfl⟩ | exact⟨rfl,rfl⟩ | rfl)));exact hK _ rfl));(case' k=>simp only[Act.put,List.setIfInBounds_toArray,List.set_cons_succ,List.set_cons_zero,List.cons_append,List.nil_append]))
   apply wpO_mkG (f:=fun g=>.slice (some ⟨g,0,none⟩) 1 1) (t:=37) (cs := #[.int .i64 p.1,.int .i64 p.2,.int .i64 q.1,.int .i64 q.2])
   case hk=>trivial
   case hi=>(intro g g' h;simpa using h)
   case hw=>rfl
   case h=>(intro w;simp[go_sem])
   case k =>
   intro gs
   simp only[Act.put,List.setIfInBounds_toArray,List.set_cons_succ,List.set_cons_zero,List.cons_append,List.nil_append]
   apply wpO_anyG (R:=fun v' w' => w'.ownsRow (B+1) (A).t (A).k v' ((A).n+(A).m) ((A).xs++(A).news)∧(v'.ownBlock=(A).v.ownBlock∨∃ b,v'.ownBlock=some b∧w3.heap.size≤b))
   case hR=>exact fun v' w' w'' h k=>⟨k.post _ (List.mem_singleton.2 rfl) v' h.2 h.1,h.2⟩
   case hw=>rfl
   case h =>
    intro wx hS_ hF_
    refine runVG_app _ _ _ rfl rfl rfl ?_
    (
       obtain⟨hbg,-,-⟩:=factsOf_at (j:=12) (by decide) hF_
       exact ap_one HA.out HLO.out HO3.out hS_ (by omega) (Nat.le_refl _) _ _ i0 _ 32 Tryz.underlying27 HI.out.1 HI.out.2.1 HI.out.2.2.1 HI.out.2.2.2 rfl (by decide) _ _ rfl (blk4 hbg) (one4 _ _ _ _ _ _ _ _) (by unfold maxLen;omega) (by omega))
   case k =>
   intro v'
   simp only[Act.put,List.setIfInBounds_toArray,List.set_cons_succ,List.set_cons_zero,List.cons_append,List.nil_append]
   refine wpO_nilG ?_
   intro w10 hS hF hB
   (try simp[allF] at hF)
   (try simp[List.pairwise_cons] at hB)
   obtain⟨-,hown,hloc⟩:=hF
   have hb10:=KB.out _ hS
   have hS10:=ApK.since hS HS3.out (by omega) (fun A' hA' g e=>(HLO.out A' hA' g e).1)
   have ho10:w10.ownsRow (B+1) 37 4 v' (k+1) ((linK P H (k+1)).flatMap sgV):=by
    rw[HLK.out,List.flatMap_append]
    rw[HA.out] at hown
    simpa using hown
   have HW10:=Lib.hid (And.intro hS10 (And.intro hb10 ho10))
   clear hown hloc hS10 hb10 ho10 hS hB KF KB KC
   clear RG
   clear HLO HAV HA HO3 HBM3 HS3 HCU b1 b2 b3 b4 u1 u2 v1 v2
   have hw2:wrap64 ((h:Int)+2)=(h:Int)+2:=wrap_id (by have:=HHK.out;omega)
   clear hu hv hgP hBw3 hwB hk2 hx0 hx1 hy0 hy1 hkn i1 i2 i3 i4 hw1 hz
   go_wp2_with fail
   go_roundw
   case rel=>exact⟨k+1,by have:=HHK.out;omega,by rw[show((h:Int)+2)=((2*(k+1):Nat):Int) by have:=HHK.out;omega],HW10.out.1,HW10.out.2.1,HW10.out.2.2,fun i hi=>by
    rcases Nat.lt_or_ge i k with q | q
    ·exact HG.out i q
    ·obtain rfl:i=k:=by omega
     exact HLB.out⟩
   case measure=>simp[intOf];omega
  ·have hz:decide ((h:Int)+1<(nH:Int))=false:=by rw[decide_eq_false_iff_not];omega
   have hkH:k=H.length/2:=by rw[← HNH.out];have:=HHK.out;omega
   go_wp2_with fail
   go_ret2
   refine⟨.inl ⟨by rw[← hkH];exact HG.out,_,rfl,?_⟩,HS.out⟩
   rw[← hkH]
   exact HO.out.mono (by rw[HB.out];omega)
end
section
open Go.RowKit Go.BigFrame Go.Shelf Go.Lib Go.Proofs
attribute [local go_sem ↓] eqPt neqPt eqSgP neqSgP
theorem rowG_cell{w:World}{B g c n:Nat}{M:List Sg}(h:w.ownsRow B 37 4 (.slice (some ⟨g,0,none⟩) n c) n (M.flatMap sgV))(hn:M.length=n){k:Nat}(hk:k<n) :
  w.cell? ⟨g,k*4,none⟩=some (.int .i64 (sgAt M k).1.1)∧w.cell? ⟨g,k*4+1,none⟩=some (.int .i64 (sgAt M k).1.2)∧w.cell? ⟨g,k*4+2,none⟩=some (.int .i64 (sgAt M k).2.1)∧w.cell? ⟨g,k*4+3,none⟩=some (.int .i64 (sgAt M k).2.2):=by
 subst hn
 rw[sgAt_get hk]
 refine⟨?_,?_,?_,?_⟩
 ·rw[h.cellAt _ (by omega)];have:=flat_at sgV_len M k 0 hk (by decide);simpa[sgV] using this
 ·rw[h.cellAt _ (by omega),flat_at sgV_len M k 1 hk (by decide)];rfl
 ·rw[h.cellAt _ (by omega),flat_at sgV_len M k 2 hk (by decide)];rfl
 ·rw[h.cellAt _ (by omega),flat_at sgV_len M k 3 hk (by decide)];rfl
theorem rowG_set{w:World}{B g c n:Nat}{M:List Sg}(h:w.ownsRow B 37 4 (.slice (some ⟨g,0,none⟩) n c) n (M.flatMap sgV))(hn:M.length=n){k:Nat}(hk:k<n)(s:Sg) :
  ((((w.setCell ⟨g,k*4,none⟩ (.int .i64 s.1.1)).setCell ⟨g,k*4+1,none⟩ (.int .i64 s.1.2)).setCell ⟨g,k*4+2,none⟩ (.int .i64 s.2.1)).setCell ⟨g,k*4+3,none⟩ (.int .i64 s.2.2)).ownsRow B 37 4 (.slice (some ⟨g,0,none⟩) n c) n ((M.set k s).flatMap sgV):=by
 have h1:=own_setK (own_setK (own_setK (own_setK h (i:=k*4) (by omega) (.int .i64 s.1.1)) (i:=k*4+1) (by omega) (.int .i64 s.1.2)) (i:=k*4+2) (by omega) (.int .i64 s.2.1)) (i:=k*4+3) (by omega) (.int .i64 s.2.2)
 rw[flatG_set s M k (by omega)] at h1
 exact h1
set_option maxRecDepth 100000 in
theorem CloneS_any{L:List Sg}{w:World}{g o c:Nat}(hv:SegsS w (.slice (some ⟨g,o,none⟩) L.length c) L)(hl:L.length≤1000000) :
  Calls Tryz.prog 70 #[.slice (some ⟨g,o,none⟩) L.length c] w fun e w' => ∃ gC cC,e=.returned (.slice (some ⟨gC,0,none⟩) L.length cC)∧w'.ownsRow w.heap.size 37 4 (.slice (some ⟨gC,0,none⟩) L.length cC) L.length (L.flatMap sgV)∧Since w w' := by
 obtain⟨i0,hi0,hz0,hz1,hz3⟩:=info_parts infoSg
 obtain⟨a,c',e,-,hc⟩:=hv
 injection e with e1 e2 e3
 subst e1 e3
 have h:=AnyE.slices_Clone cloneSg i0 _ 4 32 hi0 hz0 hz1 hz3 rfl (by decide) Tryz.sizeOf37 g o L.length c (L.flatMap sgV) w (flatG_len L) (by unfold maxLen;omega) (by omega) (fun j u hj=>by
  have hjl:j<L.length*4:=by have:=(List.getElem?_eq_some_iff.1 hj).1;rw[flatG_len] at this;exact this
  obtain⟨k,r,hr,rfl⟩:∃ k r,r<4∧j=k*4+r:=⟨j/4,j % 4,by omega,by omega⟩
  have hk:k<L.length:=by omega
  rw[flat_at sgV_len L k r hk hr] at hj
  obtain⟨g',o',e',h1,h2,h3,h4⟩:=hc k hk
  injection e' with e'
  injection e' with v1 v2
  subst v1 v2
  rw[sgAt_get hk] at h1 h2 h3 h4
  rw[← Nat.add_assoc]
  rcases (show r=0∨r=1∨r=2∨r=3 by omega) with rfl | rfl | rfl | rfl <;> (simp only[sgV,List.getElem?_cons_zero,List.getElem?_cons_succ,Option.some.injEq] at hj;subst hj)
  ·exact h1
  ·exact h2
  ·exact h3
  ·exact h4) (fun u hu=>by
  obtain⟨s,-,hs⟩:=List.mem_flatMap.1 hu
  exact sgV_one s u hs)
 change Calls Tryz.prog 70 _ _ _ at h
 refine h.mono ?_
 rintro e w' ⟨v',rfl,ho,hn,hb⟩
 have ho' := ho
 obtain⟨-,⟨h1,-⟩ | ⟨g',cap,cur,h1,-⟩⟩:=ho'
 ·exact absurd h1 hn
 ·subst h1
  exact⟨g',cap,rfl,ho,hb⟩
set_option maxRecDepth 100000 in
set_option maxHeartbeats 4000000 in
theorem TBuild_any (g o c:Nat) (L:List Sg) (w:World) (hv:SegsS w (.slice (some ⟨g,o,none⟩) L.length c) L) (hok:∀ s∈L,SgOk s) (hl:L.length≤3000) :
  Calls Tryz.prog 46 #[.slice (some ⟨g,o,none⟩) L.length c] w fun e w' => ((RndOk (tbL L)∧∃ vP vH vF P H F,e=.returned (.tuple #[.agg #[vP,vH,vF],.int .i64 0])∧MapS w' w.heap.size vP vH vF P H F∧BldR (tbL L) P H F)∨(¬ RndOk (tbL L)∧e=.returned (.tuple #[.agg #[nilV,nilV,nilV],.int .i64 10])))∧Since w w' := by
 have HCL:=Lib.hid (fun w' (k:Since w w')=>CloneS_any (SegsS.keep hv (keepC k)) (by omega))
 have HOK:=Lib.hid hok
 obtain⟨n,HN⟩:∃ n,Hid (n=L.length):=⟨_,rfl⟩
 rw[← HN.out] at HCL hl ⊢
 clear hv hok
 obtain⟨B,HB⟩:∃ B,Hid (B=w.heap.size):=⟨_,rfl⟩
 have hBw:w.heap.size≤B:=by rw[HB.out];exact Nat.le_refl _
 go_enter Tryz.func46,Tryz.ntmps46
 go_upto_region 1 with fail
 rw[← HB.out]
 refine atW (fun w' => Hid (Since w w' ∧ Blk w' B 26 #[nilV,nilV,nilV])) ⟨(Since.rfl_ w).alloc _,Blk.new' HB.out⟩ ?_
 rintro w1 HW1
 go_upto_region 2 with(go_at_call 70;refine(HCL.out _ HW1.out.1).mono ?_;rintro e w2 ⟨gC,cC,rfl,ho,hs⟩)
 obtain⟨b,Hb⟩:∃ b,Hid (b=w1.heap.size):=⟨_,rfl⟩
 rw[← Hb.out] at ho
 have hBb:B<b:=by rw[Hb.out];exact HW1.out.2.lt
 have HO2:=Lib.hid ho
 have HW2:=Lib.hid (And.intro (HW1.out.1.trans hs) (hs.blk HW1.out.2))
 have hbC:b≤gC:=(ho.lt gC rfl).1
 clear ho hs HW1 HCL
 go_wp2_with fail
 go_loopw [11] (fun v11 wr=>∃ k:Nat,k≤n∧v11=.int .i64 k∧Hid (Since w wr∧Blk wr B 26 #[nilV,nilV,nilV])∧Hid (wr.ownsRow b 37 4 (.slice (some ⟨gC,0,none⟩) n cC) n ((orK L k).flatMap sgV))) (fun v11 _=>n-(intOf v11).toNat)
 case atStart=>exact⟨0,Nat.zero_le _,by go_num,HW2,HO2⟩
 case round =>
  clear HW2 HO2
  obtain⟨k,hk,rfl,HW,HO⟩:=hrel
  obtain⟨w3,rfl⟩:∃ w3,w3=wr:=⟨_,rfl⟩
  rcases Nat.lt_or_ge k n with hlt | hge
  ·have hz:decide ((k:Int)<(n:Int))=true:=by rw[decide_eq_true_eq];omega
   have hkl:k<L.length:=by rw[← HN.out];exact hlt
   obtain⟨h1,h2,h3,h4⟩:=rowG_cell HO.out (by rw[orK_len,HN.out]) hlt
   rw[orK_at hkl k (Nat.le_of_lt hkl),if_neg (Nat.lt_irrefl _)] at h1 h2 h3 h4
   obtain⟨s,hs⟩:∃ s,Hid (s=sgAt L k):=⟨_,rfl⟩
   rw[← hs.out] at h1 h2 h3 h4
   have HC:=Lib.hid (fun w=>Cmp_any s.1 s.2 w)
   obtain⟨x,HX⟩:∃ x,Hid (x=cmpP s.1 s.2):=⟨_,rfl⟩
   rw[← HX.out] at HC
   have k1:(0:Int)≤(k:Int):=by omega
   have k2:(k:Int)<(n:Int):=by omega
   go_upto_region 5 with fail
   obtain⟨G,HG⟩:∃ G,Hid (G=w3.heap.size):=⟨_,rfl⟩
   rw[← HG.out]
   refine atW (fun w' => Since w3 w' ∧ Blk w' G 37 #[.int .i64 s.1.1,.int .i64 s.1.2,.int .i64 s.2.1,.int .i64 s.2.2]) ⟨(Since.rfl_ w3).alloc _,Blk.new' HG.out⟩ ?_
   rintro w4 ⟨hs4,hb4⟩
   have r_0:=hb4.cell 0
   have r_1:=hb4.cell 1
   have r_2:=hb4.cell 2
   have r_3:=hb4.cell 3
   simp only[List.getElem?_toArray,List.getElem?_cons_zero,List.getElem?_cons_succ] at r_0 r_1 r_2 r_3
   have HS4:=Lib.hid (And.intro hs4 hb4)
   clear hs4 hb4 h1 h2 h3 h4
   go_wp2_with fail
   refine(HC.out _).mono ?_
   rintro e w5 ⟨rfl,hq⟩
   have hs:Since w4 w5:=by
    obtain⟨q,os,rfl⟩:=hq
    exact grown_since _ _ _
   have HW5:Hid (Since w w5∧Blk w5 B 26 #[nilV,nilV,nilV]):=⟨HW.out.1.trans (HS4.out.1.trans hs),(HS4.out.1.trans hs).blk HW.out.2⟩
   have HO5:=Lib.hid (own_since (HS4.out.1.trans hs) HO.out)
   have HB5:=Lib.hid (hs.blk HS4.out.2)
   clear hs hq HW HO HS4 HC r_0 r_1 r_2 r_3
   by_cases hx:0<x
   ·have hx1:decide (0<x)=true:=by rw[decide_eq_true_eq];exact hx
    obtain⟨f1,f2,f3,f4⟩:=rowG_cell HO5.out (by rw[orK_len,HN.out]) hlt
    have fr:∀ j,w5.frozen? ⟨gC,j,none⟩=false:=fun j=>HO5.out.frozenAt j
    have fr0:=fr (k*4)
    have fr1:=fr (k*4+1)
    have fr2:=fr (k*4+2)
    have fr3:=fr (k*4+3)
    have r_0:=HB5.out.cell 0
    have r_1:=HB5.out.cell 1
    have r_2:=HB5.out.cell 2
    have r_3:=HB5.out.cell 3
    simp only[List.getElem?_toArray,List.getElem?_cons_zero,List.getElem?_cons_succ] at r_0 r_1 r_2 r_3
    have HO6:Hid (((((w5.setCell ⟨gC,k*4,none⟩ (.int .i64 s.2.1)).setCell ⟨gC,k*4+1,none⟩ (.int .i64 s.2.2)).setCell ⟨gC,k*4+2,none⟩ (.int .i64 s.1.1)).setCell ⟨gC,k*4+3,none⟩ (.int .i64 s.1.2)).ownsRow b 37 4 (.slice (some ⟨gC,0,none⟩) n cC) n ((orK L (k+1)).flatMap sgV)):=by
     show World.ownsRow _ _ _ _ _ _ (((orK L k).set k (ornt (sgAt L k))).flatMap sgV)
     rw[← hs.out,show ornt s=(s.2,s.1) by unfold ornt;rw[if_pos (by rw[← HX.out];exact hx)]]
     exact rowG_set HO5.out (by rw[orK_len,HN.out]) hlt (s.2,s.1)
    have hwC:w.heap.size≤gC:=by omega
    have hne:B≠gC:=by omega
    clear hx
    go_upto_region 7 with fail
    refine atW (fun w' => Hid (Since w w' ∧ Blk w' B 26 #[nilV,nilV,nilV])∧Hid (w'.ownsRow b 37 4 (.slice (some ⟨gC,0,none⟩) n cC) n ((orK L (k+1)).flatMap sgV))) ⟨⟨(((HW5.out.1.setCell (p:=⟨gC,k*4,none⟩) hwC _).setCell (p:=⟨gC,k*4+1,none⟩) hwC _).setCell (p:=⟨gC,k*4+2,none⟩) hwC _).setCell (p:=⟨gC,k*4+3,none⟩) hwC _,(((HW5.out.2.far (by dsimp only;omega) _).far (by dsimp only;omega) _).far (by dsimp only;omega) _).far (by dsimp only;omega) _⟩,HO6⟩ ?_
    clear f1 f2 f3 f4 fr fr0 fr1 fr2 fr3 r_0 r_1 r_2 r_3 HO5 HO6 HW5 HB5
    rintro w6 ⟨HW6,HO6⟩
    go_wp2_with fail
    go_roundw
    case rel=>exact⟨k+1,by omega,by go_num,HW6,HO6⟩
    case measure=>simp[intOf];omega
   ·have hx1:decide (0<x)=false:=by rw[decide_eq_false_iff_not];exact hx
    have HO6:Hid (w5.ownsRow b 37 4 (.slice (some ⟨gC,0,none⟩) n cC) n ((orK L (k+1)).flatMap sgV)):=by
     show World.ownsRow _ _ _ _ _ _ _
     rw[orK_eq hkl (by rw[← hs.out,← HX.out];exact hx)]
     exact HO5.out
    clear hx HO5
    go_wp2_with fail
    go_roundw
    case rel=>exact⟨k+1,by omega,by go_num,HW5,HO6⟩
    case measure=>simp[intOf];omega
  ·obtain rfl:n=k:=by omega
   have hz:decide ((n:Int)<(n:Int))=false:=by rw[decide_eq_false_iff_not];omega
   have HO3:Hid (w3.ownsRow b 37 4 (.slice (some ⟨gC,0,none⟩) n cC) n ((L.map ornt).flatMap sgV)):=by
    have:=HO.out
    rw[show orK L n=L.map ornt by rw[HN.out];exact orK_all L] at this
    exact this
   clear HO
   have HSO:=Lib.hid (sortT_any gC cC n b (L.map ornt) w3 HO3.out (by rw[List.length_map,HN.out]) (by omega))
   go_upto_region 9 with(go_at_call 71;(with_reducible refine(HSO.out).mono ?_);rintro e w4 ⟨rfl,ho,hg⟩)
   have HW4:Hid (Since w w4∧Blk w4 B 26 #[nilV,nilV,nilV]):=⟨Only.since HW.out.1 hg (by omega),hg.blk HW.out.2 (by omega)⟩
   have HO4:Hid (w4.ownsRow b 37 4 (.slice (some ⟨gC,0,none⟩) n cC) n ((tbL L).flatMap sgV)):=ho
   obtain⟨M,HM⟩:∃ M,Hid (M=tbL L):=⟨_,rfl⟩
   have HML:Hid (M.length=n):=by show _=_;rw[HM.out,tbL_len,HN.out]
   have HDU:Hid (∀ i,i+1<n→sgAt M i=sgAt M (i+1)→¬ RndOk M):=fun i hi e=>by rw[HM.out] at e ⊢;exact tbL_dup (by rw[← HN.out];exact hi) e
   have HPR:Hid ((∀ i,i+1<n→sgAt M i≠sgAt M (i+1))→PreOk M):=fun h=>by rw[HM.out] at h ⊢;exact tbL_pre HOK.out (by rw[← HN.out];exact h)
   rw[← HM.out] at HO4
   have HQM:Hid (∀ (e:Ending) w',(((RndOk M∧∃ vP vH vF P H F,e=.returned (.tuple #[.agg #[vP,vH,vF],.int .i64 0])∧MapS w' w.heap.size vP vH vF P H F∧BldR M P H F)∨(¬ RndOk M∧e=.returned (.tuple #[.agg #[nilV,nilV,nilV],.int .i64 10])))∧Since w w')→((RndOk (tbL L)∧∃ vP vH vF P H F,e=.returned (.tuple #[.agg #[vP,vH,vF],.int .i64 0])∧MapS w' w.heap.size vP vH vF P H F∧BldR (tbL L) P H F)∨(¬ RndOk (tbL L)∧e=.returned (.tuple #[.agg #[nilV,nilV,nilV],.int .i64 10])))∧Since w w'):=fun e w' h=>by rw[← HM.out];exact h
   clear ho hg HO3 HW HSO HOK hz
   go_wp2_with fail
   go_loopw [6] (fun v6 wr=>∃ k:Nat,1≤k∧(k≤n∨k=1)∧v6=.int .i64 k∧Hid (Since w wr∧Blk wr B 26 #[nilV,nilV,nilV])∧Hid (wr.ownsRow b 37 4 (.slice (some ⟨gC,0,none⟩) n cC) n (M.flatMap sgV))∧Hid (∀ i,i+1<k→sgAt M i≠sgAt M (i+1))) (fun v6 _=>n-(intOf v6).toNat)
   case atStart=>exact⟨1,Nat.le_refl _,.inr rfl,by go_num,HW4,HO4,fun i hi=>absurd hi (by omega)⟩
   case round =>
    clear HW4 HO4
    obtain⟨k,hk1,hk2,rfl,HW,HO,HD⟩:=hrel
    obtain⟨w5,rfl⟩:∃ w5,w5=wr:=⟨_,rfl⟩
    rcases Nat.lt_or_ge k n with hlt | hge
    ·obtain⟨i,hi⟩:∃ i,Hid (k=i+1):=⟨k-1,by show _=_;omega⟩
     have hz2:decide ((k:Int)<(n:Int))=true:=by rw[decide_eq_true_eq];omega
     obtain⟨h1,h2,h3,h4⟩:=rowG_cell HO.out HML.out hlt
     obtain⟨l1,l2,l3,l4⟩:=rowG_cell HO.out HML.out (k:=i) (by have:=hi.out;omega)
     obtain⟨s,hs⟩:∃ s,Hid (s=sgAt M k):=⟨_,rfl⟩
     obtain⟨t,ht⟩:∃ t,Hid (t=sgAt M i):=⟨_,rfl⟩
     rw[← hs.out] at h1 h2 h3 h4
     rw[← ht.out] at l1 l2 l3 l4
     have iw:IntKind.i64.wrap ((k:Int)-1)=(i:Int):=by
      have:=hi.out
      rw[i64wc,show(k:Int)-1=i by omega]
      exact wrap_id (by omega)
     have i1:(0:Int)≤(k:Int):=by omega
     have i2:(k:Int)<(n:Int):=by omega
     have i3:(0:Int)≤(i:Int):=by omega
     have i4:(i:Int)<(n:Int):=by have:=hi.out;omega
     by_cases hst:s=t
     ·have hb:eqG s t=true:=by unfold eqG;rw[decide_eq_true_eq];exact hst
      have HNR:Hid (¬ RndOk M):=HDU.out i (by rw[← hi.out];exact hlt) (by rw[← hi.out,← hs.out,← ht.out];exact hst.symm)
      clear hst
      go_upto_region 12 with fail
      go_quiet (fail)
      go_upto_region 13 with fail
      refine atW (fun w' => Hid (Since w w' ∧ Blk w' B 26 #[nilV,nilV,nilV])) ⟨HW.out.1.drewN _,HW.out.2⟩ ?_
      clear h1 h2 h3 h4 l1 l2 l3 l4 HW HO
      rintro w6 HW6
      have HBB:=Lib.hid HW6.out.2
      have b0:=HBB.out.cell 0
      have b1:=HBB.out.cell 1
      have b2:=HBB.out.cell 2
      have d0:=HBB.out.frozen 0
      have d1:=HBB.out.frozen 1
      have d2:=HBB.out.frozen 2
      simp only[List.getElem?_toArray,List.getElem?_cons_zero,List.getElem?_cons_succ] at b0 b1 b2
      have HSF:=Lib.hid (((HW6.out.1.setCell (p:=⟨B,0,none⟩) hBw nilV).setCell (p:=⟨B,1,none⟩) hBw nilV).setCell (p:=⟨B,2,none⟩) hBw nilV)
      clear HW6 HBB
      go_wp2_with fail
      refine bodyPost_ret (v:=.tuple #[.agg #[.slice none 0 0,.slice none 0 0,.slice none 0 0],.int .i64 10]) (by simp[results,Tryz.results46,go_sem,cSetS,cSetO,cellDrew,b0,b1,b2,d0,d1,d2]) rfl (HQM.out _ _ ⟨.inr ⟨HNR.out,rfl⟩,HSF.out⟩)
     ·have hb:eqG s t=false:=by unfold eqG;rw[decide_eq_false_iff_not];exact hst
      have HD2:Hid (∀ j,j+1<k+1→sgAt M j≠sgAt M (j+1)):=fun j hj=>by
       rcases Nat.lt_or_ge (j+1) k with q | q
       ·exact HD.out j q
       ·have e:j=i:=by have:=hi.out;omega
        rw[e,← hi.out,← ht.out,← hs.out]
        exact Ne.symm hst
      clear hst
      go_upto_region 12 with fail
      go_quiet (fail)
      go_wp2_with fail
      go_roundw
      case rel=>exact⟨k+1,by omega,by omega,by go_num,⟨HW.out.1.drewN _,HW.out.2⟩,HO.out,HD2⟩
      case measure=>simp[intOf];omega
    ·have hz2:decide ((k:Int)<(n:Int))=false:=by rw[decide_eq_false_iff_not];omega
     have HPM:=Lib.hid (HPR.out fun i hi=>HD.out i (by omega))
     clear HPR HD HDU
     by_cases hr:RndOk M
     ·have HBO:=Lib.hid (show Calls Tryz.prog 40 #[.slice (some ⟨gC,0,none⟩) n cC] w5 fun e w' => ∃ (vP vH vF:Value) (P:List Pt2) (H:List Hf) (F:List Int),e=.returned (.tuple #[.agg #[vP,vH,vF],.int .i64 0])∧Since w5 w' ∧ MapS w' w5.heap.size vP vH vF P H F∧BldR M P H F from by
       rcases Nat.eq_zero_or_pos n with e0 | hp
       ·have eM:M=[]:=List.eq_nil_of_length_eq_zero (HML.out.trans e0)
        rw[e0,eM]
        exact BuildE_any _ _ _
       ·have ho:w5.ownsRow b 37 4 (.slice (some ⟨gC,0,none⟩) n cC) M.length (M.flatMap sgV):=by rw[HML.out];exact HO.out
        exact Build_any _ M w5 (own_segsN ho (fun e=>by have:=HML.out;rw[e] at this;simp at this;omega)) hr (by rw[HML.out];exact hl))
      have HRO:=Lib.hid hr
      clear hr
      go_wp2_with fail
      refine(HBO.out).mono ?_
      rintro e w6 ⟨vP,vH,vF,P,H,F,rfl,hs,hm,hbl⟩
      have HSS:=Lib.hid (HW.out.1.trans hs)
      have HBB:=Lib.hid (hs.blk HW.out.2)
      have HM6:=Lib.hid hm
      have HBL:=Lib.hid hbl
      have hlt5:B<w5.heap.size:=HW.out.2.lt
      have hsz5:w.heap.size≤w5.heap.size:=HW.out.1.size
      obtain⟨aP,cP,hvP⟩:∃ a c,vP=.slice a P.length c:=Rws.slice hm (i:=0) rfl
      obtain⟨aH,cH,hvH⟩:∃ a c,vH=.slice a H.length c:=Rws.slice hm (i:=1) rfl
      obtain⟨aF,cF,hvF⟩:∃ a c,vF=.slice a F.length c:=Rws.slice hm (i:=2) rfl
      subst hvP hvH hvF
      have b0:=HBB.out.cell 0
      have b1:=HBB.out.cell 1
      have b2:=HBB.out.cell 2
      have d0:=HBB.out.frozen 0
      have d1:=HBB.out.frozen 1
      have d2:=HBB.out.frozen 2
      simp only[List.getElem?_toArray,List.getElem?_cons_zero,List.getElem?_cons_succ] at b0 b1 b2
      have HSF:=Lib.hid (((HSS.out.setCell (p:=⟨B,0,none⟩) hBw (.slice aP P.length cP)).setCell (p:=⟨B,1,none⟩) hBw (.slice aH H.length cH)).setCell (p:=⟨B,2,none⟩) hBw (.slice aF F.length cF))
      have HMF:Hid (MapS (((w6.setCell ⟨B,0,none⟩ (.slice aP P.length cP)).setCell ⟨B,1,none⟩ (.slice aH H.length cH)).setCell ⟨B,2,none⟩ (.slice aF F.length cF)) w5.heap.size (.slice aP P.length cP) (.slice aH H.length cH) (.slice aF F.length cF) P H F) :=
       (((Rws.low HM6.out (p:=⟨B,0,none⟩) hlt5 _).low (p:=⟨B,1,none⟩) hlt5 _).low (p:=⟨B,2,none⟩) hlt5 _)
      clear hs hm hbl HSS HBB HM6 HW HO HBO
      go_wp2_with fail
      refine bodyPost_ret (v:=.tuple #[.agg #[.slice aP P.length cP,.slice aH H.length cH,.slice aF F.length cF],.int .i64 0]) (by simp[results,Tryz.results46,go_sem,cSetS,cSetO,cellDrew,b0,b1,b2,d0,d1,d2]) rfl (HQM.out _ _ ⟨.inl ⟨HRO.out,_,_,_,P,H,F,rfl,Rws.mono HMF.out hsz5,HBL.out⟩,HSF.out⟩)
     ·have hn0:0<n:=by
       rcases Nat.eq_zero_or_pos n with e0 | hp
       ·have eM:M=[]:=List.eq_nil_of_length_eq_zero (HML.out.trans e0)
        exact absurd (by rw[eM];exact⟨by simp,by unfold SrtG;simp,by simp,by simp⟩) hr
       ·exact hp
      have HBO:=Lib.hid (show Calls Tryz.prog 40 #[.slice (some ⟨gC,0,none⟩) n cC] w5 fun e w' => e=.returned (.tuple #[.agg #[nilV,nilV,nilV],.int .i64 10])∧Since w5 w' from by
       have ho:w5.ownsRow b 37 4 (.slice (some ⟨gC,0,none⟩) n cC) M.length (M.flatMap sgV):=by rw[HML.out];exact HO.out
       exact BuildN_any _ M w5 (own_segsN ho (fun e=>by have:=HML.out;rw[e] at this;simp at this;omega)) HPM.out hr (by rw[HML.out];exact hl))
      have HNR:=Lib.hid hr
      clear hr
      go_wp2_with fail
      refine(HBO.out).mono ?_
      rintro e w6 ⟨rfl,hs⟩
      have HSS:=Lib.hid (HW.out.1.trans hs)
      have HBB:=Lib.hid (hs.blk HW.out.2)
      have b0:=HBB.out.cell 0
      have b1:=HBB.out.cell 1
      have b2:=HBB.out.cell 2
      have d0:=HBB.out.frozen 0
      have d1:=HBB.out.frozen 1
      have d2:=HBB.out.frozen 2
      simp only[List.getElem?_toArray,List.getElem?_cons_zero,List.getElem?_cons_succ] at b0 b1 b2
      have HSF:=Lib.hid (((HSS.out.setCell (p:=⟨B,0,none⟩) hBw nilV).setCell (p:=⟨B,1,none⟩) hBw nilV).setCell (p:=⟨B,2,none⟩) hBw nilV)
      clear hs HSS HBB HW HO HBO
      unfold nilV at *
      go_wp2_with fail
      refine bodyPost_ret (v:=.tuple #[.agg #[.slice none 0 0,.slice none 0 0,.slice none 0 0],.int .i64 10]) (by simp[results,Tryz.results46,go_sem,cSetS,cSetO,cellDrew,b0,b1,b2,d0,d1,d2]) rfl (HQM.out _ _ ⟨.inr ⟨HNR.out,rfl⟩,HSF.out⟩)
end
section
open Go.RowKit Go.BigFrame
end
end Go.Proofs.YtdnccjdlmepafaaGreat
