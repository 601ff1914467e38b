/-
  Walks of point.Dot, point.On, terrkeep3.strips; Plain law: the edges of a hull meet at their common corners alone; The walk of seg.shared's closure; The walk of seg.shared; A region that draws its order, in which some blocks are filled with known contents (stores that may come early); walked once in the order of the text. Conditions: those that each lemma names.
-/
import Derived.Test.YtdnccjdlmepafaaGreatK05
import Derived.Test.YtdnccjdlmepafaaGreatK03
set_option linter.unusedSimpArgs false
set_option linter.unusedVariables false
set_option linter.constructorNameAsVariable false
namespace Go.Proofs.YtdnccjdlmepafaaGreat
section
open Go.RowKit Go.BigFrame
attribute [local go_sem ↓] eqPt neqPt
def dotV(ax ay bx by_ px py:Int):Int:=(bx-ax)*(px-ax)+(by_-ay)*(py-ay)
set_option maxHeartbeats 1000000 in
theorem Dot_any(ax ay bx by_ cx cy:Int)(w:World):Calls Tryz.prog 53 #[.agg #[.int .i64 ax,.int .i64 ay],.agg #[.int .i64 bx,.int .i64 by_],.agg #[.int .i64 cx,.int .i64 cy]] w fun e w' =>
  e=.returned (.int .i64 (dotV (clampI ax) (clampI ay) (clampI bx) (clampI by_) (clampI cx) (clampI cy)))∧Since w w' := by
 have q1:=clampI_bd ax
 have q2:=clampI_bd ay
 have q3:=clampI_bd bx
 have q4:=clampI_bd by_
 have q5:=clampI_bd cx
 have q6:=clampI_bd cy
 have m1:((clampI bx-clampI ax)*(clampI cx-clampI ax)).natAbs≤4398046511104:=Nat.le_trans (mul_bd (A:=2097152) (B:=2097152) (by omega) (by omega)) (by decide)
 have m2:((clampI by_-clampI ay)*(clampI cy-clampI ay)).natAbs≤4398046511104:=Nat.le_trans (mul_bd (A:=2097152) (B:=2097152) (by omega) (by omega)) (by decide)
 have e1:wrap64 ((clampI bx-clampI ax)*(clampI cx-clampI ax))=(clampI bx-clampI ax)*(clampI cx-clampI ax):=wrap_id (by omega)
 have e2:wrap64 ((clampI by_-clampI ay)*(clampI cy-clampI ay))=(clampI by_-clampI ay)*(clampI cy-clampI ay):=wrap_id (by omega)
 have e3:wrap64 ((clampI bx-clampI ax)*(clampI cx-clampI ax)+(clampI by_-clampI ay)*(clampI cy-clampI ay))=(clampI bx-clampI ax)*(clampI cx-clampI ax)+(clampI by_-clampI ay)*(clampI cy-clampI ay):=wrap_id (by omega)
 clear m1 m2 q1 q2 q3 q4 q5 q6
 go_enter Tryz.func53,Tryz.ntmps53
 go_upto_region 1 with fail
 refine atW (fun w' => Blk w' w.heap.size 36 #[.int .i64 ax,.int .i64 ay]∧Blk w' (w.heap.size+1) 36 #[.int .i64 bx,.int .i64 by_]∧Blk w' (w.heap.size+1+1) 36 #[.int .i64 cx,.int .i64 cy]∧Since w w') ⟨((Blk.new w _ _).alloc _).alloc _,(Blk.new' (by simp)).alloc _,Blk.new' (by simp),(((Since.rfl_ w).alloc _).alloc _).alloc _⟩ ?_
 rintro w1 ⟨ha,hb,hr,hs⟩
 have a0:w1.cell? ⟨w.heap.size,0,none⟩=some (.int .i64 ax):=ha.cell 0
 have a1:w1.cell? ⟨w.heap.size,1,none⟩=some (.int .i64 ay):=ha.cell 1
 have b0:w1.cell? ⟨w.heap.size+1,0,none⟩=some (.int .i64 bx):=hb.cell 0
 have b1:w1.cell? ⟨w.heap.size+1,1,none⟩=some (.int .i64 by_):=hb.cell 1
 have c0:w1.cell? ⟨w.heap.size+1+1,0,none⟩=some (.int .i64 cx):=hr.cell 0
 have c1:w1.cell? ⟨w.heap.size+1+1,1,none⟩=some (.int .i64 cy):=hr.cell 1
 have HB:=Lib.hid (And.intro ha (And.intro hb (And.intro hr hs)))
 clear ha hb hr hs
 apply region_facts 8 (fun w' => w'.cell? ⟨w.heap.size,0,none⟩=some (.int .i64 ax)∧w'.cell? ⟨w.heap.size,1,none⟩=some (.int .i64 ay)∧w'.cell? ⟨w.heap.size+1,0,none⟩=some (.int .i64 bx)∧w'.cell? ⟨w.heap.size+1,1,none⟩=some (.int .i64 by_)∧w'.cell? ⟨w.heap.size+1+1,0,none⟩=some (.int .i64 cx)∧w'.cell? ⟨w.heap.size+1+1,1,none⟩=some (.int .i64 cy)∧Since w1 w')
 case hm=>kernel_rfl
 case hB=>kernel_rfl
 case hS=>exact⟨a0,a1,b0,b1,c0,c1,(Since.rfl_ w1).drew⟩
 case h =>
 simp only[List.take_succ_cons,List.take_zero,List.drop_succ_cons,List.drop_zero]
 iterate 2 (apply wpO_det;(case hw=>rfl);(case h=>intro hFm wx hS_ hF_ K hK;go_big_quiet_op;first | exact hK _ rfl | (apply Exists.intro;refine⟨fun _=>?_,?_⟩;(focus (first | (intro hC;have hC:=hC.out;(try simp only[hC,Result.andThen]);first | exact⟨True.intro,rfl⟩ | exact⟨rfl,rfl⟩ | rfl)));exact hK _ rfl));(case' k=>simp only[Act.put,List.setIfInBounds_toArray,List.set_cons_succ,List.set_cons_zero,List.cons_append,List.nil_append]))
 (apply wpO_det;(case hw=>rfl);(case h=>intro hFm wx hS_ hF_ K hK;go_big_quiet_op;first | exact hK _ rfl | (apply Exists.intro;refine⟨fun _=>?_,?_⟩;(focus (first | (intro hC;go_at_call 75;refine(way_any _ _ _ _ _).mono ?_;rintro e w' ⟨rfl,hb⟩;refine⟨rfl,?_⟩;exact cls_call hFm hC hb)));exact hK _ rfl));(case' k=>simp only[Act.put,List.setIfInBounds_toArray,List.set_cons_succ,List.set_cons_zero,List.cons_append,List.nil_append]))
 iterate 2 (apply wpO_det;(case hw=>rfl);(case h=>intro hFm wx hS_ hF_ K hK;go_big_quiet_op;first | exact hK _ rfl | (apply Exists.intro;refine⟨fun _=>?_,?_⟩;(focus (first | (intro hC;have hC:=hC.out;(try simp only[hC,Result.andThen]);first | exact⟨True.intro,rfl⟩ | exact⟨rfl,rfl⟩ | rfl)));exact hK _ rfl));(case' k=>simp only[Act.put,List.setIfInBounds_toArray,List.set_cons_succ,List.set_cons_zero,List.cons_append,List.nil_append]))
 (apply wpO_det;(case hw=>rfl);(case h=>intro hFm wx hS_ hF_ K hK;go_big_quiet_op;first | exact hK _ rfl | (apply Exists.intro;refine⟨fun _=>?_,?_⟩;(focus (first | (intro hC;go_at_call 75;refine(way_any _ _ _ _ _).mono ?_;rintro e w' ⟨rfl,hb⟩;refine⟨rfl,?_⟩;exact cls_call hFm hC hb)));exact hK _ rfl));(case' k=>simp only[Act.put,List.setIfInBounds_toArray,List.set_cons_succ,List.set_cons_zero,List.cons_append,List.nil_append]))
 apply wpO_mk (f:=fun g=>.pointer (some ⟨g,0,none⟩)) (t:=36) (cs := #[.int .i64 0,.int .i64 0])
 case hi=>(intro g g' h;simpa using h)
 case hw=>rfl
 case h=>(intro w;simp[go_sem])
 case k =>
 intro g1
 simp only[Act.put,List.setIfInBounds_toArray,List.set_cons_succ,List.set_cons_zero,List.cons_append,List.nil_append]
 apply wpO_mk (f:=fun g=>.pointer (some ⟨g,0,none⟩)) (t:=36) (cs := #[.int .i64 0,.int .i64 0])
 case hi=>(intro g g' h;simpa using h)
 case hw=>rfl
 case h=>(intro w;simp[go_sem])
 case k =>
 intro g2
 simp only[Act.put,List.setIfInBounds_toArray,List.set_cons_succ,List.set_cons_zero,List.cons_append,List.nil_append]
 refine wpO_nil ?_
 intro w2 hS hF hB
 (try simp[allF] at hF)
 (try simp[List.pairwise_cons] at hB)
 obtain⟨⟨h1,l1⟩,h2,l2⟩:=hF
 have p_0:=h1.cell 0
 have p_1:=h1.cell 1
 have p_f0:=h1.frozen 0
 have p_f1:=h1.frozen 1
 simp only[List.getElem?_toArray,List.getElem?_cons_zero,List.getElem?_cons_succ] at p_0 p_1
 have q_0:=h2.cell 0
 have q_1:=h2.cell 1
 have q_f0:=h2.frozen 0
 have q_f1:=h2.frozen 1
 simp only[List.getElem?_toArray,List.getElem?_cons_zero,List.getElem?_cons_succ] at q_0 q_1
 have HS:=Lib.hid (HB.out.2.2.2.trans hS.2.2.2.2.2.2)
 have hsz:=HB.out.2.2.2.size
 clear hS h1 h2 a0 a1 b0 b1 c0 c1 HB
 go_wp2
 go_ret
 exact⟨ret_int (by unfold dotV;first | exact e3 | rfl),(((HS.out.setCell (by dsimp only;omega) _).setCell (by dsimp only;omega) _).setCell (by dsimp only;omega) _).setCell (by dsimp only;omega) _⟩
def onV(a b p:Pt2):Bool:=(turnV a.1 a.2 b.1 b.2 p.1 p.2 == 0) && decide (dotV (clampI p.1) (clampI p.2) (clampI a.1) (clampI a.2) (clampI b.1) (clampI b.2)≤0)
set_option maxHeartbeats 1000000 in
theorem On_any(a b p:Pt2)(w:World):Calls Tryz.prog 33 #[.agg #[.int .i64 a.1,.int .i64 a.2],.agg #[.int .i64 b.1,.int .i64 b.2],.agg #[.int .i64 p.1,.int .i64 p.2]] w fun e w' =>
  e=.returned (.bool (onV a b p))∧Since w w' := by
 have HF:Hid (onV a b p=((turnV a.1 a.2 b.1 b.2 p.1 p.2 == 0) && decide (dotV (clampI p.1) (clampI p.2) (clampI a.1) (clampI a.2) (clampI b.1) (clampI b.2)≤0))):=rfl
 go_enter Tryz.func33,Tryz.ntmps33
 go_upto_region 1 with fail
 refine atW (fun w' => Blk w' w.heap.size 36 #[.int .i64 a.1,.int .i64 a.2]∧Blk w' (w.heap.size+1) 36 #[.int .i64 b.1,.int .i64 b.2]∧Blk w' (w.heap.size+1+1) 36 #[.int .i64 p.1,.int .i64 p.2]∧Since w w') ⟨((Blk.new w _ _).alloc _).alloc _,(Blk.new' (by simp)).alloc _,Blk.new' (by simp),(((Since.rfl_ w).alloc _).alloc _).alloc _⟩ ?_
 rintro w1 ⟨ha,hb,hr,hs⟩
 have a0:w1.cell? ⟨w.heap.size,0,none⟩=some (.int .i64 a.1):=ha.cell 0
 have a1:w1.cell? ⟨w.heap.size,1,none⟩=some (.int .i64 a.2):=ha.cell 1
 have b0:w1.cell? ⟨w.heap.size+1,0,none⟩=some (.int .i64 b.1):=hb.cell 0
 have b1:w1.cell? ⟨w.heap.size+1,1,none⟩=some (.int .i64 b.2):=hb.cell 1
 have c0:w1.cell? ⟨w.heap.size+1+1,0,none⟩=some (.int .i64 p.1):=hr.cell 0
 have c1:w1.cell? ⟨w.heap.size+1+1,1,none⟩=some (.int .i64 p.2):=hr.cell 1
 have HB:=Lib.hid (And.intro ha (And.intro hb (And.intro hr hs)))
 clear ha hb hr hs
 go_wp2_with fail
 refine(Turn_any _ _ _ _ _ _ _).mono ?_
 rintro e w2 ⟨rfl,hs⟩
 have ha:=hs.blk HB.out.1
 have hb:=hs.blk HB.out.2.1
 have hr:=hs.blk HB.out.2.2.1
 have HS2:=Lib.hid (HB.out.2.2.2.trans hs)
 clear hs a0 a1 b0 b1 c0 c1 HB
 have a0:w2.cell? ⟨w.heap.size,0,none⟩=some (.int .i64 a.1):=ha.cell 0
 have a1:w2.cell? ⟨w.heap.size,1,none⟩=some (.int .i64 a.2):=ha.cell 1
 have b0:w2.cell? ⟨w.heap.size+1,0,none⟩=some (.int .i64 b.1):=hb.cell 0
 have b1:w2.cell? ⟨w.heap.size+1,1,none⟩=some (.int .i64 b.2):=hb.cell 1
 have c0:w2.cell? ⟨w.heap.size+1+1,0,none⟩=some (.int .i64 p.1):=hr.cell 0
 have c1:w2.cell? ⟨w.heap.size+1+1,1,none⟩=some (.int .i64 p.2):=hr.cell 1
 clear ha hb hr
 generalize turnV a.1 a.2 b.1 b.2 p.1 p.2=tv at *
 cases hz:(tv == 0)
 ·go_wp2_with fail
  go_ret
  exact⟨ret_bool (by rw[HF.out,hz];rfl),HS2.out⟩
 ·go_wp2_with fail
  refine(Dot_any _ _ _ _ _ _ _).mono ?_
  rintro e w3 ⟨rfl,hs⟩
  have HS3:=Lib.hid (HS2.out.trans hs)
  clear hs a0 a1 b0 b1 c0 c1
  go_wp2_with fail
  go_ret
  exact⟨ret_bool (by rw[HF.out,hz];rfl),HS3.out⟩
theorem onV_ok{a b p:Pt2}(ha:okP a.1 a.2=true)(hb:okP b.1 b.2=true)(hp:okP p.1 p.2=true)(h:onV a b p=true):crs a b p=0∧(a.1-p.1)*(b.1-p.1)+(a.2-p.2)*(b.2-p.2)≤0:=by
 unfold onV at h
 rw[Bool.and_eq_true,decide_eq_true_eq,beq_iff_eq,turn_crs ha hb hp,(clamp_id ha).1,(clamp_id ha).2,(clamp_id hb).1,(clamp_id hb).2,(clamp_id hp).1,(clamp_id hp).2] at h
 refine⟨?_,h.2⟩
 have:=h.1
 unfold cmpI at this
 split at this
 ·omega
 ·split at this <;> omega
end
section

end
section
open Go.RowKit Go.BigFrame
attribute [local go_sem ↓] eqPt neqPt
def addS(L:List Pt2)(p q r:Pt2):List Pt2:=if onV q r p=true∧p∉L then L++[p] else L
theorem On_val{a b p:Pt2}{c:Bool}(h:onV a b p=c)(w:World):Calls Tryz.prog 33 #[.agg #[.int .i64 a.1,.int .i64 a.2],.agg #[.int .i64 b.1,.int .i64 b.2],.agg #[.int .i64 p.1,.int .i64 p.2]] w fun e w' =>
  e=.returned (.bool c)∧Since w w' := h ▸ On_any a b p w
set_option maxRecDepth 100000 in
set_option maxHeartbeats 4000000 in
theorem add_any(gs B:Nat)(L:List Pt2)(p q r:Pt2)(v:Value)(w:World)(hb:Blk w gs 23 #[v])(ho:w.ownsRow B 36 2 v L.length (L.flatMap ptV))(hB:gs<B)(hBw:B≤w.heap.size)(hl:L.length≤4) :
  Calls Tryz.prog 148 #[.agg #[.int .i64 p.1,.int .i64 p.2],.agg #[.int .i64 q.1,.int .i64 q.2],.agg #[.int .i64 r.1,.int .i64 r.2],.pointer (some ⟨gs,0,none⟩)] w fun e w' =>
   e=.returned (.tuple #[])∧∃ v',Blk w' gs 23 #[v']∧w'.ownsRow B 36 2 v' (addS L p q r).length ((addS L p q r).flatMap ptV)∧Below gs w w' ∧ B≤w'.heap.size:=by
 have HB:=Lib.hid hb
 have HO:=Lib.hid ho
 have hgl:=hb.lt
 obtain⟨av,cv,rfl⟩:=own_slice ho
 clear hb ho
 have HA:Hid (addS L p q r=if onV q r p=true∧p∉L then L++[p] else L):=rfl
 go_enter Tryz.func148,Tryz.ntmps148
 go_upto_region 1 with fail
 refine atW (fun w' => Since w w' ∧ Blk w' w.heap.size 36 #[.int .i64 p.1,.int .i64 p.2]∧Blk w' (w.heap.size+1) 36 #[.int .i64 q.1,.int .i64 q.2]∧Blk w' (w.heap.size+1+1) 36 #[.int .i64 r.1,.int .i64 r.2]) ⟨(((Since.rfl_ w).alloc _).alloc _).alloc _,((Blk.new w _ _).alloc _).alloc _,(Blk.new' (by simp)).alloc _,Blk.new' (by simp)⟩ ?_
 rintro w1 ⟨hs,hp,hq,hr⟩
 have p0:w1.cell? ⟨w.heap.size,0,none⟩=some (.int .i64 p.1):=hp.cell 0
 have p1:w1.cell? ⟨w.heap.size,1,none⟩=some (.int .i64 p.2):=hp.cell 1
 have q0:w1.cell? ⟨w.heap.size+1,0,none⟩=some (.int .i64 q.1):=hq.cell 0
 have q1:w1.cell? ⟨w.heap.size+1,1,none⟩=some (.int .i64 q.2):=hq.cell 1
 have r0:w1.cell? ⟨w.heap.size+1+1,0,none⟩=some (.int .i64 r.1):=hr.cell 0
 have r1:w1.cell? ⟨w.heap.size+1+1,1,none⟩=some (.int .i64 r.2):=hr.cell 1
 have HS1:=Lib.hid hs
 have HP1:=Lib.hid hp
 clear hs hp hq hr
 cases hon:onV q r p
 ·have HE:Hid (addS L p q r=L):=by show _=_;rw[HA.out,if_neg];rw[hon];simp
  go_wp2_with fail
  refine(On_val hon _).mono ?_
  rintro e w2 ⟨rfl,hs⟩
  have HS2:=Lib.hid (HS1.out.trans hs)
  clear hs
  go_wp2_with fail
  refine bodyPost_ret (v:=.tuple #[]) (by simp[results,Tryz.results148,go_sem]) rfl ?_
  exact⟨rfl,_,HS2.out.blk HB.out,by rw[HE.out];exact own_since HS2.out HO.out,Below.mono HS2.out (by omega),Nat.le_trans hBw HS2.out.size⟩
 ·go_wp2_with fail
  refine(On_val hon _).mono ?_
  rintro e w2 ⟨rfl,hs⟩
  have HS2:=Lib.hid (HS1.out.trans hs)
  have HP2:=Lib.hid (hs.blk HP1.out)
  have s0:w2.cell? ⟨gs,0,none⟩=some (.slice av L.length cv):=(HS2.out.blk HB.out).cell 0
  clear hs HS1 HP1 p0 p1 q0 q1 r0 r1
  go_wp2_with fail
  go_loopw [16] (fun v wr=>∃ k:Nat,k≤L.length∧v=.int .i64 k∧Hid (∀ i,i<k→pAt L i≠p)∧Hid (Since w wr∧Blk wr w.heap.size 36 #[.int .i64 p.1,.int .i64 p.2])) (fun v _=>L.length-(intOf v).toNat)
  case atStart=>exact⟨0,by omega,rfl,fun i hi=>absurd hi (Nat.not_lt_zero _),HS2.out,HP2.out⟩
  case round =>
   clear HS2 HP2 s0
   obtain⟨k,hk,rfl,HG,HW⟩:=hrel
   have s0:wr.cell? ⟨gs,0,none⟩=some (.slice av L.length cv):=(HW.out.1.blk HB.out).cell 0
   have p0:wr.cell? ⟨w.heap.size,0,none⟩=some (.int .i64 p.1):=HW.out.2.cell 0
   have p1:wr.cell? ⟨w.heap.size,1,none⟩=some (.int .i64 p.2):=HW.out.2.cell 1
   have hlp:=HW.out.2.lt
   rcases Nat.lt_or_ge k L.length with hlt | hge
   ·have hz:decide ((k:Int)<(L.length:Int))=true:=by rw[decide_eq_true_eq];omega
    obtain⟨x,HX⟩:∃ x:Pt2,Hid (x=pAt L k):=⟨_,rfl⟩
    have hpts:=(own_pts (own_since HW.out.1 HO.out) (Nat.le_refl _)).pts
    obtain⟨a',c',hv,hpts⟩:=hpts
    injection hv with hv1 hv2 hv3
    subst hv1 hv3
    obtain⟨g,o,ha,x0,x1⟩:=hpts k hlt
    subst ha
    rw[← HX.out] at x0 x1
    have hne:¬ wr.heap.size=w.heap.size:=by omega
    clear hpts
    by_cases hxp:x=p
    ·have HE:Hid (addS L p q r=L):=by
      show _=_
      rw[HA.out,if_neg]
      rintro⟨-,h⟩
      exact h (by rw[← hxp,HX.out];exact pAt_mem hlt)
     have h1:(x.1 == p.1)=true:=by rw[hxp];simp
     have h2:(x.2 == p.2)=true:=by rw[hxp];simp
     have HS3:=Lib.hid (HW.out.1.alloc (.cells #[.int .i64 x.1,.int .i64 x.2] 36))
     clear hxp
     go_wp2_with fail
     refine bodyPost_ret (v:=.tuple #[]) (by simp[results,Tryz.results148,go_sem]) rfl ?_
     exact⟨rfl,_,HS3.out.blk HB.out,by rw[HE.out];exact own_since HS3.out HO.out,Below.mono HS3.out (by omega),Nat.le_trans hBw HS3.out.size⟩
    ·have HG2:Hid (∀ i,i<k+1→pAt L i≠p):=fun i hi=>by
      rcases Nat.lt_succ_iff_lt_or_eq.1 hi with h | h
      ·exact HG.out i h
      ·rw[h,← HX.out];exact hxp
     have HW3:Hid (Since w (wr.alloc (.cells #[.int .i64 x.1,.int .i64 x.2] 36))∧Blk (wr.alloc (.cells #[.int .i64 x.1,.int .i64 x.2] 36)) w.heap.size 36 #[.int .i64 p.1,.int .i64 p.2]):=⟨HW.out.1.alloc _,HW.out.2.alloc _⟩
     cases h1:(x.1 == p.1) <;> cases h2:(x.2 == p.2)
     case true.true=>exact absurd (Prod.ext (beq_iff_eq.1 h1) (beq_iff_eq.1 h2)) hxp
     all_goals
      go_wp2_with fail
      go_roundw
      case rel=>exact⟨k+1,by omega,by go_num,HG2,HW3⟩
      case measure=>simp[intOf];omega
   ·obtain rfl:k=L.length:=by omega
    have hz:decide ((L.length:Int)<(L.length:Int))=false:=by rw[decide_eq_false_iff_not];omega
    have HE:Hid (addS L p q r=L++[p]):=by
     show _=_
     rw[HA.out,if_pos]
     refine⟨hon,fun h=>?_⟩
     obtain⟨i,hi,e⟩:=mem_pAt h
     exact HG.out i hi e
    have HO2:=Lib.hid (own_since HW.out.1 HO.out)
    have HB2:=Lib.hid (HW.out.1.blk HB.out)
    have hwr:=HW.out.1.size
    obtain⟨i0,hi0,hz0,hz1,hz3⟩:=info_parts infoPt
    have HI:=Lib.hid hi0
    have HZ:=Lib.hid (And.intro hz0 (And.intro hz1 hz3))
    clear hi0 hz0 hz1 hz3
    go_wp2_with (at_builtin;refine wpList_append_own _ rfl _ _ 23 rfl B 36 i0 _ 2 16 Tryz.underlying23 HI.out HZ.out.1 HZ.out.2.1 HZ.out.2.2 rfl (by decide) _ _ _ rfl (own_since ((Since.rfl_ wr).alloc _) HO2.out) _ _ _ [.int .i64 p.1,.int .i64 p.2] rfl rfl (cell2_new _ _ _ _) (one2 _ _ _ _) (by unfold maxLen;omega) (by omega) (by simp only[World.size_alloc];omega) ?_)
    intro v' w' hown hgrow _
    obtain⟨ao',co',rfl⟩:=own_slice hown
    have hA:=(Since.rfl_ wr).alloc (.cells #[.int .i64 p.1,.int .i64 p.2] 36)
    have hoA:=own_since hA HO2.out
    have hgb:=(hgrow.block _ (hA.blk HB2.out).lt (own_ne hoA hB)).trans (hA.blk HB2.out)
    have HB3:Hid (Blk w' gs 23 #[.slice av L.length cv]):=hgb
    have HL3:Hid (Below gs w w'):=(Below.mono (HW.out.1.trans hA) (show gs≤w.heap.size by omega)).grown hgrow (by simp only[World.size_alloc];omega) fun k hk=>by have:=(hoA.lt k hk).1;omega
    have HO3:Hid (w'.ownsRow B 36 2 (.slice ao' (L.length+1) co') (addS L p q r).length ((addS L p q r).flatMap ptV)):=by
     show World.ownsRow _ _ _ _ _ _ _
     rw[HE.out,List.flatMap_append,List.length_append]
     exact hown
    have hsz:B≤w'.heap.size:=Nat.le_trans (Nat.le_trans hBw hwr) (Nat.le_trans hA.size hgrow.size)
    have s1:w'.cell? ⟨gs,0,none⟩=some (.slice av L.length cv):=HB3.out.cell 0
    have sf:=HB3.out.frozen 0
    have hne3:some gs≠(Value.slice ao' (L.length+1) co').ownBlock:=own_ne HO3.out hB
    have HF4:=Lib.hid (And.intro (HB3.out.set_ 0 (.slice ao' (L.length+1) co')) (And.intro (own_far (p:=⟨gs,0,none⟩) HO3.out hne3 (.slice ao' (L.length+1) co')) (HL3.out.setCell (p:=⟨gs,0,none⟩) (Nat.le_refl _) (.slice ao' (L.length+1) co'))))
    clear hown hgrow hA hoA hgb HO2 HB2 HB3 HL3 HO3 s0 p0 p1 hne3
    go_wp2_with fail
    go_end0
    exact⟨rfl,_,HF4.out.1,HF4.out.2.1,HF4.out.2.2,by simpa[World.setCell] using hsz⟩
end
section
open Go.RowKit Go.BigFrame
attribute [local go_sem ↓] eqPt neqPt
def sharedL(a b c d:Pt2):List Pt2:=addS (addS (addS (addS [] a c d) b c d) c a b) d a b
theorem addS_len(L:List Pt2)(p q r:Pt2):(addS L p q r).length≤L.length+1:=by
 unfold addS
 split
 ·simp
 ·omega
structure ShW(w W:World)(G:Nat)(a b c d:Pt2)(L:List Pt2)(v:Value):Prop where
 s:Since w W
 ba:Blk W G 36 #[.int .i64 a.1,.int .i64 a.2]
 bb:Blk W (G+1) 36 #[.int .i64 b.1,.int .i64 b.2]
 bc:Blk W (G+1+1) 36 #[.int .i64 c.1,.int .i64 c.2]
 bd:Blk W (G+1+1+1) 36 #[.int .i64 d.1,.int .i64 d.2]
 bs:Blk W (G+1+1+1+1) 23 #[v]
 row:W.ownsRow (G+5) 36 2 v L.length (L.flatMap ptV)
 sz:G+5≤W.heap.size
theorem ShW.step{w W W' : World}{G:Nat}{a b c d:Pt2}{L L' : List Pt2}{v v' : Value}(h:ShW w W G a b c d L v)(hG:G=w.heap.size)(h1:Blk W' (G+1+1+1+1) 23 #[v'])(h2:W'.ownsRow (G+5) 36 2 v' L'.length (L'.flatMap ptV))(hb:Below (G+1+1+1+1) W W')(hs:G+5≤W'.heap.size):ShW w W' G a b c d L' v' :=
 ⟨Below.trans (B:=w.heap.size) h.s (Below.mono hb (by omega)),h.ba.below hb (by omega),h.bb.below hb (by omega),h.bc.below hb (by omega),h.bd.below hb (by omega),h1,h2,hs⟩
set_option maxRecDepth 100000 in
set_option maxHeartbeats 4000000 in
theorem shared_own(a b c d:Pt2)(w:World) :
  Calls Tryz.prog 119 #[.agg #[.int .i64 a.1,.int .i64 a.2],.agg #[.int .i64 b.1,.int .i64 b.2],.agg #[.int .i64 c.1,.int .i64 c.2],.agg #[.int .i64 d.1,.int .i64 d.2]] w fun e w' =>
   ∃ x y,e=.returned (.slice x (sharedL a b c d).length y)∧w'.ownsRow w.heap.size 36 2 (.slice x (sharedL a b c d).length y) (sharedL a b c d).length ((sharedL a b c d).flatMap ptV)∧Since w w' := by
 obtain⟨L1,H1⟩:∃ L1,Hid (L1=addS [] a c d):=⟨_,rfl⟩
 obtain⟨L2,H2⟩:∃ L2,Hid (L2=addS L1 b c d):=⟨_,rfl⟩
 obtain⟨L3,H3⟩:∃ L3,Hid (L3=addS L2 c a b):=⟨_,rfl⟩
 obtain⟨L4,H4⟩:∃ L4,Hid (L4=addS L3 d a b):=⟨_,rfl⟩
 have HE:Hid (sharedL a b c d=L4):=by show _=_;rw[H4.out,H3.out,H2.out,H1.out];rfl
 have k1:L1.length≤1:=by rw[H1.out];exact addS_len _ _ _ _
 have k2:L2.length≤2:=by have:=addS_len L1 b c d;rw[H2.out];omega
 have k3:L3.length≤3:=by have:=addS_len L2 c a b;rw[H3.out];omega
 go_enter Tryz.func119,Tryz.ntmps119
 go_upto_region 3 with fail
 obtain⟨G,HG⟩:∃ G,G=w.heap.size:=⟨_,rfl⟩
 rw[← HG]
 refine atW (fun w' => ShW w w' G a b c d [] (.slice none 0 0)) ⟨((((Since.rfl_ w).alloc _).alloc _).alloc _).alloc _ |>.alloc _,(((Blk.new' HG).alloc _).alloc _).alloc _ |>.alloc _,((Blk.new' (by simp[HG])).alloc _).alloc _ |>.alloc _,(Blk.new' (by simp[HG])).alloc _ |>.alloc _,(Blk.new' (by simp[HG])).alloc _,Blk.new' (by simp[HG]),World.ownsRow_nil _ _ _ _,by simp[HG]⟩ ?_
 intro w1 h1
 have HW:=Lib.hid h1
 have HGG:=Lib.hid HG
 clear h1 HG
 have a0:w1.cell? ⟨G,0,none⟩=some (.int .i64 a.1):=HW.out.ba.cell 0
 have a1:w1.cell? ⟨G,1,none⟩=some (.int .i64 a.2):=HW.out.ba.cell 1
 have b0:w1.cell? ⟨G+1,0,none⟩=some (.int .i64 b.1):=HW.out.bb.cell 0
 have b1:w1.cell? ⟨G+1,1,none⟩=some (.int .i64 b.2):=HW.out.bb.cell 1
 have c0:w1.cell? ⟨G+1+1,0,none⟩=some (.int .i64 c.1):=HW.out.bc.cell 0
 have c1:w1.cell? ⟨G+1+1,1,none⟩=some (.int .i64 c.2):=HW.out.bc.cell 1
 have d0:w1.cell? ⟨G+1+1+1,0,none⟩=some (.int .i64 d.1):=HW.out.bd.cell 0
 have d1:w1.cell? ⟨G+1+1+1,1,none⟩=some (.int .i64 d.2):=HW.out.bd.cell 1
 go_wp2_with fail
 refine(add_any (G+1+1+1+1) (G+5) [] a c d _ w1 HW.out.bs HW.out.row (by omega) HW.out.sz (by first | omega | simp)).mono ?_
 rintro e w2 ⟨rfl,vw2,hb,ho,hbl,hs⟩
 rw[← H1.out] at ho
 have HW:=Lib.hid (HW.out.step HGG.out hb ho hbl hs)
 clear hb ho hbl hs a0 a1 b0 b1 c0 c1 d0 d1
 have a0:w2.cell? ⟨G,0,none⟩=some (.int .i64 a.1):=HW.out.ba.cell 0
 have a1:w2.cell? ⟨G,1,none⟩=some (.int .i64 a.2):=HW.out.ba.cell 1
 have b0:w2.cell? ⟨G+1,0,none⟩=some (.int .i64 b.1):=HW.out.bb.cell 0
 have b1:w2.cell? ⟨G+1,1,none⟩=some (.int .i64 b.2):=HW.out.bb.cell 1
 have c0:w2.cell? ⟨G+1+1,0,none⟩=some (.int .i64 c.1):=HW.out.bc.cell 0
 have c1:w2.cell? ⟨G+1+1,1,none⟩=some (.int .i64 c.2):=HW.out.bc.cell 1
 have d0:w2.cell? ⟨G+1+1+1,0,none⟩=some (.int .i64 d.1):=HW.out.bd.cell 0
 have d1:w2.cell? ⟨G+1+1+1,1,none⟩=some (.int .i64 d.2):=HW.out.bd.cell 1
 go_wp2_with fail
 refine(add_any (G+1+1+1+1) (G+5) L1 b c d _ w2 HW.out.bs HW.out.row (by omega) HW.out.sz (by first | omega | simp)).mono ?_
 rintro e w3 ⟨rfl,vw3,hb,ho,hbl,hs⟩
 rw[← H2.out] at ho
 have HW:=Lib.hid (HW.out.step HGG.out hb ho hbl hs)
 clear hb ho hbl hs a0 a1 b0 b1 c0 c1 d0 d1
 have a0:w3.cell? ⟨G,0,none⟩=some (.int .i64 a.1):=HW.out.ba.cell 0
 have a1:w3.cell? ⟨G,1,none⟩=some (.int .i64 a.2):=HW.out.ba.cell 1
 have b0:w3.cell? ⟨G+1,0,none⟩=some (.int .i64 b.1):=HW.out.bb.cell 0
 have b1:w3.cell? ⟨G+1,1,none⟩=some (.int .i64 b.2):=HW.out.bb.cell 1
 have c0:w3.cell? ⟨G+1+1,0,none⟩=some (.int .i64 c.1):=HW.out.bc.cell 0
 have c1:w3.cell? ⟨G+1+1,1,none⟩=some (.int .i64 c.2):=HW.out.bc.cell 1
 have d0:w3.cell? ⟨G+1+1+1,0,none⟩=some (.int .i64 d.1):=HW.out.bd.cell 0
 have d1:w3.cell? ⟨G+1+1+1,1,none⟩=some (.int .i64 d.2):=HW.out.bd.cell 1
 go_wp2_with fail
 refine(add_any (G+1+1+1+1) (G+5) L2 c a b _ w3 HW.out.bs HW.out.row (by omega) HW.out.sz (by first | omega | simp)).mono ?_
 rintro e w4 ⟨rfl,vw4,hb,ho,hbl,hs⟩
 rw[← H3.out] at ho
 have HW:=Lib.hid (HW.out.step HGG.out hb ho hbl hs)
 clear hb ho hbl hs a0 a1 b0 b1 c0 c1 d0 d1
 have a0:w4.cell? ⟨G,0,none⟩=some (.int .i64 a.1):=HW.out.ba.cell 0
 have a1:w4.cell? ⟨G,1,none⟩=some (.int .i64 a.2):=HW.out.ba.cell 1
 have b0:w4.cell? ⟨G+1,0,none⟩=some (.int .i64 b.1):=HW.out.bb.cell 0
 have b1:w4.cell? ⟨G+1,1,none⟩=some (.int .i64 b.2):=HW.out.bb.cell 1
 have c0:w4.cell? ⟨G+1+1,0,none⟩=some (.int .i64 c.1):=HW.out.bc.cell 0
 have c1:w4.cell? ⟨G+1+1,1,none⟩=some (.int .i64 c.2):=HW.out.bc.cell 1
 have d0:w4.cell? ⟨G+1+1+1,0,none⟩=some (.int .i64 d.1):=HW.out.bd.cell 0
 have d1:w4.cell? ⟨G+1+1+1,1,none⟩=some (.int .i64 d.2):=HW.out.bd.cell 1
 go_wp2_with fail
 refine(add_any (G+1+1+1+1) (G+5) L3 d a b _ w4 HW.out.bs HW.out.row (by omega) HW.out.sz (by first | omega | simp)).mono ?_
 rintro e w5 ⟨rfl,vw5,hb,ho,hbl,hs⟩
 rw[← H4.out] at ho
 have HW:=Lib.hid (HW.out.step HGG.out hb ho hbl hs)
 clear hb ho hbl hs a0 a1 b0 b1 c0 c1 d0 d1
 have s0:w5.cell? ⟨G+1+1+1+1,0,none⟩=some vw5:=HW.out.bs.cell 0
 obtain⟨x,y,rfl⟩:=own_slice HW.out.row
 go_wp2_with fail
 go_ret
 have hr:=HW.out.row.mono (show w.heap.size≤G+5 by have:=HGG.out;omega)
 rw[HE.out]
 exact⟨x,y,rfl,hr,HW.out.s⟩
theorem shared_any(a b c d:Pt2)(w:World) :
  Calls Tryz.prog 119 #[.agg #[.int .i64 a.1,.int .i64 a.2],.agg #[.int .i64 b.1,.int .i64 b.2],.agg #[.int .i64 c.1,.int .i64 c.2],.agg #[.int .i64 d.1,.int .i64 d.2]] w fun e w' =>
   ∃ x y,e=.returned (.slice x (sharedL a b c d).length y)∧Since w w' :=
 (shared_own a b c d w).mono fun _ _ ⟨x,y,h1,_,h3⟩=>⟨x,y,h1,h3⟩
end
section
open Go.RowKit Go.BigFrame
class Tgt where
 T:Nat→Option Obj
variable [Tgt]
def SinceT(w w' : World):Prop :=
 w'.os=w.os∧w'.tape=w.tape∧w'.output=w.output∧w.heap.size≤w'.heap.size∧∀ i,i<w.heap.size→w'.heap[i]? = w.heap[i]? ∨ ∃ o,Tgt.T i=some o∧w'.heap[i]? = some o
section
variable {a b c : World}
theorem SinceT.of(h:Since a b):SinceT a b:=⟨h.os,h.tape,h.output,h.size,fun i hi=>.inl (h.block i hi)⟩
theorem SinceT.rfl_(w:World):SinceT w w:=.of (Since.rfl_ w)
theorem SinceT.size(h:SinceT a b):a.heap.size≤b.heap.size:=h.2.2.2.1
theorem SinceT.trans(h:SinceT a b)(k:SinceT b c):SinceT a c :=
 ⟨k.1.trans h.1,k.2.1.trans h.2.1,k.2.2.1.trans h.2.2.1,Nat.le_trans h.size k.size,fun i hi=>by
  rcases k.2.2.2.2 i (Nat.lt_of_lt_of_le hi h.size) with e | e
  ·rcases h.2.2.2.2 i hi with e2 | ⟨o,e2,e3⟩
   ·exact .inl (e.trans e2)
   ·exact .inr ⟨o,e2,e.trans e3⟩
  ·exact .inr e⟩
theorem SinceT.alloc(h:SinceT a b)(o:Obj):SinceT a (b.alloc o):=h.trans (.of ((Since.rfl_ b).alloc o))
theorem SinceT.drew(h:SinceT a b):SinceT a b.drew:=h.trans (.of (Since.rfl_ b).drew)
theorem SinceT.heap(h:SinceT a b){g:Nat}(hT:Tgt.T g=none)(hg:g<a.heap.size):b.heap[g]? = a.heap[g]? := by
 rcases h.2.2.2.2 g hg with e | ⟨o,e,-⟩
 ·exact e
 ·rw[hT] at e;cases e
theorem SinceT.blk(h:SinceT a b){g:Nat}{t:TypeId}{cs:Array Value}(hT:Tgt.T g=none)(k:Blk a g t cs):Blk b g t cs:=(h.heap hT k.lt).trans k
theorem SinceT.blkT(h:SinceT a b){g:Nat}{t:TypeId}{cs:Array Value}(hT:Tgt.T g=some (.cells cs t (0,0)))(k:Blk a g t cs):Blk b g t cs:=by
 rcases h.2.2.2.2 g k.lt with e | ⟨o,e,e2⟩
 ·exact e.trans k
 ·rw[hT] at e;injection e with e;subst e;exact e2
theorem SinceT.since(h:SinceT a b){w0:World}(k:Since w0 a)(hT:∀ g,g<w0.heap.size→Tgt.T g=none):Since w0 b :=
 ⟨h.1.trans k.os,h.2.1.trans k.tape,h.2.2.1.trans k.output,Nat.le_trans k.size h.size,fun i hi=>(h.heap (hT i hi) (Nat.lt_of_lt_of_le hi k.size)).trans (k.block i hi)⟩
end
def Spec.factT(base:Nat):Spec→Value→World→Prop
 | .det _,_,_=>True
 | .mk f t cs,v,w=>∃ g,v=f g∧Blk w g t cs∧base≤g∧Tgt.T g=none
 | .any R,v,w=>R v w
def Spec.monoT:Spec→Prop
 | .any R=>∀ v w w',R v w→SinceT w w' → R v w'
 | .mk f _ _=>∀ g g',f g=f g' → g=g'
 | _=>True
def runVT(P:Program)(o:Oper)(a:Act)(w:World)(post:Value→World→Prop):Prop :=
 match (execOp a.eval o).run P w with
 | .ok (.value v) w' => post v w'
 | .ok .skip w' => post undef w'
 | .ok (.enter f args) w' => Calls P f args w' fun e w'' => ∃ v,e=.returned v∧post v w''
 | _=>False
def Spec.asksT(P:Program)(ops:Array Oper)(S:World→Prop)(o:Oper)(a:Act)(F:World→Prop):Spec→Prop
 | .det c=>if Region.wanted o (yielded ops a.tmps)=true then(∀ w w',F w→SinceT w w' → F w')→∀ wx,S wx→F wx→o.quiet P a (Cls fun w' => S w' ∧ F w' ∧ SinceT wx w') (fun a' => a' = a.put o.dst c) else c=undef
 | .mk f t cs=>Region.wanted o (yielded ops a.tmps)=true∧∀ w,(execOp a.eval o).run P w=.ok (.value (f w.heap.size)) (w.alloc (.cells cs t))
 | .any R=>Region.wanted o (yielded ops a.tmps)=true∧∀ w,S w→F w→runVT P o a w fun v w' => R v w' ∧ SinceT w w'
def wpOT(P:Program)(ops:Array Oper)(S:World→Prop)(base:Nat)(K:Act→World→Prop):List Oper→List Spec→List (World→Prop)→List (Nat→Prop)→Act→Prop
 | [],[],Fs,Bs,a=>∀ w,S w→allF Fs w→Bs.Pairwise (fun p q=>∀ g g',p g→q g' → g≠g')→K a w
 | o :: l,s :: ss,Fs,Bs,a=>s.monoT∧s.asksT P ops S o a (factsOf Fs (pres o))∧∀ v,s.shape v→wpOT P ops S base K l ss (Fs++[s.factT base v]) (Bs++[s.blk v]) (a.put o.dst v)
 | _,_,_,_,_=>False
def factLT(base:Nat):List Spec→List Value→List (World→Prop)
 | s :: ss,v :: vs=>s.factT base v :: factLT base ss vs
 | _,_=>[]
section
variable {P : Program} {ops : Array Oper} {S : World → Prop} {base : Nat} {K : Act → World → Prop}
theorem wpO_lenT:∀ {l:List Oper} {ss:List Spec} {Fs:List (World→Prop)} {Bs:List (Nat→Prop)} {a:Act} {vs:List Value},wpOT P ops S base K l ss Fs Bs a→shapeL ss vs→l.length=ss.length
 | [],[],_,_,_,_,_,_=>rfl
 | o :: l,s :: ss,Fs,Bs,a,v :: vs,h,hs=>by simp[wpO_lenT (h.2.2 v hs.1) hs.2]
 | [],_ :: _,_,_,_,_,h,_=>by unfold wpOT at h;exact h.elim
 | _ :: _,[],_,_,_,_,h,_=>by unfold wpOT at h;exact h.elim
 | _ :: _,_ :: _,_,_,_,[],_,hs=>hs.elim
theorem wpO_getT:∀ {l:List Oper} {ss:List Spec} {Fs:List (World→Prop)} {Bs:List (Nat→Prop)} {a:Act} {vs:List Value},wpOT P ops S base K l ss Fs Bs a→shapeL ss vs →
  ∀ (i:Nat) (o:Oper) (s:Spec),l[i]? = some o→ss[i]? = some s→s.monoT∧s.asksT P ops S o (fr (l.take i) (vs.take i) a) (factsOf (Fs++factLT base (ss.take i) (vs.take i)) (pres o))
 | o :: l,s :: ss,Fs,Bs,a,v :: vs,h,hs,0,o',s',ho,hs' => by
  simp at ho hs'
  subst ho hs'
  simpa[fr,factLT] using ⟨h.1,h.2.1⟩
 | o :: l,s :: ss,Fs,Bs,a,v :: vs,h,hs,i+1,o',s',ho,hs' => by
  simp at ho hs'
  have:=wpO_getT (h.2.2 v hs.1) hs.2 i o' s' ho hs'
  simpa[fr,factLT] using this
 | [],_,_,_,_,_,_,_,_,_,_,ho,_=>by simp at ho
 | _ :: _,[],_,_,_,_,h,_,_,_,_,_,_=>by unfold wpOT at h;exact h.elim
 | _ :: _,_ :: _,_,_,_,[],_,hs,_,_,_,_,_=>hs.elim
theorem wpO_finT:∀ {l:List Oper} {ss:List Spec} {Fs:List (World→Prop)} {Bs:List (Nat→Prop)} {a:Act} {vs:List Value},wpOT P ops S base K l ss Fs Bs a→shapeL ss vs →
  ∀ w,S w→allF (Fs++factLT base ss vs) w→(Bs++blkL ss vs).Pairwise (fun p q=>∀ g g',p g→q g' → g≠g')→K (fr l vs a) w
 | [],[],Fs,Bs,a,[],h,_,w,hw,hf,hb=>by
  unfold wpOT at h
  exact h w hw (by simpa[factLT] using hf) (by simpa[blkL] using hb)
 | o :: l,s :: ss,Fs,Bs,a,v :: vs,h,hs,w,hw,hf,hb=>wpO_finT (h.2.2 v hs.1) hs.2 w hw (by simpa[factLT] using hf) (by simpa[blkL] using hb)
 | [],_ :: _,_,_,_,_,h,_,_,_,_,_=>by unfold wpOT at h;exact h.elim
 | _ :: _,[],_,_,_,_,h,_,_,_,_,_=>by unfold wpOT at h;exact h.elim
 | [],[],_,_,_,_ :: _,_,hs,_,_,_,_=>hs.elim
 | _ :: _,_ :: _,_,_,_,[],_,hs,_,_,_,_=>hs.elim
structure HdT(P:Program)(ops:Array Oper)(S:World→Prop)(base n:Nat)(ss:List Spec)(a0:Act)(listed:Array Bool)(a:Act)(w:World)(vs:List Value):Prop where
 len:vs.length=n
 shape:shapeL ss vs
 defs:a.defers=a0.defers
 siz:a.tmps.size=a0.tmps.size
 out:∀ t:Nat,(∀ (j:Nat) o,j<n→ops[j]? = some o→listed.getD j false=true→o.dst≠some t)→a.tmps[t]? = a0.tmps[t]?
 inn:∀ (j:Nat) o (t:Nat),j<n→ops[j]? = some o→listed.getD j false=true→o.dst=some t→t<a0.tmps.size→a.tmps[t]? = vs[j]?
 fact:∀ (j:Nat) s v,j<n→listed.getD j false=true→ss[j]? = some s→vs[j]? = some v→s.factT base v w
 dis:∀ (j k:Nat) s s' v v',j<k→listed.getD j false=true→listed.getD k false=true→ss[j]? = some s→ss[k]? = some s' → vs[j]? = some v→vs[k]? = some v' → ∀ g g',s.blk v g→s'.blk v' g' → g≠g'
 cls:S w
 bas:base≤w.heap.size
theorem HdT.sees{n i:Nat}{ss:List Spec}{a0 a:Act}{listed:Array Bool}{w:World}{vs:List Value}{o:Oper}(h:HdT P ops S base n ss a0 listed a w vs)(hB:Region.looksB ops n=true)(hi:i<n)(ho:ops[i]? = some o)
  (hr:∀ e∈o.after,Region.binds .any e=true→listed.getD e.on false=true):∀ t∈o.looksAt ops,a.tmps[t]? = (fr (ops.toList.take i) (vs.take i) a0).tmps[t]? := by
 intro t ht
 obtain⟨-,hl⟩:=looksB_spec hB hi ho
 by_cases hex:∃ (j:Nat) (oj:Oper),j<n∧ops[j]? = some oj∧oj.dst=some t
 ·obtain⟨j,oj,hj,hoj,hd⟩:=hex
  obtain⟨hji,hp⟩:=(hl j oj t hj hoj hd).2 ht
  have hlj:listed.getD j false=true:=by
   unfold pres at hp
   obtain⟨e,he,rfl⟩:=List.mem_map.1 hp
   rw[List.mem_filter] at he
   exact hr e (by simpa using he.1) he.2
  have huniq:∀ (k:Nat) o',k≠j→(ops.toList.take i)[k]? = some o' → o'.dst≠some t:=fun k o' hk hko hd' => by
   obtain⟨hki,hko'⟩:=take_some hko
   obtain⟨-,hlk⟩:=looksB_spec hB (show k<n by omega) (by simpa using hko')
   exact(hlk j oj t hj hoj hd).1 (Ne.symm hk) hd'
  rcases Nat.lt_or_ge t a0.tmps.size with hlt | hge
  ·rw[h.inn j oj t hj hoj hlj hd hlt,fr_in _ _ a0 t j oj (by rw[take_get hji];simpa using hoj) (by rw[List.length_take,h.len];omega) hd huniq hlt,take_get hji]
  ·rw[Array.getElem?_eq_none (by rw[h.siz];exact hge),Array.getElem?_eq_none (by rw[fr_size];exact hge)]
 ·rw[h.out t fun j oj hj hoj _ hd=>hex ⟨j,oj,hj,hoj,hd⟩,fr_out _ _ a0 t fun j oj hoj hd=>?_]
  obtain⟨hji,hoj'⟩:=take_some hoj
  exact hex ⟨j,oj,by omega,by simpa using hoj',hd⟩
theorem Spec.keepT{s:Spec}(h:s.monoT){v:Value}{w w' : World}(hf:s.factT base v w)(hs:SinceT w w'):s.factT base v w' := by
 cases s with
 | det c=>trivial
 | mk f t cs =>
  obtain⟨g,e,hb,hg,ht⟩:=hf
  exact⟨g,e,hs.blk ht hb,hg,ht⟩
 | any R=>exact h _ _ _ hf hs
theorem HdT.step{n i:Nat}{ss:List Spec}{a0 a:Act}{listed:Array Bool}{w w' : World}{vs:List Value}{o:Oper}{s:Spec}{v:Value}(h:HdT P ops S base n ss a0 listed a w vs)(hB:Region.looksB ops n=true)(hn:n≤ops.size)(hsz:listed.size=ops.size)
  (hi:i<n) (ho:ops[i]? = some o) (hs:ss[i]? = some s) (hm:∀ (j:Nat) s,ss[j]? = some s→s.monoT) (hsh:shapeL ss (vs.set i v)) (hf:s.factT base v w') (hw:SinceT w w') (hc:S w') (hd:∀ g,s.blk v g→w.heap.size≤g) :
  HdT P ops S base n ss a0 (listed.setIfInBounds i true) (a.put o.dst v) w' (vs.set i v):=by
 have hil:i<listed.size:=by omega
 have hiv:i<vs.length:=by rw[h.len];exact hi
 obtain⟨-,hl⟩:=looksB_spec hB hi ho
 have below:∀ (j:Nat) s' v',listed.getD j false=true→j<n→ss[j]? = some s' → vs[j]? = some v' → ∀ g,s'.blk v' g→g<w.heap.size:=by
  intro j s' v' hlj hj hsj hvj g hg
  have hf:=h.fact j s' v' hj hlj hsj hvj
  cases s' with
  | det c=>exact hg.elim
  | any R=>exact hg.elim
  | mk f t cs =>
   obtain⟨g',e,hb,-⟩:=hf
   have:g' = g:=hm j _ hsj g' g (e.symm.trans hg)
   subst this
   exact hb.lt
 have lt_n:∀ (j:Nat) s',ss[j]? = some s' → j<n:=fun j s' hj=>by
  have h1:=(List.getElem?_eq_some_iff.1 hj).1
  have h2:=shapeL_len h.shape
  have h3:=h.len
  omega
 refine⟨by simpa using h.len,hsh,?_,?_,fun t ht=>?_,fun j oj t hj hoj hlj hdj hlt=>?_,fun j s' v' hj hlj hsj hvj=>?_,fun j k s1 s2 v1 v2 hjk hlj hlk h1 h2 hv1 hv2 g g' hg hg' => ?_,hc,Nat.le_trans h.bas hw.size⟩
 ·rw[← h.defs];cases e:o.dst <;> simp[Act.put]
 ·rw[← h.siz];cases e:o.dst <;> simp[Act.put]
 ·rw[put_out (ht i o hi ho (set_same hil))]
  refine h.out t fun j oj hj hoj hlj=>ht j oj hj hoj ?_
  exact getD_set_true hlj
 ·by_cases e:j=i
  ·subst e
   obtain rfl:oj=o:=Option.some.inj (hoj.symm.trans ho)
   rw[hdj,put_in (by rw[h.siz];exact hlt),List.getElem?_set_self hiv]
  ·rw[put_out ((hl j oj t hj hoj hdj).1 e),List.getElem?_set_ne (Ne.symm e)]
   rw[getD_set_ne false (Ne.symm e)] at hlj
   exact h.inn j oj t hj hoj hlj hdj hlt
 ·by_cases e:j=i
  ·subst e
   obtain rfl:s' = s:=Option.some.inj (hsj.symm.trans hs)
   rw[List.getElem?_set_self hiv] at hvj
   injection hvj with hvj
   subst hvj
   exact hf
  ·rw[getD_set_ne false (Ne.symm e)] at hlj
   rw[List.getElem?_set_ne (Ne.symm e)] at hvj
   exact Spec.keepT (hm j s' hsj) (h.fact j s' v' hj hlj hsj hvj) hw
 ·have hj:=lt_n j s1 h1
  have hk:=lt_n k s2 h2
  by_cases e:j=i
  ·subst e
   obtain rfl:s1=s:=Option.some.inj (h1.symm.trans hs)
   rw[List.getElem?_set_self hiv] at hv1
   injection hv1 with hv1
   subst hv1
   rw[getD_set_ne false (by omega)] at hlk
   rw[List.getElem?_set_ne (by omega)] at hv2
   have:=below k s2 v2 hlk hk h2 hv2 g' hg'
   have:=hd g hg
   omega
  ·by_cases e' : k=i
   ·subst e'
    obtain rfl:s2=s:=Option.some.inj (h2.symm.trans hs)
    rw[List.getElem?_set_self hiv] at hv2
    injection hv2 with hv2
    subst hv2
    rw[getD_set_ne false (by omega)] at hlj
    rw[List.getElem?_set_ne (by omega)] at hv1
    have:=below j s1 v1 hlj hj h1 hv1 g hg
    have:=hd g' hg'
    omega
   ·rw[getD_set_ne false (Ne.symm e)] at hlj
    rw[getD_set_ne false (Ne.symm e')] at hlk
    rw[List.getElem?_set_ne (Ne.symm e)] at hv1
    rw[List.getElem?_set_ne (Ne.symm e')] at hv2
    exact h.dis j k s1 s2 v1 v2 hjk hlj hlk h1 h2 hv1 hv2 g g' hg hg'
theorem factL_getT:∀ {ss:List Spec} {vs:List Value} {j:Nat} {F:World→Prop},(factLT base ss vs)[j]? = some F→∃ s v,ss[j]? = some s∧vs[j]? = some v∧F=s.factT base v
 | s :: ss,v :: vs,0,F,h=>by
  simp[factLT] at h
  exact⟨s,v,rfl,rfl,h.symm⟩
 | s :: ss,v :: vs,j+1,F,h=>by
  simp only[factLT,List.getElem?_cons_succ] at h
  simpa using factL_getT h
 | [],_,_,_,h=>by simp[factLT] at h
 | _ :: _,[],_,_,h=>by simp[factLT] at h
theorem factsOf_keepT{Fs:List (World→Prop)}(hm:∀ F∈Fs,∀ w w',F w→SinceT w w' → F w'){w w' : World}:∀ {js:List Nat},factsOf Fs js w→SinceT w w' → factsOf Fs js w'
 | [],_,_=>trivial
 | j :: js,h,k=>⟨by
     have h1:=h.1
     cases e:Fs[j]? with
     | none=>simp[List.getD,e]
     | some F =>
      simp only[List.getD,e,Option.getD_some] at h1 ⊢
      exact hm F (List.mem_of_getElem? e) w w' h1 k,factsOf_keepT hm h.2 k⟩
theorem allF_mkT{w:World}:∀ {ss:List Spec} {vs:List Value},(∀ (j:Nat) s v,ss[j]? = some s→vs[j]? = some v→s.factT base v w)→allF (factLT base ss vs) w
 | s :: ss,v :: vs,h=>⟨h 0 s v rfl rfl,allF_mkT fun j s' v' hs hv=>h (j+1) s' v' (by simpa using hs) (by simpa using hv)⟩
 | [],_,_=>by simp[factLT,allF]
 | _ :: _,[],_=>by simp[factLT,allF]
theorem facts_anyT{Q:Exit→Act→World→Prop}{n:Nat}{ss:List Spec}{a0:Act}(hsel:Region.noSelect ops=true)(hn:n≤ops.size)(hsc:n=ops.size∨(Region.sinkB .any ops n=true∧Region.chainB .any ops n=true))(hB:Region.looksB ops n=true)
  (hseq:Region.seqB .any ops (ops.size-n) n (fullL ops.size n)=true) (hO:wpOT P ops S base (fun a w=>wpList P ops Q (ops.toList.drop n) a w) (ops.toList.take n) ss [] [] a0) (hsl:ss.length=n) (hmono:∀ w w',S w→SinceT w w' → S w') (hTb:∀ g,base≤g→Tgt.T g=none) :
  ∀ (f:Nat) (listed:Array Bool) (a:Act) (w:World) (vs:List Value),HeadInv .any ops n listed→cnt n listed=f→HdT P ops S base n ss a0 listed a w vs→wpAny P .any ops Q (f+(ops.size-n)) listed a w:=by
 have hgood:∀ (j:Nat) s,ss[j]? = some s→s.monoT:=fun j s hj=>by
  obtain⟨vs,hvs⟩:=shapeL_some ss
  have hjn:j<n:=by have:=(List.getElem?_eq_some_iff.1 hj).1;omega
  have hjo:j<ops.toList.length:=by simp;omega
  exact(wpO_getT hO hvs j (ops.toList[j]) s (by rw[take_get hjn];exact List.getElem?_eq_getElem hjo) hj).1
 intro f
 induction f with
 | zero =>
  intro listed a w vs inv hc h
  have hall:∀ i,i<n→listed.getD i true=true:=fun i hi=>by
   cases e:listed.getD i true with
   | true=>rfl
   | false=>have:=cnt_pos hi e;omega
  have hall' : ∀ i,i<n→listed.getD i false=true:=fun i hi=>by
   have:=hall i hi
   have hlt:i<listed.size:=by rw[inv.size];omega
   simpa[hlt] using this
  have hfin:=wpO_finT hO h.shape w h.cls (by
   rw[List.nil_append]
   exact allF_mkT fun j s v hs hv=>h.fact j s v (by have:=(List.getElem?_eq_some_iff.1 hs).1;omega) (hall' j (by have:=(List.getElem?_eq_some_iff.1 hs).1;omega)) hs hv) (by
   rw[List.nil_append]
   exact blkL_pair fun j k s s' v v' hjk h1 h2 h3 h4=>h.dis j k s s' v v' hjk (hall' j (by have:=(List.getElem?_eq_some_iff.1 h1).1;omega)) (hall' k (by have:=(List.getElem?_eq_some_iff.1 h2).1;omega)) h1 h2 h3 h4)
  have ea:a=fr (ops.toList.take n) vs a0:=by
   obtain⟨tm,df⟩:=a
   have e1:=h.defs
   have e2:=h.siz
   have e3:=h.out
   have e4:=h.inn
   dsimp only at e1 e2 e3 e4
   have:tm=(fr (ops.toList.take n) vs a0).tmps:=by
    apply Array.ext_getElem?
    intro t
    by_cases hex:∃ (j:Nat) (oj:Oper),j<n∧ops[j]? = some oj∧oj.dst=some t
    ·obtain⟨j,oj,hj,hoj,hd⟩:=hex
     rcases Nat.lt_or_ge t a0.tmps.size with hlt | hge
     ·rw[e4 j oj t hj hoj (hall' j hj) hd hlt,fr_in _ _ a0 t j oj (by rw[take_get hj];simpa using hoj) (by rw[h.len];exact hj) hd ?_ hlt]
      intro k o' hk hko hd'
      obtain⟨hkn,hko'⟩:=take_some hko
      obtain⟨-,hlk⟩:=looksB_spec hB hkn (by simpa using hko')
      exact(hlk j oj t hj hoj hd).1 (Ne.symm hk) hd'
     ·rw[Array.getElem?_eq_none (by omega),Array.getElem?_eq_none (by rw[fr_size];exact hge)]
    ·rw[e3 t fun j oj hj hoj _ hd=>hex ⟨j,oj,hj,hoj,hd⟩,fr_out _ _ a0 t fun j oj hoj hd=>?_]
     obtain⟨hji,hoj'⟩:=take_some hoj
     exact hex ⟨j,oj,hji,by simpa using hoj',hd⟩
   have hdf:df=(fr (ops.toList.take n) vs a0).defers:=by rw[fr_defers];exact e1
   subst this hdf
   rfl
  rw[← ea] at hfin
  have hl:=full_of inv hn hall
  have hdl:(ops.toList.drop n).length=ops.size-n:=by simp
  have:=wpAny_of_seq (md:=.any) (Q' := Q) (ops.toList.drop n) n listed a w (fun j=>by simp[List.getElem?_drop]) (by rw[hdl,hl];exact hseq) hfin
  rw[hdl] at this
  rw[Nat.zero_add]
  exact this
 | succ f ih =>
  intro listed a w vs inv hc h
  rw[show f+1+(ops.size-n)=(f+(ops.size-n))+1 by omega]
  have hex:∃ i,i<n∧listed.getD i true=false∧∀ j,j<i→listed.getD j true=true:=by
   rcases first_un (n:=n) (listed:=listed) n (Nat.le_refl _) with h1 | h1
   ·have:=cnt_zero h1;omega
   ·exact h1
  obtain⟨i0,hi0,hu0,hm0⟩:=hex
  refine⟨fun hr=>?_,fun i hi=>?_⟩
  ·exfalso
   have ho0:ops[i0]? = some ops[i0]:=Array.getElem?_eq_getElem (by omega)
   obtain⟨hl,-⟩:=looksB_spec hB hi0 ho0
   have:i0∈Region.ready .any ops listed:=mem_ready.2 ⟨hu0,_,ho0,fun e he hb=>by
    have hlt:=hl e he hb
    have:=hm0 e.on hlt
    have hsz:e.on<listed.size:=by rw[inv.size];omega
    simpa[hsz] using this⟩
   rw[hr] at this
   cases this
  ·obtain⟨hun,o,ho,hall⟩:=mem_ready.1 hi
   have hin:i<n:=by
    rcases Nat.lt_or_ge i n with h1 | h1
    ·exact h1
    ·have hio:=(Array.getElem?_eq_some_iff.1 ho).1
     rcases hsc with hsc | ⟨hs1,hs2⟩
     ·omega
     ·exact absurd hi (tail_waits hs1 hs2 (by omega) inv _ i0 rfl hi0 hu0 i h1)
   have hsz:=inv.size
   have his:i<listed.size:=by rw[hsz];omega
   have hss:ss[i]? = some ss[i]:=List.getElem?_eq_getElem (by omega)
   generalize hsi:ss[i]=s at hss
   have hsee:=h.sees hB hin ho hall
   have hex:=eval_eq (ops:=ops) (o:=o) (Region.noSelect_spec hsel i o · · ho) hsee
   have hwa:=wanted_eq (ops:=ops) (o:=o) hsee
   obtain⟨hmo,hask⟩:=wpO_getT hO h.shape i o s (by rw[take_get hin];simpa using ho) hss
   rw[List.take_take,Nat.min_eq_left (by omega),List.nil_append] at hask
   have hF:factsOf (factLT base (ss.take i) (vs.take i)) (pres o) w:=factsOf_mk fun j hj F hF=>by
    obtain⟨s',v',h1,h2,rfl⟩:=factL_getT hF
    obtain⟨hji,h1⟩:=take_some h1
    obtain⟨-,h2⟩:=take_some h2
    unfold pres at hj
    obtain⟨e,he,rfl⟩:=List.mem_map.1 hj
    rw[List.mem_filter] at he
    exact h.fact e.on s' v' (by omega) (hall e (by simpa using he.1) he.2) h1 h2
   have hFm:∀ w w',factsOf (factLT base (ss.take i) (vs.take i)) (pres o) w→SinceT w w' → factsOf (factLT base (ss.take i) (vs.take i)) (pres o) w' := fun w w' h k=>factsOf_keepT (fun F hF=>by
    obtain⟨j,hj⟩:=List.getElem?_of_mem hF
    obtain⟨s',v',h1,h2,rfl⟩:=factL_getT hj
    obtain⟨-,h1⟩:=take_some h1
    exact fun w w' hf hk=>Spec.keepT (hgood j s' h1) hf hk) h k
   have go:∀ (v:Value) (w' : World),s.shape v→s.factT base v w' → SinceT w w' → (∀ g,s.blk v g→w.heap.size≤g)→wpAny P .any ops Q (f+(ops.size-n)) (listed.setIfInBounds i true) (a.put o.dst v) w' := fun v w' hv hf hw hd =>
    ih _ _ _ _ (inv.set hi hin) (by have:=(cnt_set his hun n).2 hin;omega) (h.step hB hn hsz hin ho hss hgood (shapeL_set h.shape hss hv) hf hw (hmono _ _ h.cls hw) hd)
   generalize hA:fr (ops.toList.take i) (vs.take i) a0=A at *
   have hAs:a.tmps.size=A.tmps.size:=by rw[← hA,fr_size];exact h.siz
   unfold wpOp
   simp only[ho]
   rw[hwa]
   cases s with
   | det c =>
    unfold Spec.asksT at hask
    dsimp only at hask
    by_cases hw:Region.wanted o (yielded ops A.tmps)=true
    ·rw[if_pos hw] at hask ⊢
     obtain⟨v,hv,hp⟩:=hask hFm w h.cls hF
     have hq:=hv w ⟨h.cls,hF,SinceT.rfl_ w⟩
     have hpc:a.put o.dst v=a.put o.dst c:=put_congr hp hAs
     left
     unfold Oper.wp
     rw[hex]
     unfold Oper.quietAt at hq
     generalize (execOp A.eval o).run P w=r at hq
     unfold Oper.quietUpon at hq
     split at hq
     ·obtain⟨rfl,rfl⟩:=hq
      show wpAny P .any ops Q _ _ (a.put o.dst _) _
      rw[hpc]
      exact go c _ rfl trivial (SinceT.rfl_ _) (fun g hg=>hg.elim)
     ·obtain⟨rfl,rfl⟩:=hq
      show wpAny P .any ops Q _ _ (a.put o.dst _) _
      rw[hpc]
      exact go c _ rfl trivial (SinceT.rfl_ _) (fun g hg=>hg.elim)
     ·obtain⟨rfl,hcall⟩:=hq
      rw[Oper.upon_enter]
      refine hcall.mono ?_
      rintro e w'' ⟨rfl,hC⟩
      show wpAny P .any ops Q _ _ (a.put o.dst _) _
      rw[hpc]
      exact go c _ rfl trivial hC.out.2.2 (fun g hg=>hg.elim)
     ·exact hq.elim
    ·rw[if_neg hw] at hask ⊢
     subst hask
     exact go undef w rfl trivial (SinceT.rfl_ _) (fun g hg=>hg.elim)
   | mk fn t cs =>
    obtain⟨hw,hrun⟩:=hask
    rw[if_pos hw]
    left
    unfold Oper.wp
    rw[hex,hrun w]
    show wpAny P .any ops Q _ _ (a.put o.dst _) _
    refine go _ _ ⟨_,rfl⟩ ⟨_,rfl,Blk.new w t cs,h.bas,hTb _ h.bas⟩ ((SinceT.rfl_ w).alloc _) (fun g hg=>?_)
    have:w.heap.size=g:=hmo _ _ hg
    omega
   | any R =>
    obtain⟨hw,hrun⟩:=hask
    rw[if_pos hw]
    left
    unfold Oper.wp
    rw[hex]
    have hr:=hrun w h.cls hF
    unfold runVT at hr
    generalize (execOp A.eval o).run P w=r at hr
    split at hr
    ·exact go _ _ trivial hr.1 hr.2 (fun g hg=>hg.elim)
    ·exact go _ _ trivial hr.1 hr.2 (fun g hg=>hg.elim)
    ·rw[Oper.upon_enter]
     refine hr.mono ?_
     rintro e w'' ⟨v,rfl,h1,h2⟩
     exact go v _ trivial h1 h2 (fun g hg=>hg.elim)
    ·exact hr.elim
end
theorem cls_callT{S F:World→Prop}(hM:∀ w w',S w→SinceT w w' → S w'){wx w w' : World}(hF:∀ w w',F w→SinceT w w' → F w')(hC:Cls (fun w' => S w' ∧ F w' ∧ SinceT wx w') w)(h:Since w w'):Cls (fun w' => S w' ∧ F w' ∧ SinceT wx w') w' :=
 ⟨hM _ _ hC.out.1 (.of h),hF _ _ hC.out.2.1 (.of h),hC.out.2.2.trans (.of h)⟩
theorem region_factsT{P:Program}{id:Nat}{Q:Exit→Act→World→Prop}{a:Act}{w:World}{l:List Oper}(n:Nat)(S:World→Prop)(hm:P.follows .mixedOrders=true)(hB:Region.factsB l.toArray n=true)(hS:S w.drew)(hmono:∀ w w',S w→SinceT w w' → S w')(hTb:∀ g,w.heap.size≤g→Tgt.T g=none)(ss:List Spec)
  (h:wpOT P l.toArray S w.heap.size (fun a' w' => wpList P l.toArray Q (l.drop n) a' w') (l.take n) ss [] [] a):(Code.region id l.toArray true).wp P Q a w:=by
 unfold Region.factsB at hB
 simp only[Bool.and_eq_true,Bool.or_eq_true,decide_eq_true_eq] at hB
 obtain⟨⟨⟨⟨h1,h2⟩,h3⟩,h4⟩,h5⟩:=hB
 obtain⟨vs,hvs⟩:=shapeL_some ss
 have hlen:(l.take n).length=n:=by simp at h2 ⊢;omega
 have hss:ss.length=n:=by rw[← wpO_lenT h hvs,hlen]
 refine wp_region_any hm ?_
 have inv0:HeadInv .any l.toArray n (Array.replicate l.toArray.size false) :=
  ⟨by simp,fun j oj _ hl=>(by rw[getD_replicate_false] at hl;cases hl),fun t _ ht=>getD_in (by simpa using ht) (getD_replicate_false _ _)⟩
 have hc:cnt n (Array.replicate l.toArray.size false)=n:=by
  unfold cnt
  rw[List.countP_eq_length.2,List.length_range]
  intro i hi
  have hin:=List.mem_range.1 hi
  simp only[List.size_toArray] at h2 ⊢
  have:i<l.length:=by omega
  simp[this]
 have hd0:HdT P l.toArray S w.heap.size n ss a (Array.replicate l.toArray.size false) a { w with drawn:=w.drawn+1 } vs :=
  ⟨by rw[← shapeL_len hvs,hss],hvs,rfl,rfl,fun t _=>rfl,fun j o t _ _ hl=>(by rw[getD_replicate_false] at hl;cases hl),fun j s v _ hl=>(by rw[getD_replicate_false] at hl;cases hl),fun j k s s' v v' _ hl=>(by rw[getD_replicate_false] at hl;cases hl),hS,Nat.le_refl _⟩
 have:=facts_anyT h1 h2 h3 h4 h5 (by simpa using h) hss hmono hTb n _ _ _ _ inv0 hc hd0
 rwa[show n+(l.toArray.size-n)=l.toArray.size by omega] at this
section
variable {P : Program} {ops : Array Oper} {S : World → Prop} {base : Nat} {K : Act → World → Prop} {l : List Oper} {o : Oper} {ss : List Spec} {Fs : List (World → Prop)} {Bs : List (Nat → Prop)} {a : Act}
theorem wpO_nilT(h:∀ w,S w→allF Fs w→Bs.Pairwise (fun p q=>∀ g g',p g→q g' → g≠g')→K a w):wpOT P ops S base K [] [] Fs Bs a:=h
theorem wpO_detT{c:Value}(hw:Region.wanted o (yielded ops a.tmps)=true)(h:(∀ w w',factsOf Fs (pres o) w→SinceT w w' → factsOf Fs (pres o) w')→∀ wx,S wx→factsOf Fs (pres o) wx→∀ K' : Act→Prop,(∀ a',a' = a.put o.dst c→K' a')→o.quiet P a (Cls fun w' => S w' ∧ factsOf Fs (pres o) w' ∧ SinceT wx w') K')
  (k:wpOT P ops S base K l ss (Fs++[fun _=>True]) (Bs++[fun _=>False]) (a.put o.dst c)):wpOT P ops S base K (o :: l) (.det c :: ss) Fs Bs a :=
 ⟨trivial,by
  unfold Spec.asksT
  dsimp only
  rw[if_pos hw]
  exact fun hm wx h1 h2=>h hm wx h1 h2 _ (fun a' h=>h),fun v hv=>by cases hv;exact k⟩
theorem wpO_anyT{R:Value→World→Prop}(hR:∀ v w w',R v w→SinceT w w' → R v w')(hw:Region.wanted o (yielded ops a.tmps)=true)(h:∀ w,S w→factsOf Fs (pres o) w→runVT P o a w fun v w' => R v w' ∧ SinceT w w')
  (k:∀ v,wpOT P ops S base K l ss (Fs++[R v]) (Bs++[fun _=>False]) (a.put o.dst v)):wpOT P ops S base K (o :: l) (.any R :: ss) Fs Bs a :=
 ⟨hR,⟨hw,h⟩,fun v _=>k v⟩
end
theorem SinceT.grown{w w' : World}(h:SinceT w w'){k:Nat}(hT:∀ g,g≠k→Tgt.T g=none):w.grownBy w' (some k) :=
 ⟨h.1,h.2.1,h.2.2.1,h.size,fun i hi hne=>h.heap (hT i (fun e=>hne (by rw[e]))) hi⟩
theorem store2_T{w:World}{g:Nat}{t:TypeId}{x y u v:Value}(k:Blk w g t #[x,y])(hT:Tgt.T g=some (.cells #[u,v] t (0,0))) :
  Blk ((w.setCell ⟨g,0,none⟩ u).setCell ⟨g,1,none⟩ v) g t #[u,v]∧SinceT w ((w.setCell ⟨g,0,none⟩ u).setCell ⟨g,1,none⟩ v):=by
 have h1:Blk ((w.setCell ⟨g,0,none⟩ u).setCell ⟨g,1,none⟩ v) g t #[u,v]:=(k.set_ 0 u).set_ 1 v
 have hO:Only g w ((w.setCell ⟨g,0,none⟩ u).setCell ⟨g,1,none⟩ v):=(((Since.rfl_ w).only g).setCell (.inl rfl) u).setCell (.inl rfl) v
 refine⟨h1,hO.os,hO.tape,hO.output,hO.size,fun i hi=>?_⟩
 by_cases e:i=g
 ·subst e;exact .inr ⟨_,hT,h1⟩
 ·exact .inl (hO.block i hi (fun k=>e (by injection k)))
end
end Go.Proofs.YtdnccjdlmepafaaGreat
