/-
  Walks of cmp.Compare, point.way, Cross, Turn, box.Has, Meet, Join; Plain laws of convex hulls: chains, the ring, its uniqueness; Walks of buffer: corners, Octagon, Strip; Walks of box.Of, box.Hit; The walk of hull.chain; The library's sort and Reverse over points, in this seat's words; slices.Compact over points: as a plain function, and its walk; The walk of clip.Line. Conditions: those that each lemma names.
-/
import Derived.Test.YtdnccjdlmepafaaGreatK03
import Derived.Test.YtdnccjdlmepafaaGreatK02
import Derived.Deep.Onto
import Derived.Shelf.SlSortCmp.NoneTotal
import Derived.Shelf.SlicesQ.Reverse
import Derived.Ground.SlsfProg
import Derived.Ground.SlgnProg
import Derived.Laws.IdiomCopy
set_option linter.unusedSimpArgs false
set_option linter.unusedVariables false
set_option linter.constructorNameAsVariable false
namespace Go.Proofs.YtdnccjdlmepafaaGreat
section
open Go.RowKit Go.BigFrame
attribute [local go_sem ↓] eqPt neqPt
attribute [local go_sem] max2_int min2_int max_two min_two
def crossV(ax ay bx by_ px py:Int):Int:=(bx-ax)*(py-ay)-(by_-ay)*(px-ax)
def cmpI(x y:Int):Int:=if x<y then -1 else if y<x then 1 else 0
theorem Compare_any(x y:Int)(w:World):Calls Tryz.prog 50 #[.int .i64 x,.int .i64 y] w fun e w' => e=.returned (.int .i64 (cmpI x y))∧w=w' := by
 go_enter Tryz.func50,Tryz.ntmps50
 go_wp2
 all_goals (go_ret;refine⟨?_,rfl⟩;unfold cmpI;(repeat' split) <;> first | rfl | (exfalso;omega))
theorem ClampS_any(x y:Int)(w:World):Calls Tryz.prog 69 #[.agg #[.int .i64 x,.int .i64 y]] w fun e w' => e=.returned (.agg #[.int .i64 (clampI x),.int .i64 (clampI y)])∧Since w w' := Clamp_any x y w
set_option maxHeartbeats 1000000 in
theorem way_any(ax ay bx by_:Int)(w:World):Calls Tryz.prog 75 #[.agg #[.int .i64 ax,.int .i64 ay],.agg #[.int .i64 bx,.int .i64 by_]] w fun e w' =>
  e=.returned (.agg #[.int .i64 (clampI bx-clampI ax),.int .i64 (clampI by_-clampI ay)])∧Since w w' := by
 have q1:=clampI_bd ax
 have q2:=clampI_bd ay
 have q3:=clampI_bd bx
 have q4:=clampI_bd by_
 go_enter Tryz.func75,Tryz.ntmps75
 go_upto_region 1 with fail
 refine atW (fun w' => Blk w' w.heap.size 36 #[.int .i64 ax,.int .i64 ay]∧Blk w' (w.heap.size+1) 36 #[.int .i64 bx,.int .i64 by_]∧Blk w' (w.heap.size+1+1) 36 #[.int .i64 0,.int .i64 0]∧Since w w') ⟨((Blk.new w _ _).alloc _).alloc _,(Blk.new' (by simp)).alloc _,Blk.new' (by simp),(((Since.rfl_ w).alloc _).alloc _).alloc _⟩ ?_
 rintro w1 ⟨ha,hb,hr,hs⟩
 have a0:w1.cell? ⟨w.heap.size,0,none⟩=some (.int .i64 ax):=ha.cell 0
 have a1:w1.cell? ⟨w.heap.size,1,none⟩=some (.int .i64 ay):=ha.cell 1
 have b0:w1.cell? ⟨w.heap.size+1,0,none⟩=some (.int .i64 bx):=hb.cell 0
 have b1:w1.cell? ⟨w.heap.size+1,1,none⟩=some (.int .i64 by_):=hb.cell 1
 have HB:=Lib.hid (And.intro ha (And.intro hb (And.intro hr hs)))
 clear ha hb hr hs
 refine region_tail 4 (fun w' => w'.cell? ⟨w.heap.size,0,none⟩=some (.int .i64 ax)∧w'.cell? ⟨w.heap.size,1,none⟩=some (.int .i64 ay)∧w'.cell? ⟨w.heap.size+1,0,none⟩=some (.int .i64 bx)∧w'.cell? ⟨w.heap.size+1,1,none⟩=some (.int .i64 by_)∧Since w1 w') (by kernel_rfl) (by kernel_rfl) (by(repeat' refine And.intro ?_ ?_) <;> first | (simp (maxDischargeDepth:=9) [a0,a1,b0,b1,  cSetS,cSetO,cellNew,World.cell?_alloc_some,cellDrew];done) | (repeat (first | with_reducible assumption | with_reducible exact Since.rfl_ _ | refine Since.setCell ?_ (by(try dsimp only);omega) _ | refine Since.alloc ?_ _ | refine Since.drew ?_))) ?_
 simp only[List.take_succ_cons,List.take_zero,List.drop_succ_cons,List.drop_zero]
 repeat (go_big_quiet_step ((first | (intro hC;go_at_call 69;refine(Clamp_any _ _ _).mono ?_;rintro e w' ⟨rfl,hb⟩;refine⟨rfl,?_⟩;have k1:=keepC hb;have k2:=keepS hb;have hC:=hC.out;(try dsimp only at hC);simp[Cls,hC,k1,k2]) | (intro hC;have hC:=hC.out;(try simp only[hC,Result.andThen]);first | exact⟨True.intro,rfl⟩ | exact⟨rfl,rfl⟩ | rfl))))
 refine tail_end ?_
 clear a0 a1 b0 b1
 rintro w2 ⟨-,-,-,-,hs⟩
 have ha:=hs.blk HB.out.1
 have hb:=hs.blk HB.out.2.1
 have hr:=hs.blk HB.out.2.2.1
 have HS:=Lib.hid (HB.out.2.2.2.trans hs)
 have hsz:w.heap.size+1+1<w2.heap.size:=hr.lt
 have a_0:=ha.cell 0
 have a_1:=ha.cell 1
 have a_f0:=ha.frozen 0
 have a_f1:=ha.frozen 1
 simp only[List.getElem?_toArray,List.getElem?_cons_zero,List.getElem?_cons_succ] at a_0 a_1
 have b_0:=hb.cell 0
 have b_1:=hb.cell 1
 have b_f0:=hb.frozen 0
 have b_f1:=hb.frozen 1
 simp only[List.getElem?_toArray,List.getElem?_cons_zero,List.getElem?_cons_succ] at b_0 b_1
 have r_0:=hr.cell 0
 have r_1:=hr.cell 1
 have r_f0:=hr.frozen 0
 have r_f1:=hr.frozen 1
 simp only[List.getElem?_toArray,List.getElem?_cons_zero,List.getElem?_cons_succ] at r_0 r_1
 clear hs ha hb hr
 go_wp2
 refine bodyPost_ret (v:=.agg #[.int .i64 (clampI bx-clampI ax),.int .i64 (clampI by_-clampI ay)]) (by simp[results,Tryz.results75,go_sem,cSetS,cSetO,r_0,r_1]) rfl ⟨rfl,?_⟩
 exact(((((HS.out.setCell (by dsimp only;omega) _).setCell (by dsimp only;omega) _).setCell (by dsimp only;omega) _).setCell (by dsimp only;omega) _).setCell (by dsimp only;omega) _).setCell (by dsimp only;omega) _
set_option maxHeartbeats 1000000 in
theorem Cross_any(ax ay bx by_ cx cy:Int)(w:World):Calls Tryz.prog 74 #[.agg #[.int .i64 ax,.int .i64 ay],.agg #[.int .i64 bx,.int .i64 by_],.agg #[.int .i64 cx,.int .i64 cy]] w fun e w' =>
  e=.returned (.int .i64 (crossV (clampI ax) (clampI ay) (clampI bx) (clampI by_) (clampI cx) (clampI cy)))∧Since w w' := by
 have q1:=clampI_bd ax
 have q2:=clampI_bd ay
 have q3:=clampI_bd bx
 have q4:=clampI_bd by_
 have q5:=clampI_bd cx
 have q6:=clampI_bd cy
 have m1:((clampI bx-clampI ax)*(clampI cy-clampI ay)).natAbs≤4398046511104:=Nat.le_trans (mul_bd (A:=2097152) (B:=2097152) (by omega) (by omega)) (by decide)
 have m2:((clampI by_-clampI ay)*(clampI cx-clampI ax)).natAbs≤4398046511104:=Nat.le_trans (mul_bd (A:=2097152) (B:=2097152) (by omega) (by omega)) (by decide)
 have e1:wrap64 ((clampI bx-clampI ax)*(clampI cy-clampI ay))=(clampI bx-clampI ax)*(clampI cy-clampI ay):=wrap_id (by omega)
 have e2:wrap64 ((clampI by_-clampI ay)*(clampI cx-clampI ax))=(clampI by_-clampI ay)*(clampI cx-clampI ax):=wrap_id (by omega)
 have e3:wrap64 ((clampI bx-clampI ax)*(clampI cy-clampI ay)-(clampI by_-clampI ay)*(clampI cx-clampI ax))=(clampI bx-clampI ax)*(clampI cy-clampI ay)-(clampI by_-clampI ay)*(clampI cx-clampI ax):=wrap_id (by omega)
 clear m1 m2 q1 q2 q3 q4 q5 q6
 go_enter Tryz.func74,Tryz.ntmps74
 go_upto_region 1 with fail
 refine atW (fun w' => Blk w' w.heap.size 36 #[.int .i64 ax,.int .i64 ay]∧Blk w' (w.heap.size+1) 36 #[.int .i64 bx,.int .i64 by_]∧Blk w' (w.heap.size+1+1) 36 #[.int .i64 cx,.int .i64 cy]∧Since w w') ⟨((Blk.new w _ _).alloc _).alloc _,(Blk.new' (by simp)).alloc _,Blk.new' (by simp),(((Since.rfl_ w).alloc _).alloc _).alloc _⟩ ?_
 rintro w1 ⟨ha,hb,hr,hs⟩
 have a0:w1.cell? ⟨w.heap.size,0,none⟩=some (.int .i64 ax):=ha.cell 0
 have a1:w1.cell? ⟨w.heap.size,1,none⟩=some (.int .i64 ay):=ha.cell 1
 have b0:w1.cell? ⟨w.heap.size+1,0,none⟩=some (.int .i64 bx):=hb.cell 0
 have b1:w1.cell? ⟨w.heap.size+1,1,none⟩=some (.int .i64 by_):=hb.cell 1
 have c0:w1.cell? ⟨w.heap.size+1+1,0,none⟩=some (.int .i64 cx):=hr.cell 0
 have c1:w1.cell? ⟨w.heap.size+1+1,1,none⟩=some (.int .i64 cy):=hr.cell 1
 have HB:=Lib.hid (And.intro ha (And.intro hb (And.intro hr hs)))
 clear ha hb hr hs
 apply region_facts 8 (fun w' => w'.cell? ⟨w.heap.size,0,none⟩=some (.int .i64 ax)∧w'.cell? ⟨w.heap.size,1,none⟩=some (.int .i64 ay)∧w'.cell? ⟨w.heap.size+1,0,none⟩=some (.int .i64 bx)∧w'.cell? ⟨w.heap.size+1,1,none⟩=some (.int .i64 by_)∧w'.cell? ⟨w.heap.size+1+1,0,none⟩=some (.int .i64 cx)∧w'.cell? ⟨w.heap.size+1+1,1,none⟩=some (.int .i64 cy)∧Since w1 w')
 case hm=>kernel_rfl
 case hB=>kernel_rfl
 case hS=>exact⟨a0,a1,b0,b1,c0,c1,(Since.rfl_ w1).drew⟩
 case h =>
 simp only[List.take_succ_cons,List.take_zero,List.drop_succ_cons,List.drop_zero]
 iterate 2 (apply wpO_det;(case hw=>rfl);(case h=>intro hFm wx hS_ hF_ K hK;go_big_quiet_op;first | exact hK _ rfl | (apply Exists.intro;refine⟨fun _=>?_,?_⟩;(focus (first | (intro hC;have hC:=hC.out;(try simp only[hC,Result.andThen]);first | exact⟨True.intro,rfl⟩ | exact⟨rfl,rfl⟩ | rfl)));exact hK _ rfl));(case' k=>simp only[Act.put,List.setIfInBounds_toArray,List.set_cons_succ,List.set_cons_zero,List.cons_append,List.nil_append]))
 (apply wpO_det;(case hw=>rfl);(case h=>intro hFm wx hS_ hF_ K hK;go_big_quiet_op;first | exact hK _ rfl | (apply Exists.intro;refine⟨fun _=>?_,?_⟩;(focus (first | (intro hC;go_at_call 75;refine(way_any _ _ _ _ _).mono ?_;rintro e w' ⟨rfl,hb⟩;refine⟨rfl,?_⟩;exact cls_call hFm hC hb)));exact hK _ rfl));(case' k=>simp only[Act.put,List.setIfInBounds_toArray,List.set_cons_succ,List.set_cons_zero,List.cons_append,List.nil_append]))
 iterate 2 (apply wpO_det;(case hw=>rfl);(case h=>intro hFm wx hS_ hF_ K hK;go_big_quiet_op;first | exact hK _ rfl | (apply Exists.intro;refine⟨fun _=>?_,?_⟩;(focus (first | (intro hC;have hC:=hC.out;(try simp only[hC,Result.andThen]);first | exact⟨True.intro,rfl⟩ | exact⟨rfl,rfl⟩ | rfl)));exact hK _ rfl));(case' k=>simp only[Act.put,List.setIfInBounds_toArray,List.set_cons_succ,List.set_cons_zero,List.cons_append,List.nil_append]))
 (apply wpO_det;(case hw=>rfl);(case h=>intro hFm wx hS_ hF_ K hK;go_big_quiet_op;first | exact hK _ rfl | (apply Exists.intro;refine⟨fun _=>?_,?_⟩;(focus (first | (intro hC;go_at_call 75;refine(way_any _ _ _ _ _).mono ?_;rintro e w' ⟨rfl,hb⟩;refine⟨rfl,?_⟩;exact cls_call hFm hC hb)));exact hK _ rfl));(case' k=>simp only[Act.put,List.setIfInBounds_toArray,List.set_cons_succ,List.set_cons_zero,List.cons_append,List.nil_append]))
 apply wpO_mk (f:=fun g=>.pointer (some ⟨g,0,none⟩)) (t:=36) (cs := #[.int .i64 0,.int .i64 0])
 case hi=>(intro g g' h;simpa using h)
 case hw=>rfl
 case h=>(intro w;simp[go_sem])
 case k =>
 intro g1
 simp only[Act.put,List.setIfInBounds_toArray,List.set_cons_succ,List.set_cons_zero,List.cons_append,List.nil_append]
 apply wpO_mk (f:=fun g=>.pointer (some ⟨g,0,none⟩)) (t:=36) (cs := #[.int .i64 0,.int .i64 0])
 case hi=>(intro g g' h;simpa using h)
 case hw=>rfl
 case h=>(intro w;simp[go_sem])
 case k =>
 intro g2
 simp only[Act.put,List.setIfInBounds_toArray,List.set_cons_succ,List.set_cons_zero,List.cons_append,List.nil_append]
 refine wpO_nil ?_
 intro w2 hS hF hB
 (try simp[allF] at hF)
 (try simp[List.pairwise_cons] at hB)
 obtain⟨⟨h1,l1⟩,h2,l2⟩:=hF
 have p_0:=h1.cell 0
 have p_1:=h1.cell 1
 have p_f0:=h1.frozen 0
 have p_f1:=h1.frozen 1
 simp only[List.getElem?_toArray,List.getElem?_cons_zero,List.getElem?_cons_succ] at p_0 p_1
 have q_0:=h2.cell 0
 have q_1:=h2.cell 1
 have q_f0:=h2.frozen 0
 have q_f1:=h2.frozen 1
 simp only[List.getElem?_toArray,List.getElem?_cons_zero,List.getElem?_cons_succ] at q_0 q_1
 have HS:=Lib.hid (HB.out.2.2.2.trans hS.2.2.2.2.2.2)
 have hsz:=HB.out.2.2.2.size
 clear hS h1 h2 a0 a1 b0 b1 c0 c1 HB
 go_wp2
 go_ret
 exact⟨ret_int (by unfold crossV;first | exact e3 | rfl),(((HS.out.setCell (by dsimp only;omega) _).setCell (by dsimp only;omega) _).setCell (by dsimp only;omega) _).setCell (by dsimp only;omega) _⟩
def turnV(ax ay bx by_ px py:Int):Int:=cmpI (crossV (clampI ax) (clampI ay) (clampI bx) (clampI by_) (clampI px) (clampI py)) 0
theorem Turn_any(ax ay bx by_ cx cy:Int)(w:World):Calls Tryz.prog 52 #[.agg #[.int .i64 ax,.int .i64 ay],.agg #[.int .i64 bx,.int .i64 by_],.agg #[.int .i64 cx,.int .i64 cy]] w fun e w' =>
  e=.returned (.int .i64 (turnV ax ay bx by_ cx cy))∧Since w w' := by
 go_enter Tryz.func52,Tryz.ntmps52
 go_wp2_with fail
 refine(Cross_any _ _ _ _ _ _ _).mono ?_
 rintro e w1 ⟨rfl,hs⟩
 have HS:=Lib.hid ((((Since.rfl_ w).alloc _).alloc _).alloc _ |>.trans hs)
 clear hs
 go_wp2_with (go_at_call 50;refine(Compare_any _ _ _).mono ?_;rintro e w' ⟨rfl,rfl⟩)
 go_ret
 exact⟨rfl,HS.out⟩
end
section
def crs(a b c:Pt2):Int:=crossV a.1 a.2 b.1 b.2 c.1 c.2
def lxB(a b:Pt2):Bool:=decide (a.1<b.1) || (decide (a.1=b.1) && decide (a.2<b.2))
def lx(a b:Pt2):Prop:=a.1<b.1∨(a.1=b.1∧a.2<b.2)
theorem lx_trans{a b c:Pt2}(h:lx a b)(k:lx b c):lx a c:=by unfold lx at *;omega
theorem lx_irr(a:Pt2):¬ lx a a:=by unfold lx;omega
theorem lx_tri(a b:Pt2):lx a b∨a=b∨lx b a:=by
 obtain⟨a1,a2⟩:=a
 obtain⟨b1,b2⟩:=b
 simp only[lx,Prod.mk.injEq];omega
theorem lx_asy{a b:Pt2}(h:lx a b)(k:lx b a):False:=lx_irr _ (lx_trans h k)
def Inc:List Pt2→Prop
 | b :: a :: s=>lx a b∧Inc (a :: s)
 | _=>True
def Conv:List Pt2→Prop
 | c :: b :: a :: s=>0<crs a b c∧Conv (b :: a :: s)
 | _=>True
def Lft(X:List Pt2):List Pt2→Prop
 | b :: a :: s=>(∀ x∈X,0≤crs a b x)∧Lft X (a :: s)
 | _=>True
theorem crs_self(a b:Pt2):crs a b b=0∧crs a b a=0∧crs a a b=0:=by unfold crs crossV;refine⟨?_,?_,?_⟩ <;> grind
structure GoodC(X s:List Pt2):Prop where
 ne:s≠[]
 inc:Inc s
 conv:Conv s
 lft:Lft X s
 mem:∀ q∈s,q∈X
 top:∀ b r,s=b :: r→∀ x∈X,x=b∨lx x b
 bot:∀ b,s.getLast? = some b→∀ x∈X,x=b∨lx b x
def Srt(X:List Pt2):Prop:=X.Pairwise lx
def ng(p:Pt2):Pt2:=(-p.1,-p.2)
theorem pAt_mem{s:List Pt2}{i:Nat}(h:i<s.length):pAt s i∈s:=by unfold pAt;simp[List.getD,h]
theorem mem_pAt{s:List Pt2}{p:Pt2}(h:p∈s):∃ i,i<s.length∧pAt s i=p:=by
 obtain⟨i,hi,rfl⟩:=List.mem_iff_getElem.1 h
 exact⟨i,hi,by simp[pAt,List.getD,hi]⟩
structure Two(X s u:List Pt2):Prop where
 s2:2≤s.length
 u2:2≤u.length
 low:GoodC X s
 upp:GoodC (X.reverse.map ng) (u.map ng)
 e1:pAt s 0=pAt u (u.length-1)
 e2:pAt u 0=pAt s (s.length-1)
section
variable {X s u : List Pt2} (h : Two X s u)
omit h in
omit h in
omit h in
end
theorem srt_ext:∀ {X Y:List Pt2},Srt X→Srt Y→(∀ x,x∈X↔x∈Y)→X=Y
 | [],[],_,_,_=>rfl
 | [],y :: Y,_,_,h=>by have:=(h y).2 (by simp);cases this
 | x :: X,[],_,_,h=>by have:=(h x).1 (by simp);cases this
 | x :: X,y :: Y,hX,hY,h=>by
  unfold Srt at hX hY
  rw[List.pairwise_cons] at hX hY
  have e:x=y:=by
   rcases List.mem_cons.1 ((h x).1 (by simp)) with a | a
   ·exact a
   ·rcases List.mem_cons.1 ((h y).2 (by simp)) with b | b
    ·exact b.symm
    ·exact(lx_asy (hX.1 y b) (hY.1 x a)).elim
  subst e
  congr 1
  refine srt_ext hX.2 hY.2 fun z=>⟨fun hz=>?_,fun hz=>?_⟩
  ·rcases List.mem_cons.1 ((h z).1 (by simp[hz])) with b | b
   ·rw[b] at hz;exact absurd (hX.1 _ hz) (lx_irr _)
   ·exact b
  ·rcases List.mem_cons.1 ((h z).2 (by simp[hz])) with b | b
   ·rw[b] at hz;exact absurd (hY.1 _ hz) (lx_irr _)
   ·exact b
end
section
open Go.RowKit Go.BigFrame
attribute [local go_sem ↓] eqPt neqPt
end
section
open Go.RowKit Go.BigFrame
attribute [local go_sem ↓] eqPt neqPt
attribute [local go_sem] max2_int min2_int max_two min_two
theorem clamp_id{x y:Int}(h:okP x y=true):clampI x=x∧clampI y=y:=by rw[okP_iff] at h;unfold clampI;omega
theorem Clamp_val{x y:Int}(h:okP x y=true)(w:World):Calls Tryz.prog 69 #[.agg #[.int .i64 x,.int .i64 y]] w fun e w' => e=.returned (.agg #[.int .i64 x,.int .i64 y])∧Since w w' := by
 have:=ClampS_any x y w
 rwa[(clamp_id h).1,(clamp_id h).2] at this
end
section
open Go.RowKit Go.BigFrame
attribute [local go_sem ↓] eqPt neqPt
theorem flatP_len(l:List Pt2):(l.flatMap ptV).length=l.length*2:=by
 induction l with
 | nil=>rfl
 | cons p l ih=>rw[List.flatMap_cons,List.length_append,ih,ptV_len,List.length_cons];omega
theorem turn_crs{a b c:Pt2}(ha:okP a.1 a.2=true)(hb:okP b.1 b.2=true)(hc:okP c.1 c.2=true):turnV a.1 a.2 b.1 b.2 c.1 c.2=cmpI (crs a b c) 0:=by
 unfold turnV crs
 rw[(clamp_id ha).1,(clamp_id ha).2,(clamp_id hb).1,(clamp_id hb).2,(clamp_id hc).1,(clamp_id hc).2]
end
section
open Go.RowKit Go.BigFrame Go.Shelf Go.Lib Go.Proofs
attribute [local go_sem ↓] eqPt neqPt
theorem flatK_ptV(l:List Pt2):Go.Sort.flatK ptV 2 l.toArray=(l.flatMap ptV).toArray:=by
 refine Go.Sort.ext_get! (by rw[Go.Sort.size_flatK,List.size_toArray,List.size_toArray,flatP_len]) fun t ht=>?_
 rw[Go.Sort.size_flatK] at ht
 rw[Go.Sort.get_flatK _ _ _ _ ht]
 have ht' : t<l.length*2:=by simpa using ht
 have hi:t/2<l.length:=by omega
 have h1:=flat_at ptV_len l (t/2) (t % 2) hi (by omega)
 rw[show t/2*2+t % 2=t by omega] at h1
 have h2:(l.flatMap ptV).toArray[t]! = (ptV l[t/2])[t % 2]! := by
  rw[getElem!_def,getElem!_def,List.getElem?_toArray,h1]
 rw[h2,getElem!_pos l.toArray (t/2) (by simpa using hi),List.getElem_toArray]
section
variable {w : World} {B g n c m : Nat} {l l' : List Pt2} {os : Array Obj}
theorem own_holds(h:w.ownsRow B 36 2 (.slice (some ⟨g,0,none⟩) n c) n (l.flatMap ptV))(hn:n=l.length):Go.Sort.HoldsK ptV 2 w g 0 l.toArray:=by
 intro j hj
 rw[flatK_ptV] at hj ⊢
 have hj' : j<n*2:=by simp only[List.size_toArray,flatP_len] at hj;omega
 refine⟨?_,h.frozenAt _⟩
 rw[Nat.zero_add,h.cellAt j hj']
 rw[getElem!_pos _ j hj,List.getElem_toArray,List.getElem?_eq_getElem]
 rfl
theorem only_sort(d:Array Pt2)(hg:g<w.heap.size):Only g w (Go.Sort.grow (Go.Sort.putRowK ptV 2 (Go.Sort.ahead w m) g 0 d) os):=by
 refine⟨rfl,rfl,rfl,by simp[Go.Sort.putRowK],fun k hk hne=>?_⟩
 rw[Go.Sort.heap_grow_old _ _ (by simpa[Go.Sort.putRowK] using hk)]
 have:g≠k:=fun e=>hne (by rw[e])
 simp[Go.Sort.putRowK,Go.Sort.putRow,Go.Sort.mapBlock,Go.Sort.ahead,Array.getElem?_modify,this]
theorem own_sort(h:w.ownsRow B 36 2 (.slice (some ⟨g,0,none⟩) n c) n (l.flatMap ptV))(hn:n=l.length)(hl:l'.length=l.length) :
  (Go.Sort.grow (Go.Sort.putRowK ptV 2 (Go.Sort.ahead w m) g 0 l'.toArray) os).ownsRow B 36 2 (.slice (some ⟨g,0,none⟩) n c) n (l'.flatMap ptV):=by
 obtain⟨h0,⟨h1,-⟩ | ⟨g',cap,cur,h1,hb,hg,hc,hm,hs,ht⟩⟩:=h
 ·cases h1
 ·injection h1 with h1 h2 h3
  injection h1 with h1
  injection h1 with h1
  subst h1 h3
  have hlt:g<w.heap.size:=(Array.getElem?_eq_some_iff.1 hg).1
  refine⟨by rw[flatP_len,hn,hl],.inr ⟨g,c,Go.Sort.putCells id 0 (l'.flatMap ptV).toArray cur,rfl,hb,?_,hc,hm,by simp[Go.Sort.putCells,hs],?_⟩⟩
  ·rw[Go.Sort.heap_grow_old _ _ (by simpa[Go.Sort.putRowK] using hlt)]
   simp[Go.Sort.putRowK,Go.Sort.putRow,Go.Sort.mapBlock,Go.Sort.ahead,Array.getElem?_modify,hg,Go.Sort.onCells,flatK_ptV]
  ·have hle:n*2≤cur.size:=by rw[hs];exact Nat.mul_le_mul_right 2 hc
   apply List.ext_getElem?
   intro j
   have hlen:(l'.flatMap ptV).length=n*2:=by rw[flatP_len,hn,hl]
   by_cases hj:j<n*2
   ·rw[List.getElem?_take_of_lt hj,Array.getElem?_toList]
    simp[Go.Sort.putCells,hj,hlen,show j<cur.size by omega]
   ·rw[List.getElem?_take_eq_none (by omega),List.getElem?_eq_none (by omega)]
end
def cmpP(a b:Pt2):Int:=if cmpI a.1 b.1=0 then cmpI a.2 b.2 else cmpI a.1 b.1
theorem Cmp_any(a b:Pt2)(w:World):Calls Tryz.prog 28 #[.agg #[.int .i64 a.1,.int .i64 a.2],.agg #[.int .i64 b.1,.int .i64 b.2]] w fun e w' => e=.returned (.int .i64 (cmpP a b))∧∃ q os',w' = Go.Sort.grow (w.drewN q) os' := by
 cases hc:(cmpI a.1 b.1 == 0)
 ·have HE:Hid (cmpI a.1 b.1=cmpP a b):=by
   show _=_
   unfold cmpP;rw[if_neg (by simpa using hc)]
  have hc2:(cmpI a.1 b.1 != 0)=true:=by simpa[bne] using hc
  go_enter Tryz.func28,Tryz.ntmps28
  go_wp2_with (go_at_call 50;refine(Compare_any _ _ _).mono ?_;rintro e w' ⟨rfl,rfl⟩)
  go_ret
  exact⟨ret_int HE.out,0,_,by rw[Go.Sort.alloc_eq_grow,Go.Sort.alloc_eq_grow,Go.Sort.grow_grow];rfl⟩
 ·have HE:Hid (cmpI a.2 b.2=cmpP a b):=by
   show _=_
   unfold cmpP;rw[if_pos (by simpa using hc)]
  have hc2:(cmpI a.1 b.1 != 0)=false:=by simpa[bne] using hc
  go_enter Tryz.func28,Tryz.ntmps28
  go_wp2_with (go_at_call 50;refine(Compare_any _ _ _).mono ?_;rintro e w' ⟨rfl,rfl⟩)
  go_ret
  exact⟨ret_int HE.out,0,_,by rw[Go.Sort.alloc_eq_grow,Go.Sort.alloc_eq_grow,Go.Sort.grow_grow];rfl⟩
theorem cmpP_lt(a b:Pt2):Go.Proofs.ltOf cmpP a b=lxB a b:=by
 unfold Go.Proofs.ltOf cmpP lxB cmpI
 rw[Bool.eq_iff_iff]
 simp only[decide_eq_true_eq,Bool.or_eq_true,Bool.and_eq_true]
 repeat' split
 all_goals omega
end
section
open Go.RowKit Go.BigFrame
attribute [local go_sem ↓] eqPt neqPt
theorem i64wc(n:Int):IntKind.i64.wrap n=wrap64 n:=by unfold wrap64;exact IntKind.wrap_i64 n
def RowP(w:World)(g n N:Nat)(f:Nat→Pt2):Prop :=
 ∃ cs,Blk w g 36 cs∧cs.size=N∧2*n≤N∧∀ i,i<n→cs[2*i]? = some (.int .i64 (f i).1)∧cs[2*i+1]? = some (.int .i64 (f i).2)
section
variable {w w' : World} {g n m N : Nat} {f f' : Nat → Pt2}
theorem RowP.since(h:RowP w g n N f)(k:Since w w'):RowP w' g n N f:=by
 obtain⟨cs,hb,hc⟩:=h
 exact⟨cs,k.blk hb,hc⟩
theorem RowP.drew(h:RowP w g n N f):RowP w.drew g n N f:=h
theorem RowP.lt(h:RowP w g n N f):g<w.heap.size:=by obtain⟨cs,hb,-⟩:=h;exact hb.lt
theorem RowP.cells(h:RowP w g n N f){i:Nat}(hi:i<n) :
  w.cell? ⟨g,i*2,none⟩=some (.int .i64 (f i).1)∧w.cell? ⟨g,i*2+1,none⟩=some (.int .i64 (f i).2):=by
 obtain⟨cs,hb,-,-,hc⟩:=h
 obtain⟨h1,h2⟩:=hc i hi
 rw[Nat.mul_comm 2 i] at h1 h2
 exact⟨(hb.cell _).trans h1,(hb.cell _).trans h2⟩
theorem RowP.frozen(h:RowP w g n N f)(j:Nat):w.frozen? ⟨g,j,none⟩=false:=by obtain⟨cs,hb,-⟩:=h;exact hb.frozen _
theorem RowP.is(h:RowP w g n N f){j:Nat}(hj:j<N):(w.cell? ⟨g,j,none⟩).isSome=true:=by
 obtain⟨cs,hb,hs,-⟩:=h
 rw[hb.cell,Array.getElem?_eq_getElem (by omega)];rfl
theorem RowP.sub(h:RowP w g n N f)(hm:m≤n)(hf:∀ i,i<m→f' i=f i):RowP w g m N f' := by
 obtain⟨cs,hb,hs,hn,hc⟩:=h
 exact⟨cs,hb,hs,by omega,fun i hi=>by rw[hf i hi];exact hc i (by omega)⟩
theorem RowP.set(h:RowP w g n N f){j:Nat}(hj:j<n)(p:Pt2):RowP ((w.setCell ⟨g,j*2,none⟩ (.int .i64 p.1)).setCell ⟨g,j*2+1,none⟩ (.int .i64 p.2)) g n N (fun i=>if i=j then p else f i):=by
 obtain⟨cs,hb,hs,hn,hc⟩:=h
 refine⟨_,(hb.set_ _ _).set_ _ _,by simpa using hs,hn,fun i hi=>?_⟩
 simp only[Array.getElem?_setIfInBounds,Array.size_setIfInBounds]
 refine⟨?_,?_⟩ <;> (repeat' split) <;> first | (exfalso;omega) | rfl | exact(hc i hi).1 | exact(hc i hi).2
theorem RowP.high(h:RowP w g n N f){j:Nat}(hj:2*n≤j)(u:Value):RowP (w.setCell ⟨g,j,none⟩ u) g n N f:=by
 obtain⟨cs,hb,hs,hn,hc⟩:=h
 refine⟨_,hb.set_ _ _,by simpa using hs,hn,fun i hi=>?_⟩
 rw[Array.getElem?_setIfInBounds_ne (by omega),Array.getElem?_setIfInBounds_ne (by omega)]
 exact hc i hi
theorem RowP.highs:∀ (l:List Value) (j:Nat) (w:World),RowP w g n N f→2*n≤j→RowP (w.setCells g j l) g n N f
 | [],_,_,h,_=>h
 | v :: r,j,w,h,hj=>RowP.highs r (j+1) _ (h.high hj v) (by omega)
end
theorem only_cells{g:Nat}{w0:World}:∀ (l:List Value) (j:Nat) (w:World),Only g w0 w→Only g w0 (w.setCells g j l)
 | [],_,_,h=>h
 | v :: r,j,w,h=>only_cells r (j+1) _ (h.setCell (.inl rfl) v)
def snocC(acc:List Pt2)(q:Pt2):List Pt2:=if acc.length=0 then [q] else if q=lastP acc then acc else acc++[q]
def cmpL(l:List Pt2):List Pt2:=l.foldl snocC []
theorem cmpL_snoc(l:List Pt2)(q:Pt2):cmpL (l++[q])=snocC (cmpL l) q:=by unfold cmpL;rw[List.foldl_append];rfl
theorem cmpL_take{l:List Pt2}{j:Nat}(hj:j<l.length):cmpL (l.take (j+1))=snocC (cmpL (l.take j)) (pAt l j):=by
 rw[List.take_succ_eq_append_getElem hj,cmpL_snoc]
 simp[pAt,List.getD,hj]
theorem lastP_snoc(l:List Pt2)(q:Pt2):lastP (l++[q])=q:=by unfold lastP pAt;simp[List.getD]
theorem snocC_last(l:List Pt2)(q:Pt2):lastP (snocC l q)=q∧1≤(snocC l q).length∧(snocC l q).length≤l.length+1:=by
 unfold snocC
 split
 ·exact⟨by simp[lastP,pAt,List.getD],by simp,by simp⟩
 ·split
  ·rename_i h;exact⟨h.symm,by omega,by omega⟩
  ·exact⟨lastP_snoc _ _,by simp,by simp⟩
theorem cmpL_law{l:List Pt2}:∀ {j:Nat},j<l.length→lastP (cmpL (l.take (j+1)))=pAt l j∧1≤(cmpL (l.take (j+1))).length∧(cmpL (l.take (j+1))).length≤j+1
 | 0,hj=>by
  rw[cmpL_take hj]
  have:=snocC_last (cmpL (l.take 0)) (pAt l 0)
  exact⟨this.1,this.2.1,by simpa[cmpL] using this.2.2⟩
 | j+1,hj=>by
  rw[cmpL_take hj]
  have:=snocC_last (cmpL (l.take (j+1))) (pAt l (j+1))
  have h2:=(cmpL_law (l:=l) (j:=j) (by omega)).2.2
  exact⟨this.1,this.2.1,by omega⟩
theorem cmpL_same{l:List Pt2}{j:Nat}(hj:j+1<l.length)(h:pAt l (j+1)=pAt l j):cmpL (l.take (j+1+1))=cmpL (l.take (j+1)):=by
 have h1:=cmpL_law (l:=l) (j:=j) (by omega)
 rw[cmpL_take hj,snocC,if_neg (by omega),if_pos (by rw[h1.1,h])]
theorem cmpL_new{l:List Pt2}{j:Nat}(hj:j+1<l.length)(h:¬ pAt l (j+1)=pAt l j):cmpL (l.take (j+1+1))=cmpL (l.take (j+1))++[pAt l (j+1)]:=by
 have h1:=cmpL_law (l:=l) (j:=j) (by omega)
 rw[cmpL_take hj,snocC,if_neg (by omega),if_neg (by rw[h1.1];exact h)]
theorem cmpL_le(l:List Pt2):(cmpL l).length≤l.length:=by
 rcases hl:l.length with _ | n
 ·rw[List.length_eq_zero_iff.1 hl];simp[cmpL]
 ·have:=(cmpL_law (l:=l) (j:=n) (by omega)).2.2
  rw[List.take_of_length_le (by omega)] at this
  omega
theorem pAt_app_lt{l m:List Pt2}{i:Nat}(h:i<l.length):pAt (l++m) i=pAt l i:=by unfold pAt;simp[List.getD,List.getElem?_append_left h]
theorem pAt_app_at(l:List Pt2)(q:Pt2):pAt (l++[q]) l.length=q:=by unfold pAt;simp[List.getD]
theorem pAt_take{l:List Pt2}{i j:Nat}(h:i<j):pAt (l.take j) i=pAt l i:=by unfold pAt;simp[List.getD,List.getElem?_take,h]
theorem zeroPt(n:Nat):∀ u∈(Builtin.zeroCells #[Value.int .i64 0,Value.int .i64 0] n).toList,u.oneCell' = true:=by
 intro u hu
 simp only[Builtin.zeroCells,Array.toList_map,List.mem_map] at hu
 obtain⟨i,-,rfl⟩:=hu
 have:i % 2=0∨i % 2=1:=by omega
 simp only[List.size_toArray,List.length_cons,List.length_nil]
 rcases this with h | h <;> rw[h] <;> rfl
theorem zeroPt_len(n:Nat):(Builtin.zeroCells #[Value.int .i64 0,Value.int .i64 0] n).toList.length=n*2:=by simp[Builtin.zeroCells]
theorem clear_pt(w:World)(g m n c N:Nat)(f:Nat→Pt2)(ty:TypeId)(h:RowP w g m N f)(hn:0<n)(hN:2*(m+n)≤N) :
  (Builtin.clear_ #[23] ty #[.slice (some ⟨g,m*2,none⟩) n c]).run Tryz.prog w=.ok (.tuple #[]) (w.setCells g (m*2) (Builtin.zeroCells #[Value.int .i64 0,Value.int .i64 0] n).toList):=by
 obtain⟨k,rfl⟩:∃ k,n=k+1:=⟨n-1,by omega⟩
 have hst:=run_storeCells_cells (P:=Tryz.prog) g (m*2) (Builtin.zeroCells #[Value.int .i64 0,Value.int .i64 0] (k+1)).toList 0 w
  (fun j hj=>h.is (by rw[zeroPt_len] at hj;omega)) (fun j hj=>h.frozen _) (zeroPt (k+1))
 simp only[Nat.add_zero] at hst
 obtain⟨i0,hi,hz0,hz1,hz2⟩:=info_parts infoPt
 unfold Builtin.clear_
 simp[go_sem,Tryz.underlying23]
 rw[hst];rfl
def CmpInv(l:List Pt2)(f:Nat→Pt2)(j kk:Nat):Prop :=
 kk=(cmpL (l.take j)).length∧kk<j∧(∀ i,i<kk→f i=pAt (cmpL (l.take j)) i)∧∀ i,j≤i+1→f i=pAt l i
theorem CmpInv.same{l:List Pt2}{f:Nat→Pt2}{j kk:Nat}(h:CmpInv l f j kk)(hj:j<l.length)(h1:1≤j)(e:pAt l j=pAt l (j-1)):CmpInv l f (j+1) kk:=by
 obtain⟨a,b,c,d⟩:=h
 obtain⟨j,rfl⟩:∃ i,j=i+1:=⟨j-1,by omega⟩
 have:=cmpL_same hj e
 exact⟨by rw[this];exact a,by omega,by rw[this];exact c,fun i hi=>d i (by omega)⟩
theorem CmpInv.new{l:List Pt2}{f:Nat→Pt2}{j kk:Nat}(h:CmpInv l f j kk)(hj:j<l.length)(h1:1≤j)(e:¬ pAt l j=pAt l (j-1)):CmpInv l (fun i=>if i=kk then pAt l j else f i) (j+1) (kk+1):=by
 obtain⟨a,b,c,d⟩:=h
 obtain⟨j,rfl⟩:∃ i,j=i+1:=⟨j-1,by omega⟩
 have:=cmpL_new hj e
 refine⟨by rw[this,List.length_append,← a];rfl,by omega,fun i hi=>?_,fun i hi=>?_⟩
 ·rw[this]
  dsimp only
  by_cases g:i=kk
  ·rw[if_pos g,g,a,pAt_app_at]
  ·rw[if_neg g,c i (by omega),pAt_app_lt (by omega)]
 ·dsimp only;rw[if_neg (by omega)];exact d i (by omega)
theorem CmpInv.start{l:List Pt2}{k:Nat}(hk:k+1<l.length)(hall:∀ i,1≤i→i<k+1→pAt l i≠pAt l (i-1))(e:pAt l (k+1)=pAt l k):CmpInv l (pAt l) (k+1+1) (k+1):=by
 have key:∀ j,j<k+1→cmpL (l.take (j+1))=l.take (j+1):=by
  intro j
  induction j with
  | zero=>intro _;rw[cmpL_take (by omega)];simp[cmpL,snocC,pAt,List.take_one,List.getD];cases l <;> simp_all
  | succ j ih =>
   intro hj
   rw[cmpL_new (by omega) (by have:=hall (j+1) (by omega) hj;simpa using this),ih (by omega),List.take_succ_eq_append_getElem (show j+1<l.length by omega)]
   simp[pAt,List.getD,show j+1<l.length by omega]
 have h2:=cmpL_same hk e
 rw[key k (by omega)] at h2
 refine⟨by rw[h2];simp;omega,by omega,fun i hi=>?_,fun i hi=>rfl⟩
 rw[h2,pAt_take hi]
theorem cmpL_id{l:List Pt2}(hall:∀ i,1≤i→i<l.length→pAt l i≠pAt l (i-1)):cmpL l=l:=by
 rcases hl:l.length with _ | n
 ·rw[List.length_eq_zero_iff.1 hl];rfl
 ·have key:∀ j,j<l.length→cmpL (l.take (j+1))=l.take (j+1):=by
   intro j
   induction j with
   | zero=>intro _;rw[cmpL_take (by omega)];simp[cmpL,snocC,pAt,List.take_one,List.getD];cases l <;> simp_all
   | succ j ih =>
    intro hj
    rw[cmpL_new (by omega) (by have:=hall (j+1) (by omega) hj;simpa using this),ih (by omega),List.take_succ_eq_append_getElem (show j+1<l.length by omega)]
    simp[pAt,List.getD,show j+1<l.length by omega]
  have:=key n (by omega)
  rwa[List.take_of_length_le (by omega)] at this
set_option maxRecDepth 100000 in
set_option maxHeartbeats 4000000 in
theorem Compact_any (g c N:Nat) (l:List Pt2) (w:World) (hl:l.length≤1000000000000) (hc:l.length≤c) (hr:RowP w g l.length N (pAt l)) :
  Calls Tryz.prog 87 #[.slice (some ⟨g,0,none⟩) l.length c] w fun e w' => e=.returned (.slice (some ⟨g,0,none⟩) (cmpL l).length c)∧RowP w' g (cmpL l).length N (pAt (cmpL l))∧Only g w w' := by
 have HR:=Lib.hid hr
 clear hr
 by_cases h2:l.length<2
 ·have HC:Hid (cmpL l=l):=by
   show _=_
   exact cmpL_id fun i h1 h2=>by omega
  have hz:decide ((l.length:Int)<2)=true:=by rw[decide_eq_true_eq];omega
  go_enter Tryz.func87,Tryz.ntmps87
  go_wp2
  go_ret
  rw[HC.out]
  exact⟨rfl,HR.out,(Since.rfl_ w).only g⟩
 ·have hz : decide ((l.length:Int)<2)=false:=by rw[decide_eq_false_iff_not];omega
  go_enter Tryz.func87,Tryz.ntmps87
  go_wp2_with fail
  go_loopw [3] (fun v wr=>∃ k:Nat,1≤k∧k≤l.length∧v=.int .i64 k∧Hid (∀ i,1≤i→i<k→pAt l i≠pAt l (i-1))∧Hid (Since w wr)) (fun v _=>l.length-(intOf v).toNat)
  case atStart=>exact⟨1,by omega,by omega,rfl,fun i h1 h2=>by omega,Since.rfl_ w⟩
  case round =>
   obtain⟨k,hk1,hk,rfl,HA,HS⟩:=hrel
   rcases Nat.lt_or_ge k l.length with hlt | hge
   ·obtain⟨m,hkm⟩:∃ m,k=m+1:=⟨k-1,by omega⟩
    have HK:=Lib.hid hkm
    have HRr:=Lib.hid (HR.out.since HS.out)
    have iw:IntKind.i64.wrap ((k:Int)-1)=(m:Int):=by
     rw[i64wc,show(k:Int)-1=m by omega]
     exact wrap_id (by omega)
    have i1:(0:Int)≤(m:Int):=Int.natCast_nonneg m
    have i2:(m:Int)<(l.length:Int):=by omega
    have i3:(k:Int)<(l.length:Int):=by omega
    have i4:(0:Int)≤(k:Int):=by omega
    have i5:m<l.length:=by omega
    obtain⟨c0,c1⟩:=HRr.out.cells hlt
    obtain⟨d0,d1⟩:=HRr.out.cells i5
    clear hkm
    go_upto_region 6 with fail
    refine region_cls (fun w' => w'.cell? ⟨g,k*2,none⟩=some (.int .i64 (pAt l k).1)∧w'.cell? ⟨g,k*2+1,none⟩=some (.int .i64 (pAt l k).2)∧w'.cell? ⟨g,m*2,none⟩=some (.int .i64 (pAt l m).1)∧w'.cell? ⟨g,m*2+1,none⟩=some (.int .i64 (pAt l m).2)∧Since wr w') (by kernel_rfl) (by kernel_rfl) (by(repeat' refine And.intro ?_ ?_) <;> first | (simp (maxDischargeDepth:=9) [c0,c1,d0,d1,  cSetS,cSetO,cellNew,World.cell?_alloc_some,cellDrew];done) | (repeat (first | with_reducible assumption | with_reducible exact Since.rfl_ _ | refine Since.setCell ?_ (by(try dsimp only);omega) _ | refine Since.alloc ?_ _ | refine Since.drew ?_))) ?_
    repeat (go_big_quiet_step ((first | (intro hC;have hC:=hC.out;(try simp only[hC,Result.andThen]);first | exact⟨True.intro,rfl⟩ | exact⟨rfl,rfl⟩ | rfl))))
    refine cls_end ?_
    clear c0 c1 d0 d1
    rintro w1 ⟨-,-,-,-,hs⟩
    have HS1:=Lib.hid (HS.out.trans hs)
    have HR1:=Lib.hid (HRr.out.since hs)
    clear hs HRr HS
    by_cases hb:pAt l k=pAt l m
    ·have hx:((pAt l k).1 == (pAt l m).1 && (pAt l k).2 == (pAt l m).2)=true:=by rw[hb];simp
     have HI:Hid (CmpInv l (pAt l) (k+1) k):=by
      show CmpInv _ _ _ _
      have h1:=HK.out
      subst h1
      exact CmpInv.start hlt HA.out hb
     have HX:Hid (¬ (((pAt l k).fst == (pAt l m).fst)=false∨((pAt l k).snd == (pAt l m).snd)=false)):=by show ¬ _;rw[hb];simp
     clear hb HA hx
     have kc:k<c:=by omega
     have e1:(k:Int)≤(c:Int):=by omega
     have e2:¬ c=k:=by omega
     go_wp2_with fail
     all_goals (first | (refine absurd ?_ HX.out;assumption;done) | skip)
     clear i1 i2 i3 i4 i5 iw
     have h1w:=HR1.out.lt
     go_loopw [3,5] (fun v3 v5 wr=>∃ (kk k2:Nat) (f:Nat→Pt2),v3=.int .i64 kk∧v5=.int .i64 k2∧1≤k2∧k+k2≤l.length∧Hid (CmpInv l f (k+k2) kk)∧Hid (RowP wr g l.length N f)∧Hid (Only g w wr)) (fun _ v _=>l.length-k-(intOf v).toNat)
     case atStart=>exact⟨k,1,pAt l,by go_num,by go_num,by omega,by omega,HI,HR1,HS1.out.only g⟩
     case round =>
      clear HR1 HS1 HI
      obtain⟨kk,k2,f,rfl,rfl,g1,g2,HI,HR2,HO⟩:=hrel
      have hkk:=HI.out.2.1
      rcases Nat.lt_or_ge (k+k2) l.length with hlt2 | hge2
      ·obtain⟨m2,hkm2⟩:∃ m2,k2=m2+1:=⟨k2-1,by omega⟩
       have HK2:=Lib.hid hkm2
       have jw:IntKind.i64.wrap ((k2:Int)-1)=(m2:Int):=by
        rw[i64wc,show(k2:Int)-1=m2 by omega]
        exact wrap_id (by omega)
       have j1:(0:Int)≤(m2:Int):=Int.natCast_nonneg m2
       have j2:(m2:Int)<((l.length-k:Nat):Int):=by omega
       have j3:(k2:Int)<((l.length-k:Nat):Int):=by omega
       have j4:(0:Int)≤(k2:Int):=by omega
       have j5:m2<l.length-k:=by omega
       have j6:k2<l.length-k:=by omega
       have j7:(kk:Int)<(l.length:Int):=by omega
       have j8:(0:Int)≤(kk:Int):=by omega
       have j9:kk<l.length:=by omega
       obtain⟨c0,c1⟩:=HR2.out.cells hlt2
       obtain⟨d0,d1⟩:=HR2.out.cells (i:=k+m2) (by omega)
       rw[HI.out.2.2.2 _ (by omega),Nat.add_mul] at c0 c1 d0 d1
       clear hkm2
       have j10:decide (k2<l.length-k)=true:=by rw[decide_eq_true_eq];omega
       by_cases hb:pAt l (k+k2)=pAt l (k+m2)
       ·have HI2:Hid (CmpInv l f (k+k2+1) kk):=HI.out.same hlt2 (by omega) (by rw[hb,show k+k2-1=k+m2 by have:=HK2.out;omega])
        have hx:((pAt l (k+k2)).1 == (pAt l (k+m2)).1)=true:=by rw[hb];simp
        have hy:((pAt l (k+k2)).2 == (pAt l (k+m2)).2)=true:=by rw[hb];simp
        clear hb HI
        go_upto_region 11 with fail
        refine region_cls (fun w' => w'.cell? ⟨g,k*2+k2*2,none⟩=some (.int .i64 (pAt l (k+k2)).1)∧w'.cell? ⟨g,k*2+k2*2+1,none⟩=some (.int .i64 (pAt l (k+k2)).2)∧w'.cell? ⟨g,k*2+m2*2,none⟩=some (.int .i64 (pAt l (k+m2)).1)∧w'.cell? ⟨g,k*2+m2*2+1,none⟩=some (.int .i64 (pAt l (k+m2)).2)∧Since wr w') (by kernel_rfl) (by kernel_rfl) (by(repeat' refine And.intro ?_ ?_) <;> first | (simp (maxDischargeDepth:=9) [c0,c1,d0,d1,  cSetS,cSetO,cellNew,World.cell?_alloc_some,cellDrew];done) | (repeat (first | with_reducible assumption | with_reducible exact Since.rfl_ _ | refine Since.setCell ?_ (by(try dsimp only);omega) _ | refine Since.alloc ?_ _ | refine Since.drew ?_))) ?_
        repeat (go_big_quiet_step ((first | (intro hC;have hC:=hC.out;(try simp only[hC,Result.andThen]);first | exact⟨True.intro,rfl⟩ | exact⟨rfl,rfl⟩ | rfl))))
        refine cls_end ?_
        clear d0 d1 c0 c1
        rintro w2 ⟨c0,c1,-,-,hs⟩
        have HO2:=Lib.hid (HO.out.trans (hs.only g))
        have HR3:=Lib.hid (HR2.out.since hs)
        clear hs HR2 HO hx
        go_wp2_with fail
        go_roundw
        case rel=>exact⟨kk,k2+1,f,rfl,by go_num,by omega,by omega,HI2,HR3,HO2⟩
        case measure=>simp[intOf];omega
       ·have HI2:Hid (CmpInv l (fun i=>if i=kk then pAt l (k+k2) else f i) (k+k2+1) (kk+1)):=HI.out.new hlt2 (by omega) (by rw[show k+k2-1=k+m2 by have:=HK2.out;omega];exact hb)
        have HB:=Lib.hid hb
        clear hb HI
        cases hx:((pAt l (k+k2)).1 == (pAt l (k+m2)).1)
        ·go_upto_region 11 with fail
         refine region_cls (fun w' => w'.cell? ⟨g,k*2+k2*2,none⟩=some (.int .i64 (pAt l (k+k2)).1)∧w'.cell? ⟨g,k*2+k2*2+1,none⟩=some (.int .i64 (pAt l (k+k2)).2)∧w'.cell? ⟨g,k*2+m2*2,none⟩=some (.int .i64 (pAt l (k+m2)).1)∧w'.cell? ⟨g,k*2+m2*2+1,none⟩=some (.int .i64 (pAt l (k+m2)).2)∧Since wr w') (by kernel_rfl) (by kernel_rfl) (by(repeat' refine And.intro ?_ ?_) <;> first | (simp (maxDischargeDepth:=9) [c0,c1,d0,d1,  cSetS,cSetO,cellNew,World.cell?_alloc_some,cellDrew];done) | (repeat (first | with_reducible assumption | with_reducible exact Since.rfl_ _ | refine Since.setCell ?_ (by(try dsimp only);omega) _ | refine Since.alloc ?_ _ | refine Since.drew ?_))) ?_
         repeat (go_big_quiet_step ((first | (intro hC;have hC:=hC.out;(try simp only[hC,Result.andThen]);first | exact⟨True.intro,rfl⟩ | exact⟨rfl,rfl⟩ | rfl))))
         refine cls_end ?_
         clear d0 d1 c0 c1
         rintro w2 ⟨c0,c1,-,-,hs⟩
         have HO2:=Lib.hid (HO.out.trans (hs.only g))
         have HR3:=Lib.hid (HR2.out.since hs)
         clear hs HR2 HO hx
         have HR4:=Lib.hid (HR3.out.set j9 (pAt l (k+k2)))
         have HO4:=Lib.hid ((HO2.out.setCell (p:=⟨g,kk*2,none⟩) (.inl rfl) (.int .i64 (pAt l (k+k2)).1)).setCell (p:=⟨g,kk*2+1,none⟩) (.inl rfl) (.int .i64 (pAt l (k+k2)).2))
         obtain⟨q0,q1⟩:=HR3.out.cells j9
         have f0:=HR3.out.frozen (kk*2)
         have f1:=HR3.out.frozen (kk*2+1)
         go_wp2_with fail
         go_roundw
         case rel=>exact⟨kk+1,k2+1,_,by go_num,by go_num,by omega,by omega,HI2,HR4,HO4⟩
         case measure=>simp[intOf];omega
        ·cases hy:((pAt l (k+k2)).2 == (pAt l (k+m2)).2)
         ·go_upto_region 11 with fail
          refine region_cls (fun w' => w'.cell? ⟨g,k*2+k2*2,none⟩=some (.int .i64 (pAt l (k+k2)).1)∧w'.cell? ⟨g,k*2+k2*2+1,none⟩=some (.int .i64 (pAt l (k+k2)).2)∧w'.cell? ⟨g,k*2+m2*2,none⟩=some (.int .i64 (pAt l (k+m2)).1)∧w'.cell? ⟨g,k*2+m2*2+1,none⟩=some (.int .i64 (pAt l (k+m2)).2)∧Since wr w') (by kernel_rfl) (by kernel_rfl) (by(repeat' refine And.intro ?_ ?_) <;> first | (simp (maxDischargeDepth:=9) [c0,c1,d0,d1,  cSetS,cSetO,cellNew,World.cell?_alloc_some,cellDrew];done) | (repeat (first | with_reducible assumption | with_reducible exact Since.rfl_ _ | refine Since.setCell ?_ (by(try dsimp only);omega) _ | refine Since.alloc ?_ _ | refine Since.drew ?_))) ?_
          repeat (go_big_quiet_step ((first | (intro hC;have hC:=hC.out;(try simp only[hC,Result.andThen]);first | exact⟨True.intro,rfl⟩ | exact⟨rfl,rfl⟩ | rfl))))
          refine cls_end ?_
          clear d0 d1 c0 c1
          rintro w2 ⟨c0,c1,-,-,hs⟩
          have HO2:=Lib.hid (HO.out.trans (hs.only g))
          have HR3:=Lib.hid (HR2.out.since hs)
          clear hs HR2 HO hx
          have HR4:=Lib.hid (HR3.out.set j9 (pAt l (k+k2)))
          have HO4:=Lib.hid ((HO2.out.setCell (p:=⟨g,kk*2,none⟩) (.inl rfl) (.int .i64 (pAt l (k+k2)).1)).setCell (p:=⟨g,kk*2+1,none⟩) (.inl rfl) (.int .i64 (pAt l (k+k2)).2))
          obtain⟨q0,q1⟩:=HR3.out.cells j9
          have f0:=HR3.out.frozen (kk*2)
          have f1:=HR3.out.frozen (kk*2+1)
          go_wp2_with fail
          go_roundw
          case rel=>exact⟨kk+1,k2+1,_,by go_num,by go_num,by omega,by omega,HI2,HR4,HO4⟩
          case measure=>simp[intOf];omega
         ·exact absurd (Prod.ext (beq_iff_eq.1 hx) (beq_iff_eq.1 hy)) HB.out
      ·obtain⟨ke,hke⟩:∃ ke,Hid (ke=l.length-k):=⟨_,rfl⟩
       have h3:k+k2=l.length:=by omega
       have HI3:=HI.out
       rw[h3,CmpInv,List.take_length] at HI3
       obtain⟨a1,a2,a3,a4⟩:=HI3
       have HN:=Lib.hid a1
       have HRm:=Lib.hid (HR2.out.sub (m:=kk) (f' := pAt (cmpL l)) (by omega) (fun i hi=>(a3 i hi).symm))
       have hN:2*l.length≤N:=by obtain⟨cs,-,-,h,-⟩:=HR2.out;exact h
       have hcl:=fun ty=>clear_pt wr g kk (l.length-kk) (c-kk) N _ ty HRm.out (by omega) (by omega)
       have HRe:=Lib.hid (RowP.highs (Builtin.zeroCells #[Value.int .i64 0,Value.int .i64 0] (l.length-kk)).toList (kk*2) wr HRm.out (by omega))
       have HOe:=Lib.hid (only_cells (Builtin.zeroCells #[Value.int .i64 0,Value.int .i64 0] (l.length-kk)).toList (kk*2) wr HO.out)
       generalize (Builtin.zeroCells #[Value.int .i64 0,Value.int .i64 0] (l.length-kk)).toList=zs at *
       clear a1 a3 a4 HI HR2 HO HRm
       have b1:(kk:Int)≤(l.length:Int):=by omega
       have b2:(kk:Int)≤(c:Int):=by omega
       have b3:¬ c=kk:=by omega
       have b4:(0:Int)≤(kk:Int):=by omega
       have b5:kk<c:=by omega
       have b6:decide (k2<l.length-k)=false:=by rw[decide_eq_false_iff_not];omega
       go_wp2
       go_ret
       rw[← HN.out]
       exact⟨rfl,HRe.out,HOe.out⟩
    ·have HB:Hid (∀ i,1≤i→i<k+1→pAt l i≠pAt l (i-1)):=fun i h1 h2=>by
      rcases Nat.lt_succ_iff_lt_or_eq.1 h2 with h | h
      ·exact HA.out i h1 h
      ·rw[h,show k-1=m by have:=HK.out;omega];exact hb
     have HX:Hid (¬ (((pAt l k).fst == (pAt l m).fst)=true∧((pAt l k).snd == (pAt l m).snd)=true)):=fun h=>hb (Prod.ext (beq_iff_eq.1 h.1) (beq_iff_eq.1 h.2))
     clear hb HA
     go_wp2_with fail
     all_goals (first | (refine absurd ?_ HX.out;assumption;done) | skip)
     go_roundw
     case rel=>exact⟨k+1,by omega,by omega,by go_num,HB,HS1⟩
     case measure=>simp[intOf];omega
   ·have HC:Hid (cmpL l=l):=by
     show _=_
     exact cmpL_id fun i h1 h2=>HA.out i h1 (by omega)
    have hz3:decide ((k:Int)<(l.length:Int))=false:=by rw[decide_eq_false_iff_not];omega
    clear HA
    go_wp2
    go_ret
    rw[HC.out]
    exact⟨rfl,HR.out.since HS.out,HS.out.only g⟩
end
section
open Go.RowKit Go.BigFrame
attribute [local go_sem ↓] eqPt neqPt
end
end Go.Proofs.YtdnccjdlmepafaaGreat
