/-
  The walk of seg.along; The walk of seg.At; Slices of segments; the walk of hot.check. Conditions: those that each lemma names.
-/
import Derived.Test.YtdnccjdlmepafaaGreatK09
import Derived.Test.YtdnccjdlmepafaaGreatK07
import Derived.Test.YtdnccjdlmepafaaGreatK04
import Derived.Test.YtdnccjdlmepafaaGreatK05
import Derived.Test.YtdnccjdlmepafaaGreatK02
set_option linter.unusedSimpArgs false
set_option linter.unusedVariables false
set_option linter.constructorNameAsVariable false
namespace Go.Proofs.YtdnccjdlmepafaaGreat
section
open Go.RowKit Go.BigFrame
theorem rndF_inv{n d n' d' : Int}(hd:0<d)(hd' : 0<d')(h:n*d' = n' * d):rndF n d=rndF n' d' := by
 unfold rndF
 rw[← Int.mul_ediv_mul_of_pos_left (2*n+d) (2*d) hd',← Int.mul_ediv_mul_of_pos_left (2*n' + d') (2*d') hd]
 congr 1 <;> grind
set_option maxRecDepth 100000 in
set_option maxHeartbeats 2000000 in
theorem along_s(fr way num den:Int)(h0 : -1048576≤fr∧fr≤1048576)(h1 : -2097152≤way∧way≤2097152)(h2:0≤num∧num<den)(hd:den≤8796093022208)(hb : -(1048576*den)≤fr*den+way*num∧fr*den+way*num≤1048576*den) :
  ∃ s d,FracOk s d∧s*den=(fr*den+way*num)*d∧∀ w,Calls Tryz.prog 121 #[.int .i64 fr,.int .i64 way,.int .i64 num,.int .i64 den] w fun e w' => e=.returned (.agg #[.int .i64 s,.int .i64 d])∧Since w w' := by
 obtain⟨g,p,d,s,HM⟩:=along_math ⟨by omega,hd⟩ hb
 refine⟨s,d,(by have:=sumOk HM.ok (by have:=HM.sb;rw[HM.hs] at this;exact this);rw[← HM.hs] at this;exact this),HM.val,fun w=>?_⟩
 have HMM:=Lib.hid HM
 have hz:(way*num).natAbs≤2097152*8796093022207:=mul_bd (by omega) (by omega)
 have hq0:(way*num/den).natAbs≤(way*num).natAbs:=Int.natAbs_ediv_le_natAbs _ _
 have hr0:=Int.emod_nonneg (way*num) (show den≠0 by omega)
 have hr1:=Int.emod_lt_of_pos (way*num) (show 0<den by omega)
 have H1:=Lib.hid (fun w=>Mul_w way num (by omega) (by omega) (by omega) w)
 have H2:=Lib.hid (fun w=>Div_w (way*num) den (by omega) (by omega) w)
 have hm:=HM.hm
 obtain⟨z,HZ⟩:∃ z,Hid (z=way*num):=⟨_,rfl⟩
 obtain⟨q,HQ⟩:∃ q,Hid (q=way*num/den):=⟨_,rfl⟩
 obtain⟨r,HR⟩:∃ r,Hid (r=way*num % den):=⟨_,rfl⟩
 rw[← HQ.out] at hm
 rw[← HR.out] at hr0 hr1
 have hqb : -9223372036854775808≤q∧q≤9223372036854775807:=by omega
 have H3:=Lib.hid (fun w=>Short_w q hqb w)
 have H4:=Lib.hid (fun w=>Make_f r den g (by omega) (by omega) (by rw[HR.out];exact HM.hg) w)
 have H5:Hid (∀ w,Calls Tryz.prog 149 #[.int .i64 (fr+q)] w fun e w' => e=.returned (.agg #[.int .i64 (fr+q),.int .i64 1])∧Since w w'):=fun w=>Of_f (fr+q) (by omega) w
 have H6:=Lib.hid (fun w=>Add_f (fr+q) p d HM.ok (by omega) HM.pd HM.dl (by have:=HM.sb;rw[HM.hs,← HQ.out] at this;exact this) w)
 have es:(fr+q)*d+p=s:=by rw[HM.hs,HQ.out]
 rw[es] at H6
 have e4:r/g=p:=by rw[HR.out,HM.hp]
 have e5:den/g=d:=HM.hd.symm
 rw[e4,e5] at H4
 rw[← HQ.out,← HR.out,← HZ.out] at H2
 rw[← HZ.out] at H1
 unfold wideV at H1 H2 H3
 unfold fracV at H4
 obtain⟨zh,HZH⟩:∃ a,Hid (a=wHi z):=⟨_,rfl⟩
 obtain⟨zl,HZL⟩:∃ a,Hid (a=wLo z):=⟨_,rfl⟩
 obtain⟨qh,HQH⟩:∃ a,Hid (a=wHi q):=⟨_,rfl⟩
 obtain⟨ql,HQL⟩:∃ a,Hid (a=wLo q):=⟨_,rfl⟩
 rw[← HZH.out,← HZL.out] at H1 H2
 rw[← HQH.out,← HQL.out] at H2 H3
 have hsb:=HM.sb
 clear es e4 e5 hz hq0 HM hb h1
 go_enter Tryz.func121,Tryz.ntmps121
 go_upto_region 1 with fail
 obtain⟨G,HG⟩:∃ G,G=w.heap.size:=⟨_,rfl⟩
 rw[← HG]
 refine atW (fun w' => Since w w' ∧ Blk w' G 122 #[.int .i64 0,.int .i64 0]) ⟨(Since.rfl_ w).alloc _,Blk.new' HG⟩ ?_
 rintro w1 ⟨hs,bg⟩
 have HGG:=Lib.hid HG
 have HW1:=Lib.hid (And.intro hs bg)
 clear HG hs bg
 go_wp2_with fail
 refine(H1.out _).mono ?_
 rintro e w2 ⟨rfl,hs⟩
 have HW2:=Lib.hid (And.intro (HW1.out.1.trans hs) (hs.blk HW1.out.2))
 clear hs HW1
 go_wp2_with fail
 refine(H2.out _).mono ?_
 rintro e w3 ⟨rfl,hs⟩
 have HW3:=Lib.hid (And.intro (HW2.out.1.trans hs) (hs.blk HW2.out.2))
 clear hs HW2
 go_upto_region 2 with fail
 obtain⟨G9,HG9⟩:∃ G9,G9=w3.heap.size:=⟨_,rfl⟩
 rw[← HG9]
 refine atW (fun w' => (Since w w' ∧ Blk w' G 122 #[.int .i64 0,.int .i64 0])∧Blk w' G9 177 #[.int .i64 qh,.int .u64 ql]) ⟨⟨HW3.out.1.alloc _,HW3.out.2.alloc _⟩,Blk.new' HG9⟩ ?_
 clear HG9 HW3
 rintro w4 ⟨hw,hb⟩
 have z0:w4.cell? ⟨G9,0,none⟩=some (.int .i64 qh):=hb.cell 0
 have z1:w4.cell? ⟨G9,1,none⟩=some (.int .u64 ql):=hb.cell 1
 have HW4:=Lib.hid hw
 clear hw hb
 go_wp2_with fail
 refine(H3.out _).mono ?_
 rintro e w5 ⟨rfl,hs⟩
 have HW5:=Lib.hid (And.intro (HW4.out.1.trans hs) (hs.blk HW4.out.2))
 clear hs HW4 z0 z1
 go_wp2_with fail
 refine(H4.out _).mono ?_
 rintro e w6 ⟨rfl,hs⟩
 have HW6:=Lib.hid (And.intro (HW5.out.1.trans hs) (hs.blk HW5.out.2))
 clear hs HW5
 go_upto_region 4 with fail
 obtain⟨GE,HGE⟩:∃ GE,GE=w6.heap.size:=⟨_,rfl⟩
 rw[← HGE]
 refine atW (fun w' => (Since w w' ∧ Blk w' G 122 #[.int .i64 0,.int .i64 0])∧Blk w' GE 122 #[.int .i64 p,.int .i64 d]) ⟨⟨HW6.out.1.alloc _,HW6.out.2.alloc _⟩,Blk.new' HGE⟩ ?_
 clear HGE HW6
 rintro w7 ⟨hw,hb⟩
 have KF:=Lib.hid (fun w' (h:Since w7 w')=>(show w'.cell? ⟨GE,0,none⟩=some (.int .i64 p)∧w'.cell? ⟨GE,1,none⟩=some (.int .i64 d) from⟨(h.blk hb).cell 0,(h.blk hb).cell 1⟩))
 have HW7:=Lib.hid hw
 clear hw hb
 apply region_factsF 12 (fun w' => Since w7 w')
 case hm=>kernel_rfl
 case hB=>kernel_rfl
 case hS=>exact(Since.rfl_ w7).drew
 case hmono=>exact(fun w1 w2 h k=>Below.trans h k)
 case h =>
 simp only[List.take_succ_cons,List.take_zero,List.drop_succ_cons,List.drop_zero]
 iterate 3 (apply wpO_detF;(case hw=>rfl);(case h=>intro hFm wx hS_ hF_ hbx K hK;go_big_quiet_op;first | exact hK _ rfl | (apply Exists.intro;refine⟨fun _=>?_,?_⟩;(focus (first | (intro hC;have hC:=KF.out _ hC.out.1;(try simp only[hC,Result.andThen]);first | exact⟨True.intro,rfl⟩ | exact⟨rfl,rfl⟩ | rfl)));exact hK _ rfl));(case' k=>simp only[Act.put,List.setIfInBounds_toArray,List.set_cons_succ,List.set_cons_zero,List.cons_append,List.nil_append]))
 (apply wpO_detF;(case hw=>rfl);(case h=>intro hFm wx hS_ hF_ hbx K hK;go_big_quiet_op;first | exact hK _ rfl | (apply Exists.intro;refine⟨fun _=>?_,?_⟩;(focus (first | (intro hC;go_at_call 149;refine(H5.out _).mono ?_;rintro e w' ⟨rfl,hb⟩;refine⟨rfl,?_⟩;exact cls_callF (fun w1 w2 h k=>Below.trans h k) hFm hbx hC hb)));exact hK _ rfl));(case' k=>simp only[Act.put,List.setIfInBounds_toArray,List.set_cons_succ,List.set_cons_zero,List.cons_append,List.nil_append]))
 (apply wpO_detF;(case hw=>rfl);(case h=>intro hFm wx hS_ hF_ hbx K hK;go_big_quiet_op;first | exact hK _ rfl | (apply Exists.intro;refine⟨fun _=>?_,?_⟩;(focus (first | (intro hC;have hC:=KF.out _ hC.out.1;(try simp only[hC,Result.andThen]);first | exact⟨True.intro,rfl⟩ | exact⟨rfl,rfl⟩ | rfl)));exact hK _ rfl));(case' k=>simp only[Act.put,List.setIfInBounds_toArray,List.set_cons_succ,List.set_cons_zero,List.cons_append,List.nil_append]))
 (apply wpO_detF;(case hw=>rfl);(case h=>intro hFm wx hS_ hF_ hbx K hK;go_big_quiet_op;first | exact hK _ rfl | (apply Exists.intro;refine⟨fun _=>?_,?_⟩;(focus (first | (intro hC;go_at_call 154;refine(H6.out _).mono ?_;rintro e w' ⟨rfl,hb⟩;refine⟨rfl,?_⟩;exact cls_callF (fun w1 w2 h k=>Below.trans h k) hFm hbx hC hb)));exact hK _ rfl));(case' k=>simp only[Act.put,List.setIfInBounds_toArray,List.set_cons_succ,List.set_cons_zero,List.cons_append,List.nil_append]))
 iterate 3 (apply wpO_detF;(case hw=>rfl);(case h=>intro hFm wx hS_ hF_ hbx K hK;go_big_quiet_op;first | exact hK _ rfl | (apply Exists.intro;refine⟨fun _=>?_,?_⟩;(focus (first | (intro hC;have hC:=KF.out _ hC.out.1;(try simp only[hC,Result.andThen]);first | exact⟨True.intro,rfl⟩ | exact⟨rfl,rfl⟩ | rfl)));exact hK _ rfl));(case' k=>simp only[Act.put,List.setIfInBounds_toArray,List.set_cons_succ,List.set_cons_zero,List.cons_append,List.nil_append]))
 apply wpO_mkfF (f:=fun g=>.pointer (some ⟨g,0,none⟩)) (t:=122) (cs := #[.int .i64 0,.int .i64 0])
 case hi=>(intro g g' h;simpa using h)
 case hw=>rfl
 case h=>(intro w;simp[go_sem])
 case k =>
 intro gs
 simp only[Act.put,List.setIfInBounds_toArray,List.set_cons_succ,List.set_cons_zero,List.cons_append,List.nil_append]
 apply wpO_fillF (j:=9) (t:=122) (cs := #[.int .i64 s,.int .i64 d]) gs
 case hT=>rfl
 case hj=>decide
 case hw=>rfl
 case hd=>rfl
 case hp=>decide
 case h =>
  intro w' hS_ hF_
  obtain⟨⟨cs',hcs,hb⟩,hg⟩:=factsOf_at (j:=9) (by decide) hF_
  obtain⟨x,y,rfl⟩:=two_of_size hcs
  refine⟨_,_,hg,hb,rfl,?_,(fill2 (.int .i64 s) (.int .i64 d) hb).1,(fill2 (.int .i64 s) (.int .i64 d) hb).2⟩
  have c0:=hb.cell 0
  have c1:=hb.cell 1
  have f0:=hb.frozen 0
  have f1:=hb.frozen 1
  simp only[List.getElem?_toArray,List.getElem?_cons_zero,List.getElem?_cons_succ] at c0 c1
  simp[go_sem,c0,c1,f0,f1,cSetS,cSetO]
 case k =>
 simp only[Act.put,List.setIfInBounds_toArray,List.set_cons_succ,List.set_cons_zero,List.cons_append,List.nil_append]
 (apply wpO_detF;(case hw=>rfl);(case h=>intro hFm wx hS_ hF_ hbx K hK;go_big_quiet_op;first | exact hK _ rfl | (apply Exists.intro;refine⟨fun _=>?_,?_⟩;(focus (first | (intro hC;have hC:=hC.out;(try simp only[hC,Result.andThen]);first | exact⟨True.intro,rfl⟩ | exact⟨rfl,rfl⟩ | rfl)));exact hK _ rfl));(case' k=>simp only[Act.put,List.setIfInBounds_toArray,List.set_cons_succ,List.set_cons_zero,List.cons_append,List.nil_append]))
 refine wpO_nilF ?_
 intro w8 hS hF hB
 (try simp[allF] at hF)
 (try simp[List.pairwise_cons] at hB)
 have hg8:=hF.2.1
 have lg:=hF.2.2
 have z0:w8.cell? ⟨gs,0,none⟩=some (.int .i64 s):=hg8.cell 0
 have z1:w8.cell? ⟨gs,1,none⟩=some (.int .i64 d):=hg8.cell 1
 have HW8:=Lib.hid (And.intro (HW7.out.1.trans hS) (hS.blk HW7.out.2))
 have r0:w8.cell? ⟨G,0,none⟩=some (.int .i64 0):=HW8.out.2.cell 0
 have r1:w8.cell? ⟨G,1,none⟩=some (.int .i64 0):=HW8.out.2.cell 1
 have f0:=HW8.out.2.frozen 0
 have f1:=HW8.out.2.frozen 1
 clear hF hS hB KF HW7 hg8
 go_upto_region 5 with fail
 go_wp2_with fail
 refine bodyPost_ret (v:=.agg #[.int .i64 s,.int .i64 d]) (by simp[results,Tryz.results121,go_sem,cSetS,cSetO,cellDrew,r0,r1]) rfl ⟨rfl,?_⟩
 have hG:=HGG.out
 exact(HW8.out.1.setCell (by dsimp only;omega) _).setCell (by dsimp only;omega) _
end
section
open Go.RowKit Go.BigFrame
attribute [local go_sem ↓] eqPt neqPt
def atD(a b c d:Pt2):Int:=if crs c d a-crs c d b<0 then -(crs c d a-crs c d b) else crs c d a-crs c d b
def atN(a b c d:Pt2):Int:=if crs c d a-crs c d b<0 then -(crs c d a) else crs c d a
def snapV(a b c d:Pt2):Pt2 :=
 if (sharedL a b c d).length=1 then pAt (sharedL a b c d) 0 else(clampI (rndF (a.1*atD a b c d+(b.1-a.1)*atN a b c d) (atD a b c d)),clampI (rndF (a.2*atD a b c d+(b.2-a.2)*atN a b c d) (atD a b c d)))
theorem FracOk_one{x:Int}(h : -1048576≤x∧x≤1048576):FracOk x 1:=⟨by omega,by omega,by omega,by omega,by simp⟩
theorem rndF_one(x:Int):rndF x 1=x:=by unfold rndF;omega
theorem addS_mem'{L:List Pt2}{p q r x:Pt2}(h:x∈addS L p q r):x∈L∨(x=p∧onV q r p=true):=by
 unfold addS at h
 split at h
 ·rename_i hk
  rcases List.mem_append.1 h with h | h
  ·exact .inl h
  ·rw[List.mem_singleton] at h;exact .inr ⟨h,hk.1⟩
 ·exact .inl h
theorem sharedL_mem{a b c d x:Pt2}(h:x∈sharedL a b c d):(x=a∧onV c d a=true)∨(x=b∧onV c d b=true)∨(x=c∧onV a b c=true)∨(x=d∧onV a b d=true):=by
 unfold sharedL at h
 rcases addS_mem' h with h | h
 ·rcases addS_mem' h with h | h
  ·rcases addS_mem' h with h | h
   ·rcases addS_mem' h with h | h
    ·cases h
    ·exact .inl h
   ·exact .inr (.inl h)
  ·exact .inr (.inr (.inl h))
 ·exact .inr (.inr (.inr h))
theorem cmp_mul{x y:Int}(h:cmpI x 0*cmpI y 0<0):(x<0∧0<y)∨(0<x∧y<0):=by
 unfold cmpI at h
 repeat' split at h
 all_goals omega
structure AtM(a b c d:Pt2):Prop where
 n0:0≤atN a b c d
 nd:atN a b c d<atD a b c d
 dl:atD a b c d≤8796093022208
 bx : -(1048576*atD a b c d)≤a.1*atD a b c d+(b.1-a.1)*atN a b c d∧a.1*atD a b c d+(b.1-a.1)*atN a b c d≤1048576*atD a b c d
 by_ : -(1048576*atD a b c d)≤a.2*atD a b c d+(b.2-a.2)*atN a b c d∧a.2*atD a b c d+(b.2-a.2)*atN a b c d≤1048576*atD a b c d
theorem mid_bd{x y N D:Int}(hx : -1048576≤x∧x≤1048576)(hy : -1048576≤y∧y≤1048576)(h0:0≤N)(h1:N≤D) : -(1048576*D)≤x*D+(y-x)*N∧x*D+(y-x)*N≤1048576*D:=by
 have e:x*D+(y-x)*N=x*(D-N)+y*N:=by grind
 rw[e]
 have a1:=Int.mul_le_mul_of_nonneg_right hx.1 (show 0≤D-N by omega)
 have a2:=Int.mul_le_mul_of_nonneg_right hx.2 (show 0≤D-N by omega)
 have b1:=Int.mul_le_mul_of_nonneg_right hy.1 h0
 have b2:=Int.mul_le_mul_of_nonneg_right hy.2 h0
 omega
theorem crs_bd{a b c d:Pt2}(ha:okP a.1 a.2=true)(hb:okP b.1 b.2=true)(hc:okP c.1 c.2=true)(hd:okP d.1 d.2=true):(crs c d a-crs c d b).natAbs≤8796093022208:=by
 rw[okP_iff] at ha hb hc hd
 have m1:((d.1-c.1)*(a.2-b.2)).natAbs≤4398046511104:=Nat.le_trans (mul_bd (A:=2097152) (B:=2097152) (by omega) (by omega)) (by decide)
 have m2:((d.2-c.2)*(a.1-b.1)).natAbs≤4398046511104:=Nat.le_trans (mul_bd (A:=2097152) (B:=2097152) (by omega) (by omega)) (by decide)
 have e:crs c d a-crs c d b=(d.1-c.1)*(a.2-b.2)-(d.2-c.2)*(a.1-b.1):=by unfold crs crossV;grind
 rw[e];omega
theorem at_math{a b c d:Pt2}(ha:okP a.1 a.2=true)(hb:okP b.1 b.2=true)(hc:okP c.1 c.2=true)(hd:okP d.1 d.2=true)(hm:smeetV a b c d=1)(hl:(sharedL a b c d).length≠1):AtM a b c d:=by
 have hx:cmpI (crs c d a) 0*cmpI (crs c d b) 0<0:=by
  unfold smeetV at hm
  rw[turn_crs hc hd ha,turn_crs hc hd hb] at hm
  split at hm
  ·rename_i h;exact h.2
  ·omega
 have hd0:=crs_bd ha hb hc hd
 rw[okP_iff] at ha hb
 have key:0≤atN a b c d∧atN a b c d<atD a b c d∧atD a b c d≤8796093022208:=by
  unfold atN atD
  rcases cmp_mul hx with h | h
  ·rw[if_pos (by omega),if_pos (by omega)];omega
  ·rw[if_neg (by omega),if_neg (by omega)];omega
 exact⟨key.1,key.2.1,key.2.2,mid_bd ha.1 hb.1 key.1 (by omega),mid_bd ha.2 hb.2 key.1 (by omega)⟩
set_option maxRecDepth 100000 in
set_option maxHeartbeats 4000000 in
theorem At_any{a b c d:Pt2}(ha:okP a.1 a.2=true)(hb:okP b.1 b.2=true)(hc:okP c.1 c.2=true)(hd:okP d.1 d.2=true)(hm:smeetV a b c d=1)(w:World) :
  Calls Tryz.prog 100 #[.agg #[.int .i64 a.1,.int .i64 a.2],.agg #[.int .i64 b.1,.int .i64 b.2],.agg #[.int .i64 c.1,.int .i64 c.2],.agg #[.int .i64 d.1,.int .i64 d.2]] w fun e w' =>
   (∃ xn xd yn yd,e=.returned (.tuple #[.agg #[.int .i64 xn,.int .i64 xd,.int .i64 yn,.int .i64 yd],.int .i64 0])∧FracOk xn xd∧FracOk yn yd∧(clampI (rndF xn xd),clampI (rndF yn yd))=snapV a b c d)∧Since w w' := by
 have HMT:Hid (∀ w,Calls Tryz.prog 99 #[.agg #[.int .i64 a.1,.int .i64 a.2],.agg #[.int .i64 b.1,.int .i64 b.2],.agg #[.int .i64 c.1,.int .i64 c.2],.agg #[.int .i64 d.1,.int .i64 d.2]] w fun e w' => e=.returned (.int .i64 1)∧Since w w'):=fun w=>by
  have h:=SMeetG_any ha hb hc hd w
  rw[hm] at h;exact h
 have HSH:=Lib.hid (fun w=>shared_own a b c d w)
 have HAM:=Lib.hid (fun h=>at_math ha hb hc hd hm h)
 have HME:=Lib.hid (fun x => @sharedL_mem a b c d x)
 have HX1:Hid (∀ w,Calls Tryz.prog 74 #[.agg #[.int .i64 c.1,.int .i64 c.2],.agg #[.int .i64 d.1,.int .i64 d.2],.agg #[.int .i64 a.1,.int .i64 a.2]] w fun e w' => e=.returned (.int .i64 (crs c d a))∧Since w w'):=fun w=>by
  have h:=Cross_any c.1 c.2 d.1 d.2 a.1 a.2 w
  rw[(clamp_id ha).1,(clamp_id ha).2,(clamp_id hc).1,(clamp_id hc).2,(clamp_id hd).1,(clamp_id hd).2] at h;exact h
 have HX2:Hid (∀ w,Calls Tryz.prog 74 #[.agg #[.int .i64 c.1,.int .i64 c.2],.agg #[.int .i64 d.1,.int .i64 d.2],.agg #[.int .i64 b.1,.int .i64 b.2]] w fun e w' => e=.returned (.int .i64 (crs c d b))∧Since w w'):=fun w=>by
  have h:=Cross_any c.1 c.2 d.1 d.2 b.1 b.2 w
  rw[(clamp_id hb).1,(clamp_id hb).2,(clamp_id hc).1,(clamp_id hc).2,(clamp_id hd).1,(clamp_id hd).2] at h;exact h
 have HBD:=crs_bd ha hb hc hd
 have HOK:=Lib.hid (And.intro ha (And.intro hb (And.intro hc hd)))
 have hax:=okP_iff.1 ha
 have hbx:=okP_iff.1 hb
 obtain⟨n,HN⟩:∃ n,Hid (n=crs c d a):=⟨_,rfl⟩
 obtain⟨m,HM⟩:∃ m,Hid (m=crs c d b):=⟨_,rfl⟩
 have HSN1:Hid ((sharedL a b c d).length=1→snapV a b c d=pAt (sharedL a b c d) 0):=fun h=>by unfold snapV;rw[if_pos h]
 have HSN2:Hid ((sharedL a b c d).length≠1→snapV a b c d=(clampI (rndF (a.1*atD a b c d+(b.1-a.1)*atN a b c d) (atD a b c d)),clampI (rndF (a.2*atD a b c d+(b.2-a.2)*atN a b c d) (atD a b c d)))):=fun h=>by unfold snapV;rw[if_neg h]
 obtain⟨sv,HSV⟩:∃ sv,Hid (sv=snapV a b c d):=⟨_,rfl⟩
 rw[← HSV.out] at HSN1 HSN2 ⊢
 have ED:Hid (atD a b c d=if n-m<0 then -(n-m) else n-m):=by rw[HN.out,HM.out];rfl
 have EN:Hid (atN a b c d=if n-m<0 then -n else n):=by rw[HN.out,HM.out];rfl
 rw[← HN.out] at HX1
 rw[← HM.out] at HX2
 rw[← HN.out,← HM.out] at HBD
 have hw1:wrap64 (n-m)=n-m:=wrap_id (by omega)
 go_enter Tryz.func100,Tryz.ntmps100
 go_upto_region 1 with fail
 obtain⟨G,HG⟩:∃ G,G=w.heap.size:=⟨_,rfl⟩
 rw[← HG]
 refine atW (fun w' => Since w w' ∧ Blk w' G 36 #[.int .i64 a.1,.int .i64 a.2]∧Blk w' (G+1) 36 #[.int .i64 b.1,.int .i64 b.2]∧Blk w' (G+1+1) 36 #[.int .i64 c.1,.int .i64 c.2]∧Blk w' (G+1+1+1) 36 #[.int .i64 d.1,.int .i64 d.2]∧Blk w' (G+1+1+1+1) 124 #[.int .i64 0,.int .i64 0,.int .i64 0,.int .i64 0]) ⟨((((Since.rfl_ w).alloc _).alloc _).alloc _).alloc _ |>.alloc _,(((Blk.new' HG).alloc _).alloc _).alloc _ |>.alloc _,((Blk.new' (by simp[HG])).alloc _).alloc _ |>.alloc _,(Blk.new' (by simp[HG])).alloc _ |>.alloc _,(Blk.new' (by simp[HG])).alloc _,Blk.new' (by simp[HG])⟩ ?_
 rintro w1 ⟨hs,ba,bb,bc,bd,be⟩
 go_cut [] from 13 to 81 (fun w' => Since w w' ∧ Blk w' G 36 #[.int .i64 a.1,.int .i64 a.2]∧Blk w' (G+1) 36 #[.int .i64 b.1,.int .i64 b.2]∧Blk w' (G+1+1) 36 #[.int .i64 c.1,.int .i64 c.2]∧Blk w' (G+1+1+1) 36 #[.int .i64 d.1,.int .i64 d.2]∧Blk w' (G+1+1+1+1) 124 #[.int .i64 0,.int .i64 0,.int .i64 0,.int .i64 0])
 case first =>
   have hw1:=hs.size
   have HGG:=Lib.hid HG
   letI TT:Tgt:=⟨fun g=>if g=G then some (.cells #[.int .i64 a.1,.int .i64 a.2] 36) else if g=G+1 then some (.cells #[.int .i64 b.1,.int .i64 b.2] 36) else if g=G+1+1 then some (.cells #[.int .i64 c.1,.int .i64 c.2] 36) else if g=G+1+1+1 then some (.cells #[.int .i64 d.1,.int .i64 d.2] 36) else none⟩
   have KT:∀ g,g<G→Tgt.T g=none:=fun g h=>by
    show(if _ then _ else if _ then _ else if _ then _ else if _ then _ else _)=_
    rw[if_neg (by omega),if_neg (by omega),if_neg (by omega),if_neg (by omega)]
   have KU:∀ g,G+1+1+1<g→Tgt.T g=none:=fun g h=>by
    show(if _ then _ else if _ then _ else if _ then _ else if _ then _ else _)=_
    rw[if_neg (by omega),if_neg (by omega),if_neg (by omega),if_neg (by omega)]
   have K0:Tgt.T (G)=some (.cells #[.int .i64 a.1,.int .i64 a.2] 36 (0,0)):=if_pos rfl
   have K1:Tgt.T (G+1)=some (.cells #[.int .i64 b.1,.int .i64 b.2] 36 (0,0)):=(if_neg (by omega)).trans (if_pos rfl)
   have K2:Tgt.T (G+1+1)=some (.cells #[.int .i64 c.1,.int .i64 c.2] 36 (0,0)):=(if_neg (by omega)).trans ((if_neg (by omega)).trans (if_pos rfl))
   have K3:Tgt.T (G+1+1+1)=some (.cells #[.int .i64 d.1,.int .i64 d.2] 36 (0,0)):=(if_neg (by omega)).trans ((if_neg (by omega)).trans ((if_neg (by omega)).trans (if_pos rfl)))
   have KE:=Lib.hid (fun w' (h:SinceT w1 w')=>(h.blk (KU _ (by omega)) be:Blk w' (G+1+1+1+1) 124 #[.int .i64 0,.int .i64 0,.int .i64 0,.int .i64 0]))
   have KB:∀ w',SinceT w1 w' → Blk w' (G) 36 #[.int .i64 a.1,.int .i64 a.2]∧Blk w' (G+1) 36 #[.int .i64 b.1,.int .i64 b.2]∧Blk w' (G+1+1) 36 #[.int .i64 c.1,.int .i64 c.2]∧Blk w' (G+1+1+1) 36 #[.int .i64 d.1,.int .i64 d.2]:=fun w' h =>
    ⟨h.blkT K0 ba,h.blkT K1 bb,h.blkT K2 bc,h.blkT K3 bd⟩
   have KF:∀ w',SinceT w1 w' → w'.cell? ⟨G,0,none⟩=some (.int .i64 a.1)∧w'.cell? ⟨G,1,none⟩=some (.int .i64 a.2)∧w'.cell? ⟨G+1,0,none⟩=some (.int .i64 b.1)∧w'.cell? ⟨G+1,1,none⟩=some (.int .i64 b.2)∧w'.cell? ⟨G+1+1,0,none⟩=some (.int .i64 c.1)∧w'.cell? ⟨G+1+1,1,none⟩=some (.int .i64 c.2)∧w'.cell? ⟨G+1+1+1,0,none⟩=some (.int .i64 d.1)∧w'.cell? ⟨G+1+1+1,1,none⟩=some (.int .i64 d.2):=fun w' h =>
    ⟨(KB w' h).1.cell 0,(KB w' h).1.cell 1,(KB w' h).2.1.cell 0,(KB w' h).2.1.cell 1,(KB w' h).2.2.1.cell 0,(KB w' h).2.2.1.cell 1,(KB w' h).2.2.2.cell 0,(KB w' h).2.2.2.cell 1⟩
   have KB:=Lib.hid KB
   have KF:=Lib.hid KF
   have hl4:=bd.lt
   have HS1:=Lib.hid hs
   clear ba bb bc bd be hs HG
   apply region_factsT 12 (fun w' => SinceT w1 w')
   case hm=>kernel_rfl
   case hB=>kernel_rfl
   case hS=>exact(SinceT.rfl_ w1).drew
   case hmono=>exact(fun _ _ h k=>h.trans k)
   case hTb=>exact(fun g hg=>KU g (by omega))
   case h =>
   simp only[List.take_succ_cons,List.take_zero,List.drop_succ_cons,List.drop_zero]
   (apply wpO_detT;(case hw=>rfl);(case h=>intro hFm wx hS_ hF_ K hK;go_big_quiet_op;first | exact hK _ rfl | (apply Exists.intro;refine⟨fun _=>?_,?_⟩;(focus (first | (intro hC;have hC:=KF.out _ hC.out.1;(try simp only[hC,Result.andThen]);first | exact⟨True.intro,rfl⟩ | exact⟨rfl,rfl⟩ | rfl)));exact hK _ rfl));(case' k=>simp only[Act.put,List.setIfInBounds_toArray,List.set_cons_succ,List.set_cons_zero,List.cons_append,List.nil_append]))
   (apply wpO_detT;(case hw=>rfl);(case h=>intro hFm wx hS_ hF_ K hK;go_big_quiet_op;first | exact hK _ rfl | (apply Exists.intro;refine⟨fun _=>?_,?_⟩;(focus (first | (intro hC;go_at_call 69;refine(Clamp_val ha _).mono ?_;rintro e w' ⟨rfl,hb⟩;refine⟨rfl,?_⟩;exact cls_callT (fun _ _ h k=>h.trans k) hFm hC hb)));exact hK _ rfl));(case' k=>simp only[Act.put,List.setIfInBounds_toArray,List.set_cons_succ,List.set_cons_zero,List.cons_append,List.nil_append]))
   (apply wpO_detT;(case hw=>rfl);(case h=>intro hFm wx hS_ hF_ K hK;go_big_quiet_op;first | exact hK _ rfl | (apply Exists.intro;refine⟨fun _=>?_,?_⟩;(focus (first | (intro hC;have hC:=KF.out _ hC.out.1;(try simp only[hC,Result.andThen]);first | exact⟨True.intro,rfl⟩ | exact⟨rfl,rfl⟩ | rfl)));exact hK _ rfl));(case' k=>simp only[Act.put,List.setIfInBounds_toArray,List.set_cons_succ,List.set_cons_zero,List.cons_append,List.nil_append]))
   (apply wpO_detT;(case hw=>rfl);(case h=>intro hFm wx hS_ hF_ K hK;go_big_quiet_op;first | exact hK _ rfl | (apply Exists.intro;refine⟨fun _=>?_,?_⟩;(focus (first | (intro hC;go_at_call 69;refine(Clamp_val hb _).mono ?_;rintro e w' ⟨rfl,hb⟩;refine⟨rfl,?_⟩;exact cls_callT (fun _ _ h k=>h.trans k) hFm hC hb)));exact hK _ rfl));(case' k=>simp only[Act.put,List.setIfInBounds_toArray,List.set_cons_succ,List.set_cons_zero,List.cons_append,List.nil_append]))
   (apply wpO_detT;(case hw=>rfl);(case h=>intro hFm wx hS_ hF_ K hK;go_big_quiet_op;first | exact hK _ rfl | (apply Exists.intro;refine⟨fun _=>?_,?_⟩;(focus (first | (intro hC;have hC:=KF.out _ hC.out.1;(try simp only[hC,Result.andThen]);first | exact⟨True.intro,rfl⟩ | exact⟨rfl,rfl⟩ | rfl)));exact hK _ rfl));(case' k=>simp only[Act.put,List.setIfInBounds_toArray,List.set_cons_succ,List.set_cons_zero,List.cons_append,List.nil_append]))
   (apply wpO_detT;(case hw=>rfl);(case h=>intro hFm wx hS_ hF_ K hK;go_big_quiet_op;first | exact hK _ rfl | (apply Exists.intro;refine⟨fun _=>?_,?_⟩;(focus (first | (intro hC;go_at_call 69;refine(Clamp_val hc _).mono ?_;rintro e w' ⟨rfl,hb⟩;refine⟨rfl,?_⟩;exact cls_callT (fun _ _ h k=>h.trans k) hFm hC hb)));exact hK _ rfl));(case' k=>simp only[Act.put,List.setIfInBounds_toArray,List.set_cons_succ,List.set_cons_zero,List.cons_append,List.nil_append]))
   (apply wpO_detT;(case hw=>rfl);(case h=>intro hFm wx hS_ hF_ K hK;go_big_quiet_op;first | exact hK _ rfl | (apply Exists.intro;refine⟨fun _=>?_,?_⟩;(focus (first | (intro hC;have hC:=KF.out _ hC.out.1;(try simp only[hC,Result.andThen]);first | exact⟨True.intro,rfl⟩ | exact⟨rfl,rfl⟩ | rfl)));exact hK _ rfl));(case' k=>simp only[Act.put,List.setIfInBounds_toArray,List.set_cons_succ,List.set_cons_zero,List.cons_append,List.nil_append]))
   (apply wpO_detT;(case hw=>rfl);(case h=>intro hFm wx hS_ hF_ K hK;go_big_quiet_op;first | exact hK _ rfl | (apply Exists.intro;refine⟨fun _=>?_,?_⟩;(focus (first | (intro hC;go_at_call 69;refine(Clamp_val hd _).mono ?_;rintro e w' ⟨rfl,hb⟩;refine⟨rfl,?_⟩;exact cls_callT (fun _ _ h k=>h.trans k) hFm hC hb)));exact hK _ rfl));(case' k=>simp only[Act.put,List.setIfInBounds_toArray,List.set_cons_succ,List.set_cons_zero,List.cons_append,List.nil_append]))
   apply wpO_anyT (R:=(fun _ _=>True))
   case hR=>exact(fun _ _ _ h _=>h)
   case hw=>rfl
   case h =>
    intro wx hS_ hF_
    unfold runVT
    (have hb:=(KB.out _ hS_).1;have c0:=hb.cell 0;have c1:=hb.cell 1;have f0:=hb.frozen 0;have f1:=hb.frozen 1;simp only[List.getElem?_toArray,List.getElem?_cons_zero,List.getElem?_cons_succ] at c0 c1;have hr:=Lib.hid (store2_T hb K0).2;simp[go_sem,c0,c1,f0,f1,cSetS,cSetO];exact hr.out)
   case k =>
   intro v0
   simp only[Act.put,List.setIfInBounds_toArray,List.set_cons_succ,List.set_cons_zero,List.cons_append,List.nil_append]
   apply wpO_anyT (R:=(fun _ _=>True))
   case hR=>exact(fun _ _ _ h _=>h)
   case hw=>rfl
   case h =>
    intro wx hS_ hF_
    unfold runVT
    (have hb:=(KB.out _ hS_).2.1;have c0:=hb.cell 0;have c1:=hb.cell 1;have f0:=hb.frozen 0;have f1:=hb.frozen 1;simp only[List.getElem?_toArray,List.getElem?_cons_zero,List.getElem?_cons_succ] at c0 c1;have hr:=Lib.hid (store2_T hb K1).2;simp[go_sem,c0,c1,f0,f1,cSetS,cSetO];exact hr.out)
   case k =>
   intro v1
   simp only[Act.put,List.setIfInBounds_toArray,List.set_cons_succ,List.set_cons_zero,List.cons_append,List.nil_append]
   apply wpO_anyT (R:=(fun _ _=>True))
   case hR=>exact(fun _ _ _ h _=>h)
   case hw=>rfl
   case h =>
    intro wx hS_ hF_
    unfold runVT
    (have hb:=(KB.out _ hS_).2.2.1;have c0:=hb.cell 0;have c1:=hb.cell 1;have f0:=hb.frozen 0;have f1:=hb.frozen 1;simp only[List.getElem?_toArray,List.getElem?_cons_zero,List.getElem?_cons_succ] at c0 c1;have hr:=Lib.hid (store2_T hb K2).2;simp[go_sem,c0,c1,f0,f1,cSetS,cSetO];exact hr.out)
   case k =>
   intro v2
   simp only[Act.put,List.setIfInBounds_toArray,List.set_cons_succ,List.set_cons_zero,List.cons_append,List.nil_append]
   apply wpO_anyT (R:=(fun _ _=>True))
   case hR=>exact(fun _ _ _ h _=>h)
   case hw=>rfl
   case h =>
    intro wx hS_ hF_
    unfold runVT
    (have hb:=(KB.out _ hS_).2.2.2;have c0:=hb.cell 0;have c1:=hb.cell 1;have f0:=hb.frozen 0;have f1:=hb.frozen 1;simp only[List.getElem?_toArray,List.getElem?_cons_zero,List.getElem?_cons_succ] at c0 c1;have hr:=Lib.hid (store2_T hb K3).2;simp[go_sem,c0,c1,f0,f1,cSetS,cSetO];exact hr.out)
   case k =>
   intro v3
   simp only[Act.put,List.setIfInBounds_toArray,List.set_cons_succ,List.set_cons_zero,List.cons_append,List.nil_append]
   refine wpO_nilT ?_
   intro w5 hS hF hB
   (try simp[allF] at hF)
   (try simp[List.pairwise_cons] at hB)
   go_wp2_with fail
   go_meet
   exact⟨hS.since HS1.out (fun g hg=>KT g (by have:=HGG.out;omega)),(KB.out _ hS).1,(KB.out _ hS).2.1,(KB.out _ hS).2.2.1,(KB.out _ hS).2.2.2,KE.out _ hS⟩
 case rest =>
  obtain⟨hs5,hb5⟩:=hcut
  obtain⟨w5,rfl⟩:∃ w5,w5=wc:=⟨_,rfl⟩
  have HS5:=Lib.hid hs5
  clear hs ba bb bc bd be hs5
  have a0:w5.cell? ⟨G,0,none⟩=some (.int .i64 a.1):=hb5.1.cell 0
  have a1:w5.cell? ⟨G,1,none⟩=some (.int .i64 a.2):=hb5.1.cell 1
  have b0:w5.cell? ⟨G+1,0,none⟩=some (.int .i64 b.1):=hb5.2.1.cell 0
  have b1:w5.cell? ⟨G+1,1,none⟩=some (.int .i64 b.2):=hb5.2.1.cell 1
  have c0:w5.cell? ⟨G+1+1,0,none⟩=some (.int .i64 c.1):=hb5.2.2.1.cell 0
  have c1:w5.cell? ⟨G+1+1,1,none⟩=some (.int .i64 c.2):=hb5.2.2.1.cell 1
  have d0:w5.cell? ⟨G+1+1+1,0,none⟩=some (.int .i64 d.1):=hb5.2.2.2.1.cell 0
  have d1:w5.cell? ⟨G+1+1+1,1,none⟩=some (.int .i64 d.2):=hb5.2.2.2.1.cell 1
  have be:=Lib.hid hb5.2.2.2.2
  have HGG:=Lib.hid HG
  clear hb5 HG
  go_wp2_with fail
  refine(HMT.out _).mono ?_
  rintro e w6 ⟨rfl,hs⟩
  have HS6:=Lib.hid (HS5.out.trans hs)
  have a0:=keepC hs _ _ a0
  have a1:=keepC hs _ _ a1
  have b0:=keepC hs _ _ b0
  have b1:=keepC hs _ _ b1
  have c0:=keepC hs _ _ c0
  have c1:=keepC hs _ _ c1
  have d0:=keepC hs _ _ d0
  have d1:=keepC hs _ _ d1
  have be:=Lib.hid (hs.blk be.out)
  clear hs HS5
  go_wp2_with fail
  refine(HSH.out _).mono ?_
  rintro e w7 ⟨x,y,rfl,ho,hs⟩
  have HS7:=Lib.hid (HS6.out.trans hs)
  have a0:=keepC hs _ _ a0
  have a1:=keepC hs _ _ a1
  have b0:=keepC hs _ _ b0
  have b1:=keepC hs _ _ b1
  have c0:=keepC hs _ _ c0
  have c1:=keepC hs _ _ c1
  have d0:=keepC hs _ _ d0
  have d1:=keepC hs _ _ d1
  have be:=Lib.hid (hs.blk be.out)
  have HO:=Lib.hid ho
  clear hs HS6 ho
  obtain⟨ln,HLN⟩:∃ ln,Hid (ln=(sharedL a b c d).length):=⟨_,rfl⟩
  rw[← HLN.out] at HO HSN1 HSN2 HAM ⊢
  by_cases hl:ln=1
  ·subst hl
   obtain⟨g,cc,hx⟩:=own_some HO.out (by omega)
   injection hx with hx1 _ hx2
   subst hx1 hx2
   obtain⟨q,hq⟩:∃ q,sharedL a b c d=[q]:=List.length_eq_one_iff.1 HLN.out.symm
   have HQ:okP q.1 q.2=true:=by
    rcases HME.out q (by rw[hq];exact List.mem_singleton.2 rfl) with h | h | h | h <;> rw[h.1]
    ·exact HOK.out.1
    ·exact HOK.out.2.1
    ·exact HOK.out.2.2.1
    ·exact HOK.out.2.2.2
   have q0:w7.cell? ⟨g,0,none⟩=some (.int .i64 q.1):=by
    have:=HO.out
    rw[hq] at this
    exact row_at this (fun _=>rfl) 0 (by simp) 0 _ rfl
   have q1:w7.cell? ⟨g,1,none⟩=some (.int .i64 q.2):=by
    have:=HO.out
    rw[hq] at this
    exact row_at this (fun _=>rfl) 0 (by simp) 1 _ rfl
   have HV:=HSN1.out rfl
   have HP:=Lib.hid (fun w=>place_s q.1 q.2 (okP_iff.1 HQ).1 (okP_iff.1 HQ).2 w)
   have HQC:=clamp_id HQ
   have HF1:FracOk q.1 1:=by have:=(okP_iff.1 HQ).1;exact FracOk_one (by omega)
   have HF2:FracOk q.2 1:=by have:=(okP_iff.1 HQ).2;exact FracOk_one (by omega)
   rw[hq] at HV
   have HV:=Lib.hid (show sv=q from HV)
   clear HO HLN HSN1 HSN2 HAM HME hq HX1 HX2 a0 a1 b0 b1 c0 c1 d0 d1
   go_wp2_with fail
   refine(HP.out _).mono ?_
   rintro e w8 ⟨rfl,hs⟩
   have HS8:=Lib.hid (HS7.out.trans hs)
   have hb:=hs.blk be.out
   have r_0:=hb.cell 0
   have r_1:=hb.cell 1
   have r_2:=hb.cell 2
   have r_3:=hb.cell 3
   simp only[List.getElem?_toArray,List.getElem?_cons_zero,List.getElem?_cons_succ] at r_0 r_1 r_2 r_3
   have f0:=hb.frozen 0
   have f1:=hb.frozen 1
   have f2:=hb.frozen 2
   have f3:=hb.frozen 3
   clear hs HS7 be q0 q1 hb
   go_wp2_with fail
   refine bodyPost_ret (v:=.tuple #[.agg #[.int .i64 q.1,.int .i64 1,.int .i64 q.2,.int .i64 1],.int .i64 0]) (by simp[results,Tryz.results100,go_sem,cSetS,cSetO,cellDrew,r_0,r_1,r_2,r_3]) rfl ⟨⟨q.1,1,q.2,1,rfl,HF1,HF2,?_⟩,?_⟩
   ·rw[rndF_one,rndF_one,HQC.1,HQC.2,HV.out]
   ·have hG:=HGG.out
    exact(((HS8.out.setCell (by dsimp only;omega) _).setCell (by dsimp only;omega) _).setCell (by dsimp only;omega) _).setCell (by dsimp only;omega) _
  ·have HA:=Lib.hid (HAM.out hl)
   have HV:=Lib.hid (HSN2.out hl)
   have hl2:((ln:Int) == 1)=false:=by rw[beq_eq_false_iff_ne];omega
   clear HO HSN1 HSN2 HAM HME HLN
   go_upto_region 10 with fail
   go_wp2_with fail
   refine(HX1.out _).mono ?_
   rintro e w8 ⟨rfl,hs⟩
   have HS8:=Lib.hid (HS7.out.trans hs)
   have a0:=keepC hs _ _ a0
   have a1:=keepC hs _ _ a1
   have b0:=keepC hs _ _ b0
   have b1:=keepC hs _ _ b1
   have c0:=keepC hs _ _ c0
   have c1:=keepC hs _ _ c1
   have d0:=keepC hs _ _ d0
   have d1:=keepC hs _ _ d1
   have be:=Lib.hid (hs.blk be.out)
   clear hs HS7
   go_wp2_with fail
   refine(HX2.out _).mono ?_
   rintro e w9 ⟨rfl,hs⟩
   have HS9:=Lib.hid (HS8.out.trans hs)
   have a0:=keepC hs _ _ a0
   have a1:=keepC hs _ _ a1
   have b0:=keepC hs _ _ b0
   have b1:=keepC hs _ _ b1
   have c0:=keepC hs _ _ c0
   have c1:=keepC hs _ _ c1
   have d0:=keepC hs _ _ d0
   have d1:=keepC hs _ _ d1
   have be:=Lib.hid (hs.blk be.out)
   clear hs HS8
   have hA:=HA.out
   have hwx:wrap64 (b.1-a.1)=b.1-a.1:=wrap_id (by omega)
   have hwy:wrap64 (b.2-a.2)=b.2-a.2:=wrap_id (by omega)
   by_cases hneg:n-m<0
   ·have hg:decide (n-m<0)=true:=by rw[decide_eq_true_eq];exact hneg
    have e1:atD a b c d = -(n-m):=by rw[ED.out,if_pos hneg]
    have e2:atN a b c d = -n:=by rw[EN.out,if_pos hneg]
    have n0:=hA.n0
    have nd:=hA.nd
    have dl:=hA.dl
    have bx:=hA.bx
    have by_:=hA.by_
    rw[e2] at n0 nd bx by_
    rw[e1] at nd dl bx by_
    have hV:=HV.out
    rw[e1,e2] at hV
    have hwn:wrap64 (-n) = -n:=wrap_id (by omega)
    have hwd:wrap64 (-(n-m)) = -(n-m):=wrap_id (by omega)
    have HVV:=Lib.hid hV
    obtain⟨xn,xd,ox,vx,HL1⟩:=along_s a.1 (b.1-a.1) (-n) (-(n-m)) (by omega) (by omega) (by omega) (by omega) bx
    obtain⟨yn,yd,oy,vy,HL2⟩:=along_s a.2 (b.2-a.2) (-n) (-(n-m)) (by omega) (by omega) (by omega) (by omega) by_
    have HL1:=Lib.hid HL1
    have HL2:=Lib.hid HL2
    have VX:=rndF_inv ox.d1 (show 0<(-(n-m)) by omega) vx
    have VY:=rndF_inv oy.d1 (show 0<(-(n-m)) by omega) vy
    have VX:=Lib.hid VX
    have VY:=Lib.hid VY
    clear hA n0 bx by_ hV HV HA e1 e2 ED EN HN HM HX1 HX2 vx vy
    go_upto_region 14 with fail
    have be9:=be.out
    have KF:=Lib.hid (fun w' (h:Since w9 w')=>(show w'.cell? ⟨G,0,none⟩=some (.int .i64 a.1)∧w'.cell? ⟨G,1,none⟩=some (.int .i64 a.2)∧w'.cell? ⟨G+1,0,none⟩=some (.int .i64 b.1)∧w'.cell? ⟨G+1,1,none⟩=some (.int .i64 b.2) from⟨keepC h _ _ a0,keepC h _ _ a1,keepC h _ _ b0,keepC h _ _ b1⟩))
    clear be a0 a1 b0 b1 c0 c1 d0 d1
    apply region_facts 21 (fun w' => Since w9 w')
    case hm=>kernel_rfl
    case hB=>kernel_rfl
    case hS=>exact(Since.rfl_ w9).drew
    case h =>
    simp only[List.take_succ_cons,List.take_zero,List.drop_succ_cons,List.drop_zero]
    iterate 9 (apply wpO_det;(case hw=>rfl);(case h=>intro hFm wx hS_ hF_ K hK;go_big_quiet_op;first | exact hK _ rfl | (apply Exists.intro;refine⟨fun _=>?_,?_⟩;(focus (first | (intro hC;have hC:=KF.out _ hC.out.1;(try simp only[hC,Result.andThen]);first | exact⟨True.intro,rfl⟩ | exact⟨rfl,rfl⟩ | rfl)));exact hK _ rfl));(case' k=>simp only[Act.put,List.setIfInBounds_toArray,List.set_cons_succ,List.set_cons_zero,List.cons_append,List.nil_append]))
    (apply wpO_det;(case hw=>rfl);(case h=>intro hFm wx hS_ hF_ K hK;go_big_quiet_op;first | exact hK _ rfl | (apply Exists.intro;refine⟨fun _=>?_,?_⟩;(focus (first | (intro hC;go_at_call 121;refine(HL1.out _).mono ?_;rintro e w' ⟨rfl,hb⟩;refine⟨rfl,?_⟩;exact cls_call hFm hC hb)));exact hK _ rfl));(case' k=>simp only[Act.put,List.setIfInBounds_toArray,List.set_cons_succ,List.set_cons_zero,List.cons_append,List.nil_append]))
    iterate 9 (apply wpO_det;(case hw=>rfl);(case h=>intro hFm wx hS_ hF_ K hK;go_big_quiet_op;first | exact hK _ rfl | (apply Exists.intro;refine⟨fun _=>?_,?_⟩;(focus (first | (intro hC;have hC:=KF.out _ hC.out.1;(try simp only[hC,Result.andThen]);first | exact⟨True.intro,rfl⟩ | exact⟨rfl,rfl⟩ | rfl)));exact hK _ rfl));(case' k=>simp only[Act.put,List.setIfInBounds_toArray,List.set_cons_succ,List.set_cons_zero,List.cons_append,List.nil_append]))
    (apply wpO_det;(case hw=>rfl);(case h=>intro hFm wx hS_ hF_ K hK;go_big_quiet_op;first | exact hK _ rfl | (apply Exists.intro;refine⟨fun _=>?_,?_⟩;(focus (first | (intro hC;go_at_call 121;refine(HL2.out _).mono ?_;rintro e w' ⟨rfl,hb⟩;refine⟨rfl,?_⟩;exact cls_call hFm hC hb)));exact hK _ rfl));(case' k=>simp only[Act.put,List.setIfInBounds_toArray,List.set_cons_succ,List.set_cons_zero,List.cons_append,List.nil_append]))
    (apply wpO_det;(case hw=>rfl);(case h=>intro hFm wx hS_ hF_ K hK;go_big_quiet_op;first | exact hK _ rfl | (apply Exists.intro;refine⟨fun _=>?_,?_⟩;(focus (first | (intro hC;have hC:=KF.out _ hC.out.1;(try simp only[hC,Result.andThen]);first | exact⟨True.intro,rfl⟩ | exact⟨rfl,rfl⟩ | rfl)));exact hK _ rfl));(case' k=>simp only[Act.put,List.setIfInBounds_toArray,List.set_cons_succ,List.set_cons_zero,List.cons_append,List.nil_append]))
    refine wpO_nil ?_
    intro wx hS hF hB
    (try simp[allF] at hF)
    (try simp[List.pairwise_cons] at hB)
    have hb:=hS.blk be9
    have HSX:=Lib.hid (HS9.out.trans hS)
    have r_0:=hb.cell 0
    have r_1:=hb.cell 1
    have r_2:=hb.cell 2
    have r_3:=hb.cell 3
    simp only[List.getElem?_toArray,List.getElem?_cons_zero,List.getElem?_cons_succ] at r_0 r_1 r_2 r_3
    have f0:=hb.frozen 0
    have f1:=hb.frozen 1
    have f2:=hb.frozen 2
    have f3:=hb.frozen 3
    clear hS hF hB hb KF be9
    go_wp2_with fail
    refine bodyPost_ret (v:=.tuple #[.agg #[.int .i64 xn,.int .i64 xd,.int .i64 yn,.int .i64 yd],.int .i64 0]) (by simp[results,Tryz.results100,go_sem,cSetS,cSetO,cellDrew,r_0,r_1,r_2,r_3]) rfl ⟨⟨xn,xd,yn,yd,rfl,ox,oy,?_⟩,?_⟩
    ·rw[HVV.out,VX.out,VY.out]
    ·have hG:=HGG.out
     exact(((HSX.out.setCell (by dsimp only;omega) _).setCell (by dsimp only;omega) _).setCell (by dsimp only;omega) _).setCell (by dsimp only;omega) _
   ·have hg:decide (n-m<0)=false:=by rw[decide_eq_false_iff_not];exact hneg
    have e1:atD a b c d=n-m:=by rw[ED.out,if_neg hneg]
    have e2:atN a b c d=n:=by rw[EN.out,if_neg hneg]
    have n0:=hA.n0
    have nd:=hA.nd
    have dl:=hA.dl
    have bx:=hA.bx
    have by_:=hA.by_
    rw[e2] at n0 nd bx by_
    rw[e1] at nd dl bx by_
    have hV:=HV.out
    rw[e1,e2] at hV
    have hwn:wrap64 (-n) = -n:=wrap_id (by omega)
    have hwd:wrap64 (-(n-m)) = -(n-m):=wrap_id (by omega)
    have HVV:=Lib.hid hV
    obtain⟨xn,xd,ox,vx,HL1⟩:=along_s a.1 (b.1-a.1) n (n-m) (by omega) (by omega) (by omega) (by omega) bx
    obtain⟨yn,yd,oy,vy,HL2⟩:=along_s a.2 (b.2-a.2) n (n-m) (by omega) (by omega) (by omega) (by omega) by_
    have HL1:=Lib.hid HL1
    have HL2:=Lib.hid HL2
    have VX:=rndF_inv ox.d1 (show 0<(n-m) by omega) vx
    have VY:=rndF_inv oy.d1 (show 0<(n-m) by omega) vy
    have VX:=Lib.hid VX
    have VY:=Lib.hid VY
    clear hA n0 bx by_ hV HV HA e1 e2 ED EN HN HM HX1 HX2 vx vy
    go_upto_region 14 with fail
    have be9:=be.out
    have KF:=Lib.hid (fun w' (h:Since w9 w')=>(show w'.cell? ⟨G,0,none⟩=some (.int .i64 a.1)∧w'.cell? ⟨G,1,none⟩=some (.int .i64 a.2)∧w'.cell? ⟨G+1,0,none⟩=some (.int .i64 b.1)∧w'.cell? ⟨G+1,1,none⟩=some (.int .i64 b.2) from⟨keepC h _ _ a0,keepC h _ _ a1,keepC h _ _ b0,keepC h _ _ b1⟩))
    clear be a0 a1 b0 b1 c0 c1 d0 d1
    apply region_facts 21 (fun w' => Since w9 w')
    case hm=>kernel_rfl
    case hB=>kernel_rfl
    case hS=>exact(Since.rfl_ w9).drew
    case h =>
    simp only[List.take_succ_cons,List.take_zero,List.drop_succ_cons,List.drop_zero]
    iterate 9 (apply wpO_det;(case hw=>rfl);(case h=>intro hFm wx hS_ hF_ K hK;go_big_quiet_op;first | exact hK _ rfl | (apply Exists.intro;refine⟨fun _=>?_,?_⟩;(focus (first | (intro hC;have hC:=KF.out _ hC.out.1;(try simp only[hC,Result.andThen]);first | exact⟨True.intro,rfl⟩ | exact⟨rfl,rfl⟩ | rfl)));exact hK _ rfl));(case' k=>simp only[Act.put,List.setIfInBounds_toArray,List.set_cons_succ,List.set_cons_zero,List.cons_append,List.nil_append]))
    (apply wpO_det;(case hw=>rfl);(case h=>intro hFm wx hS_ hF_ K hK;go_big_quiet_op;first | exact hK _ rfl | (apply Exists.intro;refine⟨fun _=>?_,?_⟩;(focus (first | (intro hC;go_at_call 121;refine(HL1.out _).mono ?_;rintro e w' ⟨rfl,hb⟩;refine⟨rfl,?_⟩;exact cls_call hFm hC hb)));exact hK _ rfl));(case' k=>simp only[Act.put,List.setIfInBounds_toArray,List.set_cons_succ,List.set_cons_zero,List.cons_append,List.nil_append]))
    iterate 9 (apply wpO_det;(case hw=>rfl);(case h=>intro hFm wx hS_ hF_ K hK;go_big_quiet_op;first | exact hK _ rfl | (apply Exists.intro;refine⟨fun _=>?_,?_⟩;(focus (first | (intro hC;have hC:=KF.out _ hC.out.1;(try simp only[hC,Result.andThen]);first | exact⟨True.intro,rfl⟩ | exact⟨rfl,rfl⟩ | rfl)));exact hK _ rfl));(case' k=>simp only[Act.put,List.setIfInBounds_toArray,List.set_cons_succ,List.set_cons_zero,List.cons_append,List.nil_append]))
    (apply wpO_det;(case hw=>rfl);(case h=>intro hFm wx hS_ hF_ K hK;go_big_quiet_op;first | exact hK _ rfl | (apply Exists.intro;refine⟨fun _=>?_,?_⟩;(focus (first | (intro hC;go_at_call 121;refine(HL2.out _).mono ?_;rintro e w' ⟨rfl,hb⟩;refine⟨rfl,?_⟩;exact cls_call hFm hC hb)));exact hK _ rfl));(case' k=>simp only[Act.put,List.setIfInBounds_toArray,List.set_cons_succ,List.set_cons_zero,List.cons_append,List.nil_append]))
    (apply wpO_det;(case hw=>rfl);(case h=>intro hFm wx hS_ hF_ K hK;go_big_quiet_op;first | exact hK _ rfl | (apply Exists.intro;refine⟨fun _=>?_,?_⟩;(focus (first | (intro hC;have hC:=KF.out _ hC.out.1;(try simp only[hC,Result.andThen]);first | exact⟨True.intro,rfl⟩ | exact⟨rfl,rfl⟩ | rfl)));exact hK _ rfl));(case' k=>simp only[Act.put,List.setIfInBounds_toArray,List.set_cons_succ,List.set_cons_zero,List.cons_append,List.nil_append]))
    refine wpO_nil ?_
    intro wx hS hF hB
    (try simp[allF] at hF)
    (try simp[List.pairwise_cons] at hB)
    have hb:=hS.blk be9
    have HSX:=Lib.hid (HS9.out.trans hS)
    have r_0:=hb.cell 0
    have r_1:=hb.cell 1
    have r_2:=hb.cell 2
    have r_3:=hb.cell 3
    simp only[List.getElem?_toArray,List.getElem?_cons_zero,List.getElem?_cons_succ] at r_0 r_1 r_2 r_3
    have f0:=hb.frozen 0
    have f1:=hb.frozen 1
    have f2:=hb.frozen 2
    have f3:=hb.frozen 3
    clear hS hF hB hb KF be9
    go_wp2_with fail
    refine bodyPost_ret (v:=.tuple #[.agg #[.int .i64 xn,.int .i64 xd,.int .i64 yn,.int .i64 yd],.int .i64 0]) (by simp[results,Tryz.results100,go_sem,cSetS,cSetO,cellDrew,r_0,r_1,r_2,r_3]) rfl ⟨⟨xn,xd,yn,yd,rfl,ox,oy,?_⟩,?_⟩
    ·rw[HVV.out,VX.out,VY.out]
    ·have hG:=HGG.out
     exact(((HSX.out.setCell (by dsimp only;omega) _).setCell (by dsimp only;omega) _).setCell (by dsimp only;omega) _).setCell (by dsimp only;omega) _
end
section
open Go.RowKit Go.BigFrame
attribute [local go_sem ↓] eqPt neqPt
abbrev Sg:=Pt2×Pt2
def sgAt(l:List Sg)(i:Nat):Sg:=l.getD i ((0,0),(0,0))
theorem sgAt_mem{l:List Sg}{i:Nat}(h:i<l.length):sgAt l i∈l:=by
 have e:sgAt l i=l[i]:=by simp[sgAt,List.getD,h]
 rw[e];exact List.getElem_mem h
def sgV(s:Sg):List Value:=[.int .i64 s.1.1,.int .i64 s.1.2,.int .i64 s.2.1,.int .i64 s.2.2]
def SegsS(w:World)(v:Value)(l:List Sg):Prop :=
 ∃ a c,v=.slice a l.length c∧l.length≤c∧∀ i,i<l.length→∃ g o:Nat,a=some ⟨g,o,none⟩∧w.cell? ⟨g,o+i*4,none⟩=some (.int .i64 (sgAt l i).1.1)∧w.cell? ⟨g,o+i*4+1,none⟩=some (.int .i64 (sgAt l i).1.2)∧w.cell? ⟨g,o+i*4+2,none⟩=some (.int .i64 (sgAt l i).2.1)∧w.cell? ⟨g,o+i*4+3,none⟩=some (.int .i64 (sgAt l i).2.2)
theorem SegsS.keep{w w' : World}{v:Value}{l:List Sg}(h:SegsS w v l)(k:∀ p u,w.cell? p=some u→w'.cell? p=some u):SegsS w' v l:=by
 obtain⟨a,c,hv,hc,h⟩:=h
 refine⟨a,c,hv,hc,fun i hi=>?_⟩
 obtain⟨g,o,ha,h1,h2,h3,h4⟩:=h i hi
 exact⟨g,o,ha,k _ _ h1,k _ _ h2,k _ _ h3,k _ _ h4⟩
theorem SegsS.since{w w' : World}{v:Value}{l:List Sg}(h:SegsS w v l)(k:Since w w'):SegsS w' v l:=h.keep (keepC k)
def SgOk(s:Sg):Prop:=okP s.1.1 s.1.2=true∧okP s.2.1 s.2.2=true∧s.1≠s.2
set_option maxRecDepth 100000 in
set_option maxHeartbeats 4000000 in
theorem check_any(v:Value)(l:List Sg)(w:World)(hv:SegsS w v l)(hl:l.length≤300)(hok:∀ s∈l,SgOk s) :
  Calls Tryz.prog 79 #[v] w fun e w' => e=.returned (.int .i64 0)∧Since w w' := by
 obtain⟨a,c,rfl,-,hv⟩:=hv
 have HV:=Lib.hid hv
 have HOK:=Lib.hid hok
 obtain⟨n,hn⟩:∃ n,n=l.length:=⟨_,rfl⟩
 have HN:=Lib.hid hn
 rw[← hn] at HV hl ⊢
 clear hv hok hn
 have g1:decide ((300:Int)<(n:Int))=false:=by rw[decide_eq_false_iff_not];omega
 go_enter Tryz.func79,Tryz.ntmps79
 go_upto_region 4 with fail
 go_loopw [10] (fun v wr=>∃ k:Nat,k≤n∧v=.int .i64 k∧Hid (Since w wr)) (fun v _=>n-(intOf v).toNat)
 case atStart=>exact⟨0,by omega,rfl,Since.rfl_ w⟩
 case round =>
  obtain⟨k,hk,rfl,HR⟩:=hrel
  rcases Nat.lt_or_ge k n with hlt | hge
  ·have hz:decide ((k:Int)<(n:Int))=true:=by rw[decide_eq_true_eq];omega
   obtain⟨g,o,rfl,h1,h2,h3,h4⟩:=HV.out k hlt
   obtain⟨s,hs⟩:∃ s,s=sgAt l k:=⟨_,rfl⟩
   have HS:SgOk s:=by rw[hs];exact HOK.out _ (sgAt_mem (by rw[← HN.out];exact hlt))
   rw[← hs] at h1 h2 h3 h4
   have h1:=keepC HR.out _ _ h1
   have h2:=keepC HR.out _ _ h2
   have h3:=keepC HR.out _ _ h3
   have h4:=keepC HR.out _ _ h4
   have O1:=Lib.hid HS.1
   have O2:=Lib.hid HS.2.1
   have ne:(s.1.1 == s.2.1 && s.1.2 == s.2.2)=false:=by
    rw[Bool.eq_false_iff];intro h;rw[Bool.and_eq_true,beq_iff_eq,beq_iff_eq] at h;exact HS.2.2 (Prod.ext h.1 h.2)
   have i1:(0:Int)≤(k:Int):=by omega
   have i2:(k:Int)<(n:Int):=by omega
   clear hs HS
   go_upto_region 6 with fail
   obtain⟨G,HG⟩:∃ G,G=wr.heap.size:=⟨_,rfl⟩
   rw[← HG]
   refine atW (fun w' => Since wr w' ∧ Blk w' G 37 #[.int .i64 s.1.1,.int .i64 s.1.2,.int .i64 s.2.1,.int .i64 s.2.2]) ⟨(Since.rfl_ wr).alloc _,Blk.new' HG⟩ ?_
   rintro w1 ⟨hs,hb⟩
   have r_0:=hb.cell 0
   have r_1:=hb.cell 1
   have r_2:=hb.cell 2
   have r_3:=hb.cell 3
   simp only[List.getElem?_toArray,List.getElem?_cons_zero,List.getElem?_cons_succ] at r_0 r_1 r_2 r_3
   have HS1:=Lib.hid (HR.out.trans hs)
   clear hs hb HG h1 h2 h3 h4
   go_wp2_with fail
   refine(Ok_val O1.out _).mono ?_
   rintro e w2 ⟨rfl,hs⟩
   have HS2:=Lib.hid (HS1.out.trans hs)
   have r_0:=keepC hs _ _ r_0
   have r_1:=keepC hs _ _ r_1
   have r_2:=keepC hs _ _ r_2
   have r_3:=keepC hs _ _ r_3
   clear hs HS1
   go_wp2_with fail
   refine(Ok_val O2.out _).mono ?_
   rintro e w3 ⟨rfl,hs⟩
   have HS3:=Lib.hid (HS2.out.trans hs)
   have r_0:=keepC hs _ _ r_0
   have r_1:=keepC hs _ _ r_1
   have r_2:=keepC hs _ _ r_2
   have r_3:=keepC hs _ _ r_3
   clear hs HS2
   go_wp2_with fail
   go_roundw
   case rel=>exact⟨k+1,by omega,by go_num,HS3.out⟩
   case measure=>simp[intOf];omega
  ·obtain rfl:k=n:=by omega
   have hz:decide ((k:Int)<(k:Int))=false:=by rw[decide_eq_false_iff_not];omega
   go_wp2_with fail
   go_ret
   exact⟨rfl,HR.out⟩
end
end Go.Proofs.YtdnccjdlmepafaaGreat
