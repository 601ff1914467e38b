/-
  Walks of seg.place, seg.along, seg.Snap; A region that draws its order, in which new blocks are filled by stores of their own; walked once in the order of the text. Conditions: those that each lemma names.
-/
import Derived.Test.YtdnccjdlmepafaaGreatK08
import Derived.Test.YtdnccjdlmepafaaGreatK03
set_option linter.unusedSimpArgs false
set_option linter.unusedVariables false
set_option linter.constructorNameAsVariable false
namespace Go.Proofs.YtdnccjdlmepafaaGreat
section
open Go.RowKit Go.BigFrame
theorem place_s(x y:Int)(hx : -1048576≤x∧x≤1048576)(hy : -1048576≤y∧y≤1048576)(w:World) :
  Calls Tryz.prog 120 #[.agg #[.int .i64 x,.int .i64 y]] w fun e w' => e=.returned (.agg #[.int .i64 x,.int .i64 1,.int .i64 y,.int .i64 1])∧Since w w' := by
 have H1:Hid (∀ w,Calls Tryz.prog 149 #[.int .i64 x] w fun e w' => e=.returned (.agg #[.int .i64 x,.int .i64 1])∧Since w w'):=fun w=>Of_f x (by omega) w
 have H2:Hid (∀ w,Calls Tryz.prog 149 #[.int .i64 y] w fun e w' => e=.returned (.agg #[.int .i64 y,.int .i64 1])∧Since w w'):=fun w=>Of_f y (by omega) w
 go_enter Tryz.func120,Tryz.ntmps120
 go_upto_region 1 with fail
 obtain⟨G,HG⟩:∃ G,G=w.heap.size:=⟨_,rfl⟩
 rw[← HG]
 refine atW (fun w' => Since w w' ∧ Blk w' G 36 #[.int .i64 x,.int .i64 y]∧Blk w' (G+1) 124 #[.int .i64 0,.int .i64 0,.int .i64 0,.int .i64 0]) ⟨((Since.rfl_ w).alloc _).alloc _,(Blk.new' HG).alloc _,Blk.new' (by simp[HG])⟩ ?_
 rintro w1 ⟨hs,ba,bb⟩
 have HGG:=Lib.hid HG
 clear HG
 have KF:=Lib.hid (fun w' (h:Since w1 w')=>(show w'.cell? ⟨G,0,none⟩=some (.int .i64 x)∧w'.cell? ⟨G,1,none⟩=some (.int .i64 y) from⟨(h.blk ba).cell 0,(h.blk ba).cell 1⟩))
 have HW1:=Lib.hid (And.intro hs bb)
 clear hs ba bb
 apply region_facts 7 (fun w' => Since w1 w')
 case hm=>kernel_rfl
 case hB=>kernel_rfl
 case hS=>exact(Since.rfl_ w1).drew
 case h =>
 simp only[List.take_succ_cons,List.take_zero,List.drop_succ_cons,List.drop_zero]
 iterate 2 (apply wpO_det;(case hw=>rfl);(case h=>intro hFm wx hS_ hF_ K hK;go_big_quiet_op;first | exact hK _ rfl | (apply Exists.intro;refine⟨fun _=>?_,?_⟩;(focus (first | (intro hC;have hC:=KF.out _ hC.out.1;(try simp only[hC,Result.andThen]);first | exact⟨True.intro,rfl⟩ | exact⟨rfl,rfl⟩ | rfl)));exact hK _ rfl));(case' k=>simp only[Act.put,List.setIfInBounds_toArray,List.set_cons_succ,List.set_cons_zero,List.cons_append,List.nil_append]))
 (apply wpO_det;(case hw=>rfl);(case h=>intro hFm wx hS_ hF_ K hK;go_big_quiet_op;first | exact hK _ rfl | (apply Exists.intro;refine⟨fun _=>?_,?_⟩;(focus (first | (intro hC;go_at_call 149;refine(H1.out _).mono ?_;rintro e w' ⟨rfl,hb⟩;refine⟨rfl,?_⟩;exact cls_call hFm hC hb)));exact hK _ rfl));(case' k=>simp only[Act.put,List.setIfInBounds_toArray,List.set_cons_succ,List.set_cons_zero,List.cons_append,List.nil_append]))
 iterate 2 (apply wpO_det;(case hw=>rfl);(case h=>intro hFm wx hS_ hF_ K hK;go_big_quiet_op;first | exact hK _ rfl | (apply Exists.intro;refine⟨fun _=>?_,?_⟩;(focus (first | (intro hC;have hC:=KF.out _ hC.out.1;(try simp only[hC,Result.andThen]);first | exact⟨True.intro,rfl⟩ | exact⟨rfl,rfl⟩ | rfl)));exact hK _ rfl));(case' k=>simp only[Act.put,List.setIfInBounds_toArray,List.set_cons_succ,List.set_cons_zero,List.cons_append,List.nil_append]))
 (apply wpO_det;(case hw=>rfl);(case h=>intro hFm wx hS_ hF_ K hK;go_big_quiet_op;first | exact hK _ rfl | (apply Exists.intro;refine⟨fun _=>?_,?_⟩;(focus (first | (intro hC;go_at_call 149;refine(H2.out _).mono ?_;rintro e w' ⟨rfl,hb⟩;refine⟨rfl,?_⟩;exact cls_call hFm hC hb)));exact hK _ rfl));(case' k=>simp only[Act.put,List.setIfInBounds_toArray,List.set_cons_succ,List.set_cons_zero,List.cons_append,List.nil_append]))
 (apply wpO_det;(case hw=>rfl);(case h=>intro hFm wx hS_ hF_ K hK;go_big_quiet_op;first | exact hK _ rfl | (apply Exists.intro;refine⟨fun _=>?_,?_⟩;(focus (first | (intro hC;have hC:=KF.out _ hC.out.1;(try simp only[hC,Result.andThen]);first | exact⟨True.intro,rfl⟩ | exact⟨rfl,rfl⟩ | rfl)));exact hK _ rfl));(case' k=>simp only[Act.put,List.setIfInBounds_toArray,List.set_cons_succ,List.set_cons_zero,List.cons_append,List.nil_append]))
 refine wpO_nil ?_
 intro w2 hS hF hB
 (try simp[allF] at hF)
 (try simp[List.pairwise_cons] at hB)
 have hb:=hS.blk HW1.out.2
 have HW2:=Lib.hid (HW1.out.1.trans hS)
 have r_0:=hb.cell 0
 have r_1:=hb.cell 1
 have r_2:=hb.cell 2
 have r_3:=hb.cell 3
 simp only[List.getElem?_toArray,List.getElem?_cons_zero,List.getElem?_cons_succ] at r_0 r_1 r_2 r_3
 have f0:=hb.frozen 0
 have f1:=hb.frozen 1
 have f2:=hb.frozen 2
 have f3:=hb.frozen 3
 clear hS hF hB hb
 go_wp2_with fail
 refine bodyPost_ret (v:=.agg #[.int .i64 x,.int .i64 1,.int .i64 y,.int .i64 1]) (by simp[results,Tryz.results120,go_sem,cSetS,cSetO,cellDrew,r_0,r_1,r_2,r_3]) rfl ⟨rfl,?_⟩
 have hG:=HGG.out
 exact(((HW2.out.setCell (by dsimp only;omega) _).setCell (by dsimp only;omega) _).setCell (by dsimp only;omega) _).setCell (by dsimp only;omega) _
theorem Snap_s(xn xd yn yd:Int)(h1:FracOk xn xd)(h2:FracOk yn yd)(w:World) :
  Calls Tryz.prog 101 #[.agg #[.int .i64 xn,.int .i64 xd,.int .i64 yn,.int .i64 yd]] w fun e w' => e=.returned (.agg #[.int .i64 (clampI (rndF xn xd)),.int .i64 (clampI (rndF yn yd))])∧Since w w' := by
 have H1:=Lib.hid (fun w=>Round_f xn xd h1 w)
 have H2:=Lib.hid (fun w=>Round_f yn yd h2 w)
 have H3:=Lib.hid (fun w=>Clamp_any (rndF xn xd) (rndF yn yd) w)
 obtain⟨rx,HX⟩:∃ a,Hid (a=rndF xn xd):=⟨_,rfl⟩
 obtain⟨ry,HY⟩:∃ a,Hid (a=rndF yn yd):=⟨_,rfl⟩
 rw[← HX.out,← HY.out] at H3
 rw[← HX.out] at H1
 rw[← HY.out] at H2
 rw[← HX.out,← HY.out]
 obtain⟨cx,HCX⟩:∃ a,Hid (a=clampI rx):=⟨_,rfl⟩
 obtain⟨cy,HCY⟩:∃ a,Hid (a=clampI ry):=⟨_,rfl⟩
 rw[← HCX.out,← HCY.out] at H3 ⊢
 clear h1 h2
 go_enter Tryz.func101,Tryz.ntmps101
 go_upto_region 1 with fail
 obtain⟨G,HG⟩:∃ G,G=w.heap.size:=⟨_,rfl⟩
 rw[← HG]
 refine atW (fun w' => Since w w' ∧ Blk w' G 124 #[.int .i64 xn,.int .i64 xd,.int .i64 yn,.int .i64 yd]∧Blk w' (G+1) 36 #[.int .i64 0,.int .i64 0]) ⟨((Since.rfl_ w).alloc _).alloc _,(Blk.new' HG).alloc _,Blk.new' (by simp[HG])⟩ ?_
 rintro w1 ⟨hs,ba,bb⟩
 have HGG:=Lib.hid HG
 clear HG
 have KF:=Lib.hid (fun w' (h:Since w1 w')=>(show w'.cell? ⟨G,0,none⟩=some (.int .i64 xn)∧w'.cell? ⟨G,1,none⟩=some (.int .i64 xd)∧w'.cell? ⟨G,2,none⟩=some (.int .i64 yn)∧w'.cell? ⟨G,3,none⟩=some (.int .i64 yd) from⟨(h.blk ba).cell 0,(h.blk ba).cell 1,(h.blk ba).cell 2,(h.blk ba).cell 3⟩))
 have HW1:=Lib.hid (And.intro hs bb)
 clear hs ba bb
 apply region_facts 8 (fun w' => Since w1 w')
 case hm=>kernel_rfl
 case hB=>kernel_rfl
 case hS=>exact(Since.rfl_ w1).drew
 case h =>
 simp only[List.take_succ_cons,List.take_zero,List.drop_succ_cons,List.drop_zero]
 iterate 2 (apply wpO_det;(case hw=>rfl);(case h=>intro hFm wx hS_ hF_ K hK;go_big_quiet_op;first | exact hK _ rfl | (apply Exists.intro;refine⟨fun _=>?_,?_⟩;(focus (first | (intro hC;have hC:=KF.out _ hC.out.1;(try simp only[hC,Result.andThen]);first | exact⟨True.intro,rfl⟩ | exact⟨rfl,rfl⟩ | rfl)));exact hK _ rfl));(case' k=>simp only[Act.put,List.setIfInBounds_toArray,List.set_cons_succ,List.set_cons_zero,List.cons_append,List.nil_append]))
 (apply wpO_det;(case hw=>rfl);(case h=>intro hFm wx hS_ hF_ K hK;go_big_quiet_op;first | exact hK _ rfl | (apply Exists.intro;refine⟨fun _=>?_,?_⟩;(focus (first | (intro hC;go_at_call 122;refine(H1.out _).mono ?_;rintro e w' ⟨rfl,hb⟩;refine⟨rfl,?_⟩;exact cls_call hFm hC hb)));exact hK _ rfl));(case' k=>simp only[Act.put,List.setIfInBounds_toArray,List.set_cons_succ,List.set_cons_zero,List.cons_append,List.nil_append]))
 iterate 2 (apply wpO_det;(case hw=>rfl);(case h=>intro hFm wx hS_ hF_ K hK;go_big_quiet_op;first | exact hK _ rfl | (apply Exists.intro;refine⟨fun _=>?_,?_⟩;(focus (first | (intro hC;have hC:=KF.out _ hC.out.1;(try simp only[hC,Result.andThen]);first | exact⟨True.intro,rfl⟩ | exact⟨rfl,rfl⟩ | rfl)));exact hK _ rfl));(case' k=>simp only[Act.put,List.setIfInBounds_toArray,List.set_cons_succ,List.set_cons_zero,List.cons_append,List.nil_append]))
 (apply wpO_det;(case hw=>rfl);(case h=>intro hFm wx hS_ hF_ K hK;go_big_quiet_op;first | exact hK _ rfl | (apply Exists.intro;refine⟨fun _=>?_,?_⟩;(focus (first | (intro hC;go_at_call 122;refine(H2.out _).mono ?_;rintro e w' ⟨rfl,hb⟩;refine⟨rfl,?_⟩;exact cls_call hFm hC hb)));exact hK _ rfl));(case' k=>simp only[Act.put,List.setIfInBounds_toArray,List.set_cons_succ,List.set_cons_zero,List.cons_append,List.nil_append]))
 (apply wpO_det;(case hw=>rfl);(case h=>intro hFm wx hS_ hF_ K hK;go_big_quiet_op;first | exact hK _ rfl | (apply Exists.intro;refine⟨fun _=>?_,?_⟩;(focus (first | (intro hC;have hC:=KF.out _ hC.out.1;(try simp only[hC,Result.andThen]);first | exact⟨True.intro,rfl⟩ | exact⟨rfl,rfl⟩ | rfl)));exact hK _ rfl));(case' k=>simp only[Act.put,List.setIfInBounds_toArray,List.set_cons_succ,List.set_cons_zero,List.cons_append,List.nil_append]))
 (apply wpO_det;(case hw=>rfl);(case h=>intro hFm wx hS_ hF_ K hK;go_big_quiet_op;first | exact hK _ rfl | (apply Exists.intro;refine⟨fun _=>?_,?_⟩;(focus (first | (intro hC;go_at_call 69;refine(H3.out _).mono ?_;rintro e w' ⟨rfl,hb⟩;refine⟨rfl,?_⟩;exact cls_call hFm hC hb)));exact hK _ rfl));(case' k=>simp only[Act.put,List.setIfInBounds_toArray,List.set_cons_succ,List.set_cons_zero,List.cons_append,List.nil_append]))
 refine wpO_nil ?_
 intro w2 hS hF hB
 (try simp[allF] at hF)
 (try simp[List.pairwise_cons] at hB)
 have hb:=hS.blk HW1.out.2
 have HW2:=Lib.hid (HW1.out.1.trans hS)
 have r0:w2.cell? ⟨G+1,0,none⟩=some (.int .i64 0):=hb.cell 0
 have r1:w2.cell? ⟨G+1,1,none⟩=some (.int .i64 0):=hb.cell 1
 have f0:=hb.frozen 0
 have f1:=hb.frozen 1
 clear hS hF hB hb
 go_wp2_with fail
 refine bodyPost_ret (v:=.agg #[.int .i64 cx,.int .i64 cy]) (by simp[results,Tryz.results101,go_sem,cSetS,cSetO,cellDrew,r0,r1]) rfl ⟨rfl,?_⟩
 have hG:=HGG.out
 exact(HW2.out.setCell (by dsimp only;omega) _).setCell (by dsimp only;omega) _
structure AlongM(fr way num den q r g p d s:Int):Prop where
 hg:g=(Nat.gcd r.toNat den.toNat:Int)
 hm : -1048577≤fr+q∧fr+q≤1048577
 hp:p=r/g
 hd:d=den/g
 pd:0≤p∧p<d
 dl:d≤8796093022208
 hs:s=(fr+q)*d+p
 sb : -9223372036854775808<s∧s≤9223372036854775807
 ok:FracOk p d
 val:s*den=(fr*den+way*num)*d
theorem along_math{fr way num den:Int}(hd:0<den∧den≤8796093022208)(hb : -(1048576*den)≤fr*den+way*num∧fr*den+way*num≤1048576*den) :
  ∃ g p d s,AlongM fr way num den (way*num/den) (way*num % den) g p d s:=by
 have m0:=Int.emod_nonneg (way*num) (show den≠0 by omega)
 have m1:=Int.emod_lt_of_pos (way*num) hd.1
 have dm:=Int.mul_ediv_add_emod (way*num) den
 generalize way*num/den=q at *
 generalize way*num % den=r at *
 obtain⟨gn,hgn⟩:∃ gn,gn=Nat.gcd r.toNat den.toNat:=⟨_,rfl⟩
 have gpos:0<gn:=by rw[hgn];exact Nat.gcd_pos_of_pos_right _ (by omega)
 obtain⟨pn,hpn⟩:gn∣r.toNat:=by rw[hgn];exact Nat.gcd_dvd_left _ _
 obtain⟨dn,hdn⟩:gn∣den.toNat:=by rw[hgn];exact Nat.gcd_dvd_right _ _
 have er:r=(gn:Int)*pn:=by rw[← Int.natCast_mul,← hpn];omega
 have ed:den=(gn:Int)*dn:=by rw[← Int.natCast_mul,← hdn];omega
 have dpos:0<dn:=by
  rcases Nat.eq_zero_or_pos dn with h | h
  ·rw[h] at ed;simp at ed;omega
  ·exact h
 have cop:Nat.gcd pn dn=1:=by
  have:Nat.gcd (gn*pn) (gn*dn)=gn*Nat.gcd pn dn:=Nat.gcd_mul_left _ _ _
  rw[← hpn,← hdn,← hgn] at this
  exact Nat.eq_of_mul_eq_mul_left gpos (by omega)
 have plt:pn<dn:=by
  have:gn*pn<gn*dn:=by rw[← hpn,← hdn];omega
  exact Nat.lt_of_mul_lt_mul_left this
 have dle:(dn:Int)≤den:=by
  have:1*dn≤gn*dn:=Nat.mul_le_mul_right dn gpos
  rw[← hdn] at this;omega
 -- the sum lies in the box
 have key:(fr+q)*den+r=fr*den+way*num:=by rw[← dm];grind
 have mb : -1048576≤fr+q∧fr+q≤1048576:=by
  constructor
  ·refine Classical.byContradiction fun hn=>?_
   have:=Int.mul_le_mul_of_nonneg_right (show fr+q ≤ -1048577 by omega) (show 0≤den by omega)
   omega
  ·refine Classical.byContradiction fun hn=>?_
   have:=Int.mul_le_mul_of_nonneg_right (show 1048577≤fr+q by omega) (show 0≤den by omega)
   omega
 have sb0 : -(1048576*(dn:Int))≤(fr+q)*dn+pn∧(fr+q)*dn+pn≤1048576*(dn:Int):=by
  have e:(gn:Int)*((fr+q)*dn+pn)=fr*den+way*num:=by rw[← key,ed,er];grind
  rw[← e,ed] at hb
  have gp:(0:Int)<gn:=by omega
  constructor
  ·refine Int.le_of_mul_le_mul_left ?_ gp
   have:(gn:Int) * -(1048576*(dn:Int)) = -(1048576*((gn:Int)*dn)):=by grind
   omega
  ·refine Int.le_of_mul_le_mul_left ?_ gp
   have:(gn:Int)*(1048576*(dn:Int))=1048576*((gn:Int)*dn):=by grind
   omega
 have sb : -9223372036854775808<(fr+q)*dn+pn∧(fr+q)*dn+pn≤9223372036854775807:=by
  rcases Nat.eq_zero_or_pos pn with h0 | h0
  ·rw[h0,Nat.gcd_zero_left] at cop
   subst cop
   omega
  ·have a1:(fr+q)*dn≤1048575*dn∨fr+q=1048576:=by
    rcases Int.lt_or_le (fr+q) 1048576 with h | h
    ·exact .inl (Int.mul_le_mul_of_nonneg_right (by omega) (by omega))
    ·exact .inr (by omega)
   have a2 : -1048576*dn≤(fr+q)*(dn:Int):=Int.mul_le_mul_of_nonneg_right (by omega) (by omega)
   rcases a1 with a1 | a1
   ·omega
   ·rw[a1] at sb0;omega
 refine⟨gn,pn,dn,(fr+q)*dn+pn,by rw[hgn],by omega,?_,?_,⟨by omega,by omega⟩,by omega,rfl,sb,⟨by omega,by omega,by omega,by omega,by simpa using cop⟩,?_⟩
 ·rw[er,Int.mul_ediv_cancel_left _ (by omega)]
 ·rw[ed,Int.mul_ediv_cancel_left _ (by omega)]
 ·rw[← key,er]
  grind
end
section
open Go.RowKit Go.BigFrame
inductive SpecF where
 | det (c:Value)
 | mk (f:Nat→Value) (t:TypeId) (cs:Array Value)
 | mkf (f:Nat→Value) (t:TypeId) (cs:Array Value)
 | fill (j:Nat) (t:TypeId) (cs:Array Value)
 | any (R:Value→World→Prop)
def SpecF.shape:SpecF→Value→Prop
 | .det c,v=>v=c
 | .mk f _ _,v=>∃ g,v=f g
 | .mkf f _ _,v=>∃ g,v=f g
 | _,_=>True
def SpecF.fact(base:Nat)(Ts:List (Nat→Prop)):SpecF→Value→World→Prop
 | .det _,_,_=>True
 | .mk f t cs,v,w=>∃ g,v=f g∧Blk w g t cs∧base≤g
 | .mkf f t cs,v,w=>∃ g,v=f g∧(∃ cs',cs'.size=cs.size∧Blk w g t cs')∧base≤g
 | .fill j t cs,_,w=>∃ g,(Ts.getD j (fun _=>False)) g∧Blk w g t cs∧base≤g
 | .any R,v,w=>R v w
def SpecF.blk:SpecF→Value→Nat→Prop
 | .mk f _ _,v,g=>v=f g
 | .mkf f _ _,v,g=>v=f g
 | _,_,_=>False
def SpecF.tgt:SpecF→Value→Nat→Prop
 | .mkf f _ _,v,g=>v=f g
 | _,_,_=>False
def SpecF.mono(base:Nat)(Js:List Nat):SpecF→Prop
 | .any R=>∀ v w w',R v w→Below base w w' → R v w'
 | .mk f _ _=>∀ g g',f g=f g' → g=g'
 | .mkf f _ _=>∀ g g',f g=f g' → g=g'
 | .fill j _ _=>¬ j∈Js
 | _=>True
def SpecF.js:SpecF→List Nat
 | .fill j _ _=>[j]
 | _=>[]
def SpecF.asks(P:Program)(ops:Array Oper)(S:World→Prop)(o:Oper)(a:Act)(F:World→Prop)(Ts:List (Nat→Prop))(base:Nat):SpecF→Prop
 | .det c=>if Region.wanted o (yielded ops a.tmps)=true then(∀ w w',F w→Since w w' → base≤w.heap.size→F w')→∀ wx,S wx→F wx→base≤wx.heap.size→o.quiet P a (Cls fun w' => S w' ∧ F w' ∧ Since wx w') (fun a' => a' = a.put o.dst c) else c=undef
 | .mk f t cs=>Region.wanted o (yielded ops a.tmps)=true∧∀ w,(execOp a.eval o).run P w=.ok (.value (f w.heap.size)) (w.alloc (.cells cs t))
 | .mkf f t cs=>Region.wanted o (yielded ops a.tmps)=true∧∀ w,(execOp a.eval o).run P w=.ok (.value (f w.heap.size)) (w.alloc (.cells cs t))
 | .fill j t cs=>Region.wanted o (yielded ops a.tmps)=true∧o.dst=none∧j∈pres o∧∀ w,S w→F w→∃ g w' cs',(Ts.getD j (fun _=>False)) g∧base≤g∧Blk w g t cs' ∧ cs'.size=cs.size∧(execOp a.eval o).run P w=.ok .skip w' ∧ Only g w w' ∧ Blk w' g t cs
 | .any R=>Region.wanted o (yielded ops a.tmps)=true∧∀ w,S w→F w→runV P o a w fun v w' => R v w' ∧ Since w w'
def wpOF(P:Program)(ops:Array Oper)(S:World→Prop)(base:Nat)(K:Act→World→Prop):List Oper→List SpecF→List (World→Prop)→List (Nat→Prop)→List (Nat→Prop)→List Nat→Act→Prop
 | [],[],Fs,Bs,_,_,a=>∀ w,S w→allF Fs w→Bs.Pairwise (fun p q=>∀ g g',p g→q g' → g≠g')→K a w
 | o :: l,s :: ss,Fs,Bs,Ts,Js,a=>s.mono base Js∧s.asks P ops S o a (factsOf Fs (pres o)) Ts base∧∀ v,s.shape v→wpOF P ops S base K l ss (Fs++[s.fact base Ts v]) (Bs++[s.blk v]) (Ts++[s.tgt v]) (Js++s.js) (a.put o.dst v)
 | _,_,_,_,_,_,_=>False
def tgtL:List SpecF→List Value→List (Nat→Prop)
 | s :: ss,v :: vs=>s.tgt v :: tgtL ss vs
 | _,_=>[]
def jsL:List SpecF→List Nat
 | s :: ss=>s.js++jsL ss
 | []=>[]
def factLF(base:Nat):List (Nat→Prop)→List SpecF→List Value→List (World→Prop)
 | Ts,s :: ss,v :: vs=>s.fact base Ts v :: factLF base (Ts++[s.tgt v]) ss vs
 | _,_,_=>[]
def blkLF:List SpecF→List Value→List (Nat→Prop)
 | s :: ss,v :: vs=>s.blk v :: blkLF ss vs
 | _,_=>[]
def shapeLF:List SpecF→List Value→Prop
 | s :: ss,v :: vs=>s.shape v∧shapeLF ss vs
 | [],[]=>True
 | _,_=>False
section
variable {P : Program} {ops : Array Oper} {S : World → Prop} {base : Nat} {K : Act → World → Prop}
theorem shapeLF_len:∀ {ss:List SpecF} {vs:List Value},shapeLF ss vs→ss.length=vs.length
 | [],[],_=>rfl
 | _ :: _,_ :: _,h=>by simp[shapeLF_len h.2]
 | [],_ :: _,h=>h.elim
 | _ :: _,[],h=>h.elim
theorem wpOF_len:∀ {l:List Oper} {ss:List SpecF} {Fs:List (World→Prop)} {Bs Ts:List (Nat→Prop)} {Js:List Nat} {a:Act} {vs:List Value},wpOF P ops S base K l ss Fs Bs Ts Js a→shapeLF ss vs→l.length=ss.length
 | [],[],_,_,_,_,_,_,_,_=>rfl
 | o :: l,s :: ss,Fs,Bs,Ts,Js,a,v :: vs,h,hs=>by simp[wpOF_len (h.2.2 v hs.1) hs.2]
 | [],_ :: _,_,_,_,_,_,_,h,_=>by unfold wpOF at h;exact h.elim
 | _ :: _,[],_,_,_,_,_,_,h,_=>by unfold wpOF at h;exact h.elim
 | _ :: _,_ :: _,_,_,_,_,_,[],_,hs=>hs.elim
theorem wpOF_get:∀ {l:List Oper} {ss:List SpecF} {Fs:List (World→Prop)} {Bs Ts:List (Nat→Prop)} {Js:List Nat} {a:Act} {vs:List Value},wpOF P ops S base K l ss Fs Bs Ts Js a→shapeLF ss vs →
  ∀ (i:Nat) (o:Oper) (s:SpecF),l[i]? = some o→ss[i]? = some s→s.mono base (Js++jsL (ss.take i))∧s.asks P ops S o (fr (l.take i) (vs.take i) a) (factsOf (Fs++factLF base Ts (ss.take i) (vs.take i)) (pres o)) (Ts++tgtL (ss.take i) (vs.take i)) base
 | o :: l,s :: ss,Fs,Bs,Ts,Js,a,v :: vs,h,hs,0,o',s',ho,hs' => by
  simp at ho hs'
  subst ho hs'
  simpa[fr,factLF,tgtL,jsL] using ⟨h.1,h.2.1⟩
 | o :: l,s :: ss,Fs,Bs,Ts,Js,a,v :: vs,h,hs,i+1,o',s',ho,hs' => by
  simp at ho hs'
  have:=wpOF_get (h.2.2 v hs.1) hs.2 i o' s' ho hs'
  simpa[fr,factLF,tgtL,jsL] using this
 | [],_,_,_,_,_,_,_,_,_,_,_,_,ho,_=>by simp at ho
 | _ :: _,[],_,_,_,_,_,_,h,_,_,_,_,_,_=>by unfold wpOF at h;exact h.elim
 | _ :: _,_ :: _,_,_,_,_,_,[],_,hs,_,_,_,_,_=>hs.elim
theorem wpOF_fin:∀ {l:List Oper} {ss:List SpecF} {Fs:List (World→Prop)} {Bs Ts:List (Nat→Prop)} {Js:List Nat} {a:Act} {vs:List Value},wpOF P ops S base K l ss Fs Bs Ts Js a→shapeLF ss vs →
  ∀ w,S w→allF (Fs++factLF base Ts ss vs) w→(Bs++blkLF ss vs).Pairwise (fun p q=>∀ g g',p g→q g' → g≠g')→K (fr l vs a) w
 | [],[],Fs,Bs,Ts,Js,a,[],h,_,w,hw,hf,hb=>by
  unfold wpOF at h
  exact h w hw (by simpa[factLF] using hf) (by simpa[blkLF] using hb)
 | o :: l,s :: ss,Fs,Bs,Ts,Js,a,v :: vs,h,hs,w,hw,hf,hb=>wpOF_fin (h.2.2 v hs.1) hs.2 w hw (by simpa[factLF] using hf) (by simpa[blkLF] using hb)
 | [],_ :: _,_,_,_,_,_,_,h,_,_,_,_,_=>by unfold wpOF at h;exact h.elim
 | _ :: _,[],_,_,_,_,_,_,h,_,_,_,_,_=>by unfold wpOF at h;exact h.elim
 | [],[],_,_,_,_,_,_ :: _,_,hs,_,_,_,_=>hs.elim
 | _ :: _,_ :: _,_,_,_,_,_,[],_,hs,_,_,_,_=>hs.elim
theorem tgtL_get:∀ {ss:List SpecF} {vs:List Value} {j g:Nat},((tgtL ss vs).getD j (fun _=>False)) g→∃ f t cs v,ss[j]? = some (.mkf f t cs)∧vs[j]? = some v∧v=f g
 | s :: ss,v :: vs,0,g,h=>by
  have h:s.tgt v g:=by simpa[tgtL] using h
  cases s with
  | mkf f t cs=>exact⟨f,t,cs,v,rfl,rfl,h⟩
  | _=>exact h.elim
 | s :: ss,v :: vs,j+1,g,h=>by
  have h:((tgtL ss vs).getD j (fun _=>False)) g:=by simpa[tgtL] using h
  obtain⟨f,t,cs,v',h1,h2,h3⟩:=tgtL_get h
  exact⟨f,t,cs,v',by simpa using h1,by simpa using h2,h3⟩
 | [],_,_,_,h=>by simp[tgtL] at h
 | _ :: _,[],_,_,h=>by simp[tgtL] at h
theorem tgtL_mk:∀ {ss:List SpecF} {vs:List Value} {j g:Nat} {f:Nat→Value} {t:TypeId} {cs:Array Value} {v:Value},ss[j]? = some (.mkf f t cs)→vs[j]? = some v→v=f g→((tgtL ss vs).getD j (fun _=>False)) g
 | s :: ss,v :: vs,0,g,f,t,cs,v',h1,h2,h3=>by
  simp at h1 h2;subst h1 h2
  simpa[tgtL,SpecF.tgt] using h3
 | s :: ss,v :: vs,j+1,g,f,t,cs,v',h1,h2,h3=>by
  have:=tgtL_mk (ss:=ss) (vs:=vs) (j:=j) (g:=g) (by simpa using h1) (by simpa using h2) h3
  simpa[tgtL] using this
 | [],_,_,_,_,_,_,_,h,_,_=>by simp at h
 | _ :: _,[],_,_,_,_,_,_,_,h,_=>by simp at h
theorem SpecF.fact_of{s:SpecF}{Ts Ts' : List (Nat→Prop)}{v:Value}{w:World}(h:s.fact base Ts v w)(k:∀ j∈s.js,∀ g,(Ts.getD j (fun _=>False)) g→(Ts'.getD j (fun _=>False)) g):s.fact base Ts' v w:=by
 cases s with
 | fill j t cs =>
  obtain⟨g,h1,h2⟩:=h
  exact⟨g,k j (by simp[SpecF.js]) g h1,h2⟩
 | _=>exact h
theorem factLF_get:∀ {ss:List SpecF} {vs:List Value} {Ts:List (Nat→Prop)} {j:Nat} {F:World→Prop},(factLF base Ts ss vs)[j]? = some F→∃ s v,ss[j]? = some s∧vs[j]? = some v∧F=s.fact base (Ts++tgtL (ss.take j) (vs.take j)) v
 | s :: ss,v :: vs,Ts,0,F,h=>by
  simp[factLF] at h
  exact⟨s,v,rfl,rfl,by simp[tgtL,h]⟩
 | s :: ss,v :: vs,Ts,j+1,F,h=>by
  simp only[factLF,List.getElem?_cons_succ] at h
  obtain⟨s',v',h1,h2,h3⟩:=factLF_get h
  exact⟨s',v',by simpa using h1,by simpa using h2,by simpa[tgtL] using h3⟩
 | [],_,_,_,_,h=>by simp[factLF] at h
 | _ :: _,[],_,_,_,h=>by simp[factLF] at h
theorem allF_mkF{w:World}:∀ {ss:List SpecF} {vs:List Value} {Ts:List (Nat→Prop)},(∀ (j:Nat) s v,ss[j]? = some s→vs[j]? = some v→s.fact base (Ts++tgtL (ss.take j) (vs.take j)) v w)→allF (factLF base Ts ss vs) w
 | s :: ss,v :: vs,Ts,h=>⟨by simpa[tgtL] using h 0 s v rfl rfl,allF_mkF fun j s' v' hs hv=>by simpa[tgtL] using h (j+1) s' v' (by simpa using hs) (by simpa using hv)⟩
 | [],_,_,_=>by simp[factLF,allF]
 | _ :: _,[],_,_=>by simp[factLF,allF]
theorem shapeLF_set:∀ {ss:List SpecF} {vs:List Value} {i:Nat} {s:SpecF} {v:Value},shapeLF ss vs→ss[i]? = some s→s.shape v→shapeLF ss (vs.set i v)
 | s :: ss,u :: vs,0,s',v,h,hs,hv=>by
  simp at hs;subst hs
  exact⟨hv,h.2⟩
 | s :: ss,u :: vs,i+1,s',v,h,hs,hv=>⟨h.1,shapeLF_set h.2 (by simpa using hs) hv⟩
 | [],[],i,s',v,h,hs,hv=>by simp at hs
 | [],_ :: _,_,_,_,h,_,_=>h.elim
 | _ :: _,[],_,_,_,h,_,_=>h.elim
theorem shapeLF_some:∀ ss:List SpecF,∃ vs,shapeLF ss vs
 | []=>⟨[],trivial⟩
 | s :: ss=>by
  obtain⟨vs,h⟩:=shapeLF_some ss
  cases s with
  | det c=>exact⟨c :: vs,rfl,h⟩
  | mk f t cs=>exact⟨f 0 :: vs,⟨0,rfl⟩,h⟩
  | mkf f t cs=>exact⟨f 0 :: vs,⟨0,rfl⟩,h⟩
  | fill j t cs=>exact⟨undef :: vs,trivial,h⟩
  | any R=>exact⟨undef :: vs,trivial,h⟩
theorem blkLF_mem{p:Nat→Prop}:∀ {ss:List SpecF} {vs:List Value},p∈blkLF ss vs→∃ (k:Nat) (s:SpecF) (v:Value),ss[k]? = some s∧vs[k]? = some v∧p=s.blk v
 | s :: ss,v :: vs,h=>by
  simp only[blkLF,List.mem_cons] at h
  rcases h with h | h
  ·exact⟨0,s,v,rfl,rfl,h⟩
  ·obtain⟨k,s',v',h1,h2,h3⟩:=blkLF_mem h
   exact⟨k+1,s',v',by simpa using h1,by simpa using h2,h3⟩
 | [],_,h=>by simp[blkLF] at h
 | _ :: _,[],h=>by simp[blkLF] at h
theorem blkLF_pair:∀ {ss:List SpecF} {vs:List Value},(∀ (j k:Nat) s s' v v',j<k→ss[j]? = some s→ss[k]? = some s' → vs[j]? = some v→vs[k]? = some v' → ∀ g g',s.blk v g→s'.blk v' g' → g≠g') →
  (blkLF ss vs).Pairwise (fun p q=>∀ g g',p g→q g' → g≠g')
 | s :: ss,v :: vs,h=>by
  refine List.pairwise_cons.2 ⟨fun q hq g g' hg hg' => ?_,blkLF_pair fun j k s1 s2 v1 v2 hjk h1 h2 h3 h4=>h (j+1) (k+1) s1 s2 v1 v2 (by omega) (by simpa using h1) (by simpa using h2) (by simpa using h3) (by simpa using h4)⟩
  obtain⟨k,s',v',h1,h2,rfl⟩:=blkLF_mem hq
  exact h 0 (k+1) s s' v v' (by omega) rfl (by simpa using h1) rfl (by simpa using h2) g g' hg hg'
 | [],_,_=>by simp[blkLF]
 | _ :: _,[],_=>by simp[blkLF]
theorem jsL_get:∀ {ss:List SpecF} {i j:Nat} {t:TypeId} {cs:Array Value},ss[i]? = some (.fill j t cs)→j∈jsL ss
 | s :: ss,0,j,t,cs,h=>by simp at h;subst h;simp[jsL,SpecF.js]
 | s :: ss,i+1,j,t,cs,h=>by simp only[jsL,List.mem_append];exact .inr (jsL_get (i:=i) (t:=t) (cs:=cs) (by simpa using h))
 | [],_,_,_,_,h=>by simp at h
structure HdF(P:Program)(ops:Array Oper)(S:World→Prop)(base n:Nat)(ss:List SpecF)(a0:Act)(listed:Array Bool)(a:Act)(w:World)(vs:List Value):Prop where
 len:vs.length=n
 shape:shapeLF ss vs
 defs:a.defers=a0.defers
 siz:a.tmps.size=a0.tmps.size
 out:∀ t:Nat,(∀ (j:Nat) o,j<n→ops[j]? = some o→listed.getD j false=true→o.dst≠some t)→a.tmps[t]? = a0.tmps[t]?
 inn:∀ (j:Nat) o (t:Nat),j<n→ops[j]? = some o→listed.getD j false=true→o.dst=some t→t<a0.tmps.size→a.tmps[t]? = vs[j]?
 fact:∀ (j:Nat) s v,j<n→listed.getD j false=true→ss[j]? = some s→vs[j]? = some v→s.fact base (tgtL ss vs) v w
 dis:∀ (j k:Nat) s s' v v',j<k→listed.getD j false=true→listed.getD k false=true→ss[j]? = some s→ss[k]? = some s' → vs[j]? = some v→vs[k]? = some v' → ∀ g g',s.blk v g→s'.blk v' g' → g≠g'
 cls:S w
 bas:base≤w.heap.size
 tl:∀ (i j:Nat) t cs,listed.getD i false=true→ss[i]? = some (.fill j t cs)→listed.getD j false=true
theorem HdF.sees{n i:Nat}{ss:List SpecF}{a0 a:Act}{listed:Array Bool}{w:World}{vs:List Value}{o:Oper}(h:HdF P ops S base n ss a0 listed a w vs)(hB:Region.looksB ops n=true)(hi:i<n)(ho:ops[i]? = some o)
  (hr:∀ e∈o.after,Region.binds .any e=true→listed.getD e.on false=true):∀ t∈o.looksAt ops,a.tmps[t]? = (fr (ops.toList.take i) (vs.take i) a0).tmps[t]? := by
 intro t ht
 obtain⟨-,hl⟩:=looksB_spec hB hi ho
 by_cases hex:∃ (j:Nat) (oj:Oper),j<n∧ops[j]? = some oj∧oj.dst=some t
 ·obtain⟨j,oj,hj,hoj,hd⟩:=hex
  obtain⟨hji,hp⟩:=(hl j oj t hj hoj hd).2 ht
  have hlj:listed.getD j false=true:=by
   unfold pres at hp
   obtain⟨e,he,rfl⟩:=List.mem_map.1 hp
   rw[List.mem_filter] at he
   exact hr e (by simpa using he.1) he.2
  have huniq:∀ (k:Nat) o',k≠j→(ops.toList.take i)[k]? = some o' → o'.dst≠some t:=fun k o' hk hko hd' => by
   obtain⟨hki,hko'⟩:=take_some hko
   obtain⟨-,hlk⟩:=looksB_spec hB (show k<n by omega) (by simpa using hko')
   exact(hlk j oj t hj hoj hd).1 (Ne.symm hk) hd'
  rcases Nat.lt_or_ge t a0.tmps.size with hlt | hge
  ·rw[h.inn j oj t hj hoj hlj hd hlt,fr_in _ _ a0 t j oj (by rw[take_get hji];simpa using hoj) (by rw[List.length_take,h.len];omega) hd huniq hlt,take_get hji]
  ·rw[Array.getElem?_eq_none (by rw[h.siz];exact hge),Array.getElem?_eq_none (by rw[fr_size];exact hge)]
 ·rw[h.out t fun j oj hj hoj _ hd=>hex ⟨j,oj,hj,hoj,hd⟩,fr_out _ _ a0 t fun j oj hoj hd=>?_]
  obtain⟨hji,hoj'⟩:=take_some hoj
  exact hex ⟨j,oj,by omega,by simpa using hoj',hd⟩
theorem lt_of_shape{n:Nat}{ss:List SpecF}{vs:List Value}(h:shapeLF ss vs)(hl:vs.length=n){j:Nat}{s:SpecF}(hj:ss[j]? = some s):j<n:=by
 have h1:=(List.getElem?_eq_some_iff.1 hj).1
 have h2:=shapeLF_len h
 omega
theorem inj_of{s:SpecF}{Js:List Nat}(h:s.mono base Js){v:Value}{g g' : Nat}(h1:s.blk v g)(h2:s.blk v g'):g=g' := by
 cases s with
 | mk f t cs=>exact h g g' (h1.symm.trans h2)
 | mkf f t cs=>exact h g g' (h1.symm.trans h2)
 | _=>exact h1.elim
theorem HdF.step{n i:Nat}{ss:List SpecF}{a0 a:Act}{listed:Array Bool}{w w' : World}{vs:List Value}{o:Oper}{s:SpecF}{v:Value}(h:HdF P ops S base n ss a0 listed a w vs)(hB:Region.looksB ops n=true)(hn:n≤ops.size)(hsz:listed.size=ops.size)
  (hi:i<n) (hui:listed.getD i false=false) (ho:ops[i]? = some o) (hs:ss[i]? = some s) (hm:∀ (j:Nat) s,ss[j]? = some s→s.mono base (jsL (ss.take j))) (hsh:shapeLF ss (vs.set i v)) (hf:s.fact base (tgtL ss vs) v w') (hw:Below base w w') (hc:S w') (hz:w.heap.size≤w'.heap.size) (hd:∀ g,s.blk v g→w.heap.size≤g)
  (htl:∀ j t cs,s=.fill j t cs→listed.getD j false=true)
  (hp:(∀ g t cs,Blk w g t cs→Blk w' g t cs)∨∃ k t cs g f t0 cs0 v0,s=.fill k t cs∧ss[k]? = some (.mkf f t0 cs0)∧vs[k]? = some v0∧v0=f g∧Only g w w' ∧ (SpecF.mkf f t0 cs0).fact base [] v0 w') :
  HdF P ops S base n ss a0 (listed.setIfInBounds i true) (a.put o.dst v) w' (vs.set i v):=by
 have hil:i<listed.size:=by omega
 have hiv:i<vs.length:=by rw[h.len];exact hi
 obtain⟨-,hl⟩:=looksB_spec hB hi ho
 have below:∀ (j:Nat) s' v',listed.getD j false=true→j<n→ss[j]? = some s' → vs[j]? = some v' → ∀ g,s'.blk v' g→g<w.heap.size:=by
  intro j s' v' hlj hj hsj hvj g hg
  have hf:=h.fact j s' v' hj hlj hsj hvj
  cases s' with
  | det c=>exact hg.elim
  | any R=>exact hg.elim
  | fill j t cs=>exact hg.elim
  | mk f t cs =>
   obtain⟨g',e,hb,-⟩:=hf
   have:g' = g:=inj_of (hm j _ hsj) (v:=v') e hg
   subst this
   exact hb.lt
  | mkf f t cs =>
   obtain⟨g',e,⟨cs',-,hb⟩,-⟩:=hf
   have:g' = g:=inj_of (hm j _ hsj) (v:=v') e hg
   subst this
   exact hb.lt
 have hdis:∀ (j k:Nat) s1 s2 v1 v2,j≠k→listed.getD j false=true→listed.getD k false=true→ss[j]? = some s1→ss[k]? = some s2→vs[j]? = some v1→vs[k]? = some v2→∀ g,s1.blk v1 g→¬ s2.blk v2 g:=by
  intro j k s1 s2 v1 v2 hne hlj hlk h1 h2 hv1 hv2 g hg hg'
  rcases Nat.lt_or_gt_of_ne hne with hlt | hlt
  ·exact h.dis j k s1 s2 v1 v2 hlt hlj hlk h1 h2 hv1 hv2 g g hg hg' rfl
  ·exact h.dis k j s2 s1 v2 v1 hlt hlk hlj h2 h1 hv2 hv1 g g hg' hg rfl
 have hsetT:∀ (j:Nat),j≠i→∀ g,((tgtL ss vs).getD j (fun _=>False)) g→((tgtL ss (vs.set i v)).getD j (fun _=>False)) g:=by
  intro j hj g hg
  obtain⟨f,t,cs,v',h1,h2,h3⟩:=tgtL_get hg
  exact tgtL_mk h1 (by rw[List.getElem?_set_ne (Ne.symm hj)];exact h2) h3
 have keep:∀ (j:Nat) s' v',listed.getD j false=true→ss[j]? = some s' → vs[j]? = some v' → s'.fact base (tgtL ss vs) v' w' := by
  intro j s' v' hlj hsj hvj
  have hj:=lt_of_shape h.shape h.len hsj
  have hf0:=h.fact j s' v' hj hlj hsj hvj
  have hji:j≠i:=by rintro rfl;rw[hui] at hlj;cases hlj
  cases s' with
  | det c=>trivial
  | any R=>exact hm j _ hsj _ _ _ hf0 hw
  | mk f t cs =>
   obtain⟨g,e,hb,hg⟩:=hf0
   refine⟨g,e,?_,hg⟩
   rcases hp with hp | ⟨k,tk,ck,gk,fk,t0,c0,vk,hsk,hk1,hk2,hk3,hO,-⟩
   ·exact hp _ _ _ hb
   ·have hlk:=htl k tk ck hsk
    have hkj:j≠k:=by rintro rfl;rw[hsj] at hk1;cases hk1
    exact hO.blk hb (fun e' => hdis j k _ _ _ _ hkj hlj hlk hsj hk1 hvj hk2 g e (by rw[e'];exact hk3))
  | mkf f t cs =>
   obtain⟨g,e,⟨cs',hcs,hb⟩,hg⟩:=hf0
   rcases hp with hp | ⟨k,tk,ck,gk,fk,t0,c0,vk,hsk,hk1,hk2,hk3,hO,hkf⟩
   ·exact⟨g,e,⟨cs',hcs,hp _ _ _ hb⟩,hg⟩
   ·by_cases hkj:j=k
    ·subst hkj
     rw[hsj] at hk1
     rw[hvj] at hk2
     injection hk1 with hk1
     injection hk2 with hk2
     rw[hk1,hk2]
     exact hkf
    ·have hlk:=htl k tk ck hsk
     exact⟨g,e,⟨cs',hcs,hO.blk hb (fun e' => hdis j k _ _ _ _ hkj hlj hlk hsj hk1 hvj hk2 g e (by rw[e'];exact hk3))⟩,hg⟩
  | fill m t cs =>
   obtain⟨g,hTg,hb,hg⟩:=hf0
   refine⟨g,hTg,?_,hg⟩
   rcases hp with hp | ⟨k,tk,ck,gk,fk,t0,c0,vk,hsk,hk1,hk2,hk3,hO,hkf⟩
   ·exact hp _ _ _ hb
   ·have hlk:=htl k tk ck hsk
    obtain⟨f,t',cs',v'',h1,h2,h3⟩:=tgtL_get hTg
    have hmk:m≠k:=by
     rintro rfl
     subst hsk
     rcases Nat.lt_or_gt_of_ne hji with hlt | hlt
     ·have:=hm i _ hs
      exact this (jsL_get (i:=j) (t:=t) (cs:=cs) (by rw[take_get hlt];exact hsj))
     ·have:=hm j _ hsj
      exact this (jsL_get (i:=i) (t:=tk) (cs:=ck) (by rw[take_get hlt];exact hs))
    have hlm:=h.tl j m t cs hlj hsj
    exact hO.blk hb (fun e' => hdis m k _ _ _ _ hmk hlm hlk h1 hk1 h2 hk2 g h3 (by rw[e'];exact hk3))
 refine⟨by simpa using h.len,hsh,?_,?_,fun t ht=>?_,fun j oj t hj hoj hlj hdj hlt=>?_,fun j s' v' hj hlj hsj hvj=>?_,fun j k s1 s2 v1 v2 hjk hlj hlk h1 h2 hv1 hv2 g g' hg hg' => ?_,hc,Nat.le_trans h.bas hz,fun i' j t cs hli hsi=>?_⟩
 ·rw[← h.defs];cases e:o.dst <;> simp[Act.put]
 ·rw[← h.siz];cases e:o.dst <;> simp[Act.put]
 ·rw[put_out (ht i o hi ho (set_same hil))]
  refine h.out t fun j oj hj hoj hlj=>ht j oj hj hoj ?_
  exact getD_set_true hlj
 ·by_cases e:j=i
  ·subst e
   obtain rfl:oj=o:=Option.some.inj (hoj.symm.trans ho)
   rw[hdj,put_in (by rw[h.siz];exact hlt),List.getElem?_set_self hiv]
  ·rw[put_out ((hl j oj t hj hoj hdj).1 e),List.getElem?_set_ne (Ne.symm e)]
   rw[getD_set_ne false (Ne.symm e)] at hlj
   exact h.inn j oj t hj hoj hlj hdj hlt
 ·by_cases e:j=i
  ·subst e
   obtain rfl:s' = s:=Option.some.inj (hsj.symm.trans hs)
   rw[List.getElem?_set_self hiv] at hvj
   injection hvj with hvj
   subst hvj
   refine SpecF.fact_of hf fun m hm' g hg=>hsetT m ?_ g hg
   rintro rfl
   cases s' with
   | fill m' t cs =>
    simp[SpecF.js] at hm'
    subst hm'
    have:=htl _ _ _ rfl
    rw[hui] at this
    cases this
   | _=>simp[SpecF.js] at hm'
  ·rw[getD_set_ne false (Ne.symm e)] at hlj
   rw[List.getElem?_set_ne (Ne.symm e)] at hvj
   refine SpecF.fact_of (keep j s' v' hlj hsj hvj) fun m hm' g hg=>hsetT m ?_ g hg
   rintro rfl
   cases s' with
   | fill m' t cs =>
    simp[SpecF.js] at hm'
    subst hm'
    have:=h.tl _ _ _ _ hlj hsj
    rw[hui] at this
    cases this
   | _=>simp[SpecF.js] at hm'
 ·have hj:=lt_of_shape h.shape h.len h1
  have hk:=lt_of_shape h.shape h.len h2
  by_cases e:j=i
  ·subst e
   obtain rfl:s1=s:=Option.some.inj (h1.symm.trans hs)
   rw[List.getElem?_set_self hiv] at hv1
   injection hv1 with hv1
   subst hv1
   rw[getD_set_ne false (by omega)] at hlk
   rw[List.getElem?_set_ne (by omega)] at hv2
   have:=below k s2 v2 hlk hk h2 hv2 g' hg'
   have:=hd g hg
   omega
  ·by_cases e' : k=i
   ·subst e'
    obtain rfl:s2=s:=Option.some.inj (h2.symm.trans hs)
    rw[List.getElem?_set_self hiv] at hv2
    injection hv2 with hv2
    subst hv2
    rw[getD_set_ne false (by omega)] at hlj
    rw[List.getElem?_set_ne (by omega)] at hv1
    have:=below j s1 v1 hlj hj h1 hv1 g hg
    have:=hd g' hg'
    omega
   ·rw[getD_set_ne false (Ne.symm e)] at hlj
    rw[getD_set_ne false (Ne.symm e')] at hlk
    rw[List.getElem?_set_ne (Ne.symm e)] at hv1
    rw[List.getElem?_set_ne (Ne.symm e')] at hv2
    exact h.dis j k s1 s2 v1 v2 hjk hlj hlk h1 h2 hv1 hv2 g g' hg hg'
 ·by_cases e:i' = i
  ·subst e
   obtain rfl:s=_:=Option.some.inj (hs.symm.trans hsi)
   exact getD_set_true (htl _ _ _ rfl)
  ·rw[getD_set_ne false (Ne.symm e)] at hli
   exact getD_set_true (h.tl i' j t cs hli hsi)
theorem SpecF.keepS{s:SpecF}{Js:List Nat}(h:s.mono base Js){Ts:List (Nat→Prop)}{v:Value}{w w' : World}(hf:s.fact base Ts v w)(hs:Since w w')(hb:base≤w.heap.size):s.fact base Ts v w' := by
 cases s with
 | det c=>trivial
 | mk f t cs =>
  obtain⟨g,e,hb,hg⟩:=hf
  exact⟨g,e,hs.blk hb,hg⟩
 | mkf f t cs =>
  obtain⟨g,e,⟨cs',h1,hb⟩,hg⟩:=hf
  exact⟨g,e,⟨cs',h1,hs.blk hb⟩,hg⟩
 | fill j t cs =>
  obtain⟨g,e,hb,hg⟩:=hf
  exact⟨g,e,hs.blk hb,hg⟩
 | any R=>exact h _ _ _ hf (Below.mono hs hb)
theorem factsOf_keep'{Fs:List (World→Prop)}{w w' : World}(hm:∀ F∈Fs,F w→F w'):∀ {js:List Nat},factsOf Fs js w→factsOf Fs js w'
 | [],_=>trivial
 | j :: js,h=>⟨by
     have h1:=h.1
     cases e:Fs[j]? with
     | none=>simp[List.getD,e]
     | some F =>
      simp only[List.getD,e,Option.getD_some] at h1 ⊢
      exact hm F (List.mem_of_getElem? e) h1,factsOf_keep' hm h.2⟩
theorem facts_anyF{Q:Exit→Act→World→Prop}{n:Nat}{ss:List SpecF}{a0:Act}(hsel:Region.noSelect ops=true)(hn:n≤ops.size)(hsc:n=ops.size∨(Region.sinkB .any ops n=true∧Region.chainB .any ops n=true))(hB:Region.looksB ops n=true)
  (hseq:Region.seqB .any ops (ops.size-n) n (fullL ops.size n)=true) (hO:wpOF P ops S base (fun a w=>wpList P ops Q (ops.toList.drop n) a w) (ops.toList.take n) ss [] [] [] [] a0) (hsl:ss.length=n) (hmono:∀ w w',S w→Below base w w' → S w') :
  ∀ (f:Nat) (listed:Array Bool) (a:Act) (w:World) (vs:List Value),HeadInv .any ops n listed→cnt n listed=f→HdF P ops S base n ss a0 listed a w vs→wpAny P .any ops Q (f+(ops.size-n)) listed a w:=by
 have hgood:∀ (j:Nat) s,ss[j]? = some s→s.mono base (jsL (ss.take j)):=fun j s hj=>by
  obtain⟨vs,hvs⟩:=shapeLF_some ss
  have hjn:j<n:=by have:=(List.getElem?_eq_some_iff.1 hj).1;omega
  have hjo:j<ops.toList.length:=by simp;omega
  simpa using (wpOF_get hO hvs j (ops.toList[j]) s (by rw[take_get hjn];exact List.getElem?_eq_getElem hjo) hj).1
 intro f
 induction f with
 | zero =>
  intro listed a w vs inv hc h
  have hall:∀ i,i<n→listed.getD i true=true:=fun i hi=>by
   cases e:listed.getD i true with
   | true=>rfl
   | false=>have:=cnt_pos hi e;omega
  have hall' : ∀ i,i<n→listed.getD i false=true:=fun i hi=>by
   have:=hall i hi
   have hlt:i<listed.size:=by rw[inv.size];omega
   simpa[hlt] using this
  have hfin:=wpOF_fin hO h.shape w h.cls (by
   rw[List.nil_append]
   exact allF_mkF fun j s v hs hv=>by
    have hjn:j<n:=by have:=(List.getElem?_eq_some_iff.1 hs).1;omega
    refine SpecF.fact_of (h.fact j s v hjn (hall' j hjn) hs hv) fun m hm g hg=>?_
    rw[List.nil_append]
    obtain⟨f,t,cs,v',h1,h2,h3⟩:=tgtL_get hg
    have hmj:m<j:=by
     cases s with
     | fill m' t' cs' =>
      simp[SpecF.js] at hm
      subst hm
      have hjo:j<ops.toList.length:=by simp;omega
      have ha:=(wpOF_get hO h.shape j (ops.toList[j]) _ (by rw[take_get hjn];exact List.getElem?_eq_getElem hjo) hs).2
      have hp:=ha.2.2.1
      unfold pres at hp
      obtain⟨e,he,rfl⟩:=List.mem_map.1 hp
      rw[List.mem_filter] at he
      exact(looksB_spec hB hjn (o:=ops.toList[j]) (by rw[← Array.getElem?_toList];exact List.getElem?_eq_getElem hjo)).1 e (by simpa using he.1) he.2
     | _=>exact(List.not_mem_nil (show m∈([]:List Nat) from hm)).elim
    exact tgtL_mk (by rw[take_get hmj];exact h1) (by rw[take_get hmj];exact h2) h3) (by
   rw[List.nil_append]
   exact blkLF_pair fun j k s s' v v' hjk h1 h2 h3 h4=>h.dis j k s s' v v' hjk (hall' j (by have:=(List.getElem?_eq_some_iff.1 h1).1;omega)) (hall' k (by have:=(List.getElem?_eq_some_iff.1 h2).1;omega)) h1 h2 h3 h4)
  have ea:a=fr (ops.toList.take n) vs a0:=by
   obtain⟨tm,df⟩:=a
   have e1:=h.defs
   have e2:=h.siz
   have e3:=h.out
   have e4:=h.inn
   dsimp only at e1 e2 e3 e4
   have:tm=(fr (ops.toList.take n) vs a0).tmps:=by
    apply Array.ext_getElem?
    intro t
    by_cases hex:∃ (j:Nat) (oj:Oper),j<n∧ops[j]? = some oj∧oj.dst=some t
    ·obtain⟨j,oj,hj,hoj,hd⟩:=hex
     rcases Nat.lt_or_ge t a0.tmps.size with hlt | hge
     ·rw[e4 j oj t hj hoj (hall' j hj) hd hlt,fr_in _ _ a0 t j oj (by rw[take_get hj];simpa using hoj) (by rw[h.len];exact hj) hd ?_ hlt]
      intro k o' hk hko hd'
      obtain⟨hkn,hko'⟩:=take_some hko
      obtain⟨-,hlk⟩:=looksB_spec hB hkn (by simpa using hko')
      exact(hlk j oj t hj hoj hd).1 (Ne.symm hk) hd'
     ·rw[Array.getElem?_eq_none (by omega),Array.getElem?_eq_none (by rw[fr_size];exact hge)]
    ·rw[e3 t fun j oj hj hoj _ hd=>hex ⟨j,oj,hj,hoj,hd⟩,fr_out _ _ a0 t fun j oj hoj hd=>?_]
     obtain⟨hji,hoj'⟩:=take_some hoj
     exact hex ⟨j,oj,hji,by simpa using hoj',hd⟩
   have hdf:df=(fr (ops.toList.take n) vs a0).defers:=by rw[fr_defers];exact e1
   subst this hdf
   rfl
  rw[← ea] at hfin
  have hl:=full_of inv hn hall
  have hdl:(ops.toList.drop n).length=ops.size-n:=by simp
  have:=wpAny_of_seq (md:=.any) (Q' := Q) (ops.toList.drop n) n listed a w (fun j=>by simp[List.getElem?_drop]) (by rw[hdl,hl];exact hseq) hfin
  rw[hdl] at this
  rw[Nat.zero_add]
  exact this
 | succ f ih =>
  intro listed a w vs inv hc h
  rw[show f+1+(ops.size-n)=(f+(ops.size-n))+1 by omega]
  have hex:∃ i,i<n∧listed.getD i true=false∧∀ j,j<i→listed.getD j true=true:=by
   rcases first_un (n:=n) (listed:=listed) n (Nat.le_refl _) with h1 | h1
   ·have:=cnt_zero h1;omega
   ·exact h1
  obtain⟨i0,hi0,hu0,hm0⟩:=hex
  refine⟨fun hr=>?_,fun i hi=>?_⟩
  ·exfalso
   have ho0:ops[i0]? = some ops[i0]:=Array.getElem?_eq_getElem (by omega)
   obtain⟨hl,-⟩:=looksB_spec hB hi0 ho0
   have:i0∈Region.ready .any ops listed:=mem_ready.2 ⟨hu0,_,ho0,fun e he hb=>by
    have hlt:=hl e he hb
    have:=hm0 e.on hlt
    have hsz:e.on<listed.size:=by rw[inv.size];omega
    simpa[hsz] using this⟩
   rw[hr] at this
   cases this
  ·obtain⟨hun,o,ho,hall⟩:=mem_ready.1 hi
   have hin:i<n:=by
    rcases Nat.lt_or_ge i n with h1 | h1
    ·exact h1
    ·have hio:=(Array.getElem?_eq_some_iff.1 ho).1
     rcases hsc with hsc | ⟨hs1,hs2⟩
     ·omega
     ·exact absurd hi (tail_waits hs1 hs2 (by omega) inv _ i0 rfl hi0 hu0 i h1)
   have hsz:=inv.size
   have his:i<listed.size:=by rw[hsz];omega
   have hss:ss[i]? = some ss[i]:=List.getElem?_eq_getElem (by omega)
   generalize hsi:ss[i]=s at hss
   have hsee:=h.sees hB hin ho hall
   have hex:=eval_eq (ops:=ops) (o:=o) (Region.noSelect_spec hsel i o · · ho) hsee
   have hwa:=wanted_eq (ops:=ops) (o:=o) hsee
   obtain⟨hmo,hask⟩:=wpOF_get hO h.shape i o s (by rw[take_get hin];simpa using ho) hss
   rw[List.take_take,Nat.min_eq_left (by omega),List.nil_append,List.nil_append] at hask
   have hprefix:∀ m,m<i→∀ g,((tgtL ss vs).getD m (fun _=>False)) g↔((tgtL (ss.take i) (vs.take i)).getD m (fun _=>False)) g:=fun m hm g=>by
    constructor
    ·intro hg
     obtain⟨f,t,cs,v',h1,h2,h3⟩:=tgtL_get hg
     exact tgtL_mk (by rw[take_get hm];exact h1) (by rw[take_get hm];exact h2) h3
    ·intro hg
     obtain⟨f,t,cs,v',h1,h2,h3⟩:=tgtL_get hg
     exact tgtL_mk (take_some h1).2 (take_some h2).2 h3
   have hpre:∀ m,m∈pres o→m<i:=fun m hm=>by
    unfold pres at hm
    obtain⟨e,he,rfl⟩:=List.mem_map.1 hm
    rw[List.mem_filter] at he
    exact(looksB_spec hB hin ho).1 e (by simpa using he.1) he.2
   have hlist:∀ m,m∈pres o→listed.getD m false=true:=fun m hm=>by
    unfold pres at hm
    obtain⟨e,he,rfl⟩:=List.mem_map.1 hm
    rw[List.mem_filter] at he
    exact hall e (by simpa using he.1) he.2
   have hfillpre:∀ (j m:Nat) t cs,j<n→ss[j]? = some (.fill m t cs)→m<j:=fun j m t cs hjn hsj=>by
    have hjo:j<ops.toList.length:=by simp;omega
    have hp:=(wpOF_get hO h.shape j (ops.toList[j]) _ (by rw[take_get hjn];exact List.getElem?_eq_getElem hjo) hsj).2.2.2.1
    unfold pres at hp
    obtain⟨e,he,rfl⟩:=List.mem_map.1 hp
    rw[List.mem_filter] at he
    exact(looksB_spec hB hjn (o:=ops.toList[j]) (by rw[← Array.getElem?_toList];exact List.getElem?_eq_getElem hjo)).1 e (by simpa using he.1) he.2
   have hF:factsOf (factLF base [] (ss.take i) (vs.take i)) (pres o) w:=factsOf_mk fun j hj F hF=>by
    obtain⟨s',v',h1,h2,rfl⟩:=factLF_get hF
    obtain⟨hji,h1⟩:=take_some h1
    obtain⟨-,h2⟩:=take_some h2
    refine SpecF.fact_of (h.fact j s' v' (by omega) (hlist j hj) h1 h2) fun m hm g hg=>?_
    rw[List.nil_append,List.take_take,List.take_take,Nat.min_eq_left (by omega)]
    have hmj:m<j:=by
     cases s' with
     | fill m' t' cs' =>
      simp[SpecF.js] at hm
      subst hm
      exact hfillpre j _ _ _ (by omega) h1
     | _=>exact(List.not_mem_nil (show m∈([]:List Nat) from hm)).elim
    obtain⟨f,t,cs,v'',g1,g2,g3⟩:=tgtL_get hg
    exact tgtL_mk (by rw[take_get hmj];exact g1) (by rw[take_get hmj];exact g2) g3
   have hFm:∀ w w',factsOf (factLF base [] (ss.take i) (vs.take i)) (pres o) w→Since w w' → base≤w.heap.size→factsOf (factLF base [] (ss.take i) (vs.take i)) (pres o) w' := fun w w' h k hbw=>factsOf_keep' (fun F hF=>by
    obtain⟨j,hj⟩:=List.getElem?_of_mem hF
    obtain⟨s',v',h1,h2,rfl⟩:=factLF_get hj
    obtain⟨-,h1⟩:=take_some h1
    exact fun hf=>SpecF.keepS (hgood j s' h1) hf k hbw) h
   have hui:listed.getD i false=false:=by
    have:i<listed.size:=by have:=inv.size;omega
    simpa[this] using hun
   have go:∀ (v:Value) (w' : World),s.shape v→s.fact base (tgtL ss vs) v w' → Since w w' → (∀ g,s.blk v g→w.heap.size≤g)→(∀ j t cs,s ≠ .fill j t cs)→wpAny P .any ops Q (f+(ops.size-n)) (listed.setIfInBounds i true) (a.put o.dst v) w' := fun v w' hv hf hw hd hnf =>
    ih _ _ _ _ (inv.set hi hin) (by have:=(cnt_set his hun n).2 hin;omega) (h.step hB hn hsz hin hui ho hss hgood (shapeLF_set h.shape hss hv) hf (Below.mono hw h.bas) (hmono _ _ h.cls (Below.mono hw h.bas)) hw.size hd (fun j t cs e=>absurd e (hnf j t cs)) (.inl fun g t cs hb=>hw.blk hb))
   generalize hA:fr (ops.toList.take i) (vs.take i) a0=A at *
   have hAs:a.tmps.size=A.tmps.size:=by rw[← hA,fr_size];exact h.siz
   unfold wpOp
   simp only[ho]
   rw[hwa]
   cases s with
   | det c =>
    unfold SpecF.asks at hask
    dsimp only at hask
    by_cases hw:Region.wanted o (yielded ops A.tmps)=true
    ·rw[if_pos hw] at hask ⊢
     obtain⟨v,hv,hp⟩:=hask (fun w w' => hFm w w') w h.cls hF h.bas
     have hq:=hv w ⟨h.cls,hF,Since.rfl_ w⟩
     have hpc:a.put o.dst v=a.put o.dst c:=put_congr hp hAs
     left
     unfold Oper.wp
     rw[hex]
     unfold Oper.quietAt at hq
     generalize (execOp A.eval o).run P w=r at hq
     unfold Oper.quietUpon at hq
     split at hq
     ·obtain⟨rfl,rfl⟩:=hq
      show wpAny P .any ops Q _ _ (a.put o.dst _) _
      rw[hpc]
      exact go c _ rfl trivial (Since.rfl_ _) (fun g hg=>hg.elim) (fun _ _ _ e=>by cases e)
     ·obtain⟨rfl,rfl⟩:=hq
      show wpAny P .any ops Q _ _ (a.put o.dst _) _
      rw[hpc]
      exact go c _ rfl trivial (Since.rfl_ _) (fun g hg=>hg.elim) (fun _ _ _ e=>by cases e)
     ·obtain⟨rfl,hcall⟩:=hq
      rw[Oper.upon_enter]
      refine hcall.mono ?_
      rintro e w'' ⟨rfl,hC⟩
      show wpAny P .any ops Q _ _ (a.put o.dst _) _
      rw[hpc]
      exact go c _ rfl trivial hC.out.2.2 (fun g hg=>hg.elim) (fun _ _ _ e=>by cases e)
     ·exact hq.elim
    ·rw[if_neg hw] at hask ⊢
     subst hask
     exact go undef w rfl trivial (Since.rfl_ _) (fun g hg=>hg.elim) (fun _ _ _ e=>by cases e)
   | mk fn t cs =>
    obtain⟨hw,hrun⟩:=hask
    rw[if_pos hw]
    left
    unfold Oper.wp
    rw[hex,hrun w]
    show wpAny P .any ops Q _ _ (a.put o.dst _) _
    refine go _ _ ⟨_,rfl⟩ ⟨_,rfl,Blk.new w t cs,h.bas⟩ ((Since.rfl_ w).alloc _) (fun g hg=>?_) (fun _ _ _ e=>by cases e)
    have:w.heap.size=g:=hmo _ _ hg
    omega
   | mkf fn t cs =>
    obtain⟨hw,hrun⟩:=hask
    rw[if_pos hw]
    left
    unfold Oper.wp
    rw[hex,hrun w]
    show wpAny P .any ops Q _ _ (a.put o.dst _) _
    refine go _ _ ⟨_,rfl⟩ ⟨_,rfl,⟨cs,rfl,Blk.new w t cs⟩,h.bas⟩ ((Since.rfl_ w).alloc _) (fun g hg=>?_) (fun _ _ _ e=>by cases e)
    have:w.heap.size=g:=hmo _ _ hg
    omega
   | fill m t cs =>
    obtain⟨hw,hdst,hm,hrun⟩:=hask
    rw[if_pos hw]
    left
    unfold Oper.wp
    rw[hex]
    obtain⟨g,w',cs',hT,hg,hb,hcs,hr,hO,hb'⟩:=hrun w h.cls hF
    have hT' := (hprefix m (hpre m hm) g).2 hT
    rw[hr]
    show wpAny P .any ops Q _ _ (a.put o.dst undef) _
    obtain⟨fm,tm,c0,vm,h1,h2,h3⟩:=tgtL_get hT'
    have hbel:Below base w w' := ⟨hO.os,hO.tape,hO.output,hO.size,fun i hi=>hO.block i (Nat.lt_of_lt_of_le hi h.bas) (fun e=>by injection e;omega)⟩
    have hfm:=h.fact m _ _ (by have:=hpre m hm;omega) (hlist m hm) h1 h2
    refine ih _ _ _ _ (inv.set hi hin) (by have:=(cnt_set his hun n).2 hin;omega) (h.step (v:=undef) hB hn hsz hin hui ho hss hgood (shapeLF_set h.shape hss trivial) ⟨g,hT',hb',hg⟩ hbel (hmono _ _ h.cls hbel) hO.size (fun g hg=>hg.elim) (fun j t' cs'' e=>by cases e;exact hlist m hm) (.inr ⟨m,t,cs,g,fm,tm,c0,vm,rfl,h1,h2,h3,hO,?_⟩))
    obtain⟨g',e',⟨c1,hc1,hb1⟩,hg'⟩:=hfm
    have:g' = g:=inj_of (hgood m _ h1) (v:=vm) e' h3
    subst this
    have e2:Obj.cells c1 tm (0,0)=Obj.cells cs' t (0,0):=Option.some.inj (hb1.symm.trans hb)
    injection e2 with e2 e3
    subst e2 e3
    exact⟨g',e',⟨cs,by omega,hb'⟩,hg'⟩
   | any R =>
    obtain⟨hw,hrun⟩:=hask
    rw[if_pos hw]
    left
    unfold Oper.wp
    rw[hex]
    have hr:=hrun w h.cls hF
    unfold runV at hr
    generalize (execOp A.eval o).run P w=r at hr
    split at hr
    ·exact go _ _ trivial hr.1 hr.2 (fun g hg=>hg.elim) (fun _ _ _ e=>by cases e)
    ·rw[Oper.upon_enter]
     refine hr.mono ?_
     rintro e w'' ⟨v,rfl,h1,h2⟩
     exact go v _ trivial h1 h2 (fun g hg=>hg.elim) (fun _ _ _ e=>by cases e)
    ·exact hr.elim
end
theorem cls_callF{S F:World→Prop}{base:Nat}(hM:∀ w w',S w→Below base w w' → S w'){wx w w' : World}(hF:∀ w w',F w→Since w w' → base≤w.heap.size→F w')(hb:base≤wx.heap.size)(hC:Cls (fun w' => S w' ∧ F w' ∧ Since wx w') w)(h:Since w w'):Cls (fun w' => S w' ∧ F w' ∧ Since wx w') w' :=
 have hw:=Nat.le_trans hb hC.out.2.2.size
 ⟨hM _ _ hC.out.1 (Below.mono h hw),hF _ _ hC.out.2.1 h hw,hC.out.2.2.trans h⟩
theorem region_factsF{P:Program}{id:Nat}{Q:Exit→Act→World→Prop}{a:Act}{w:World}{l:List Oper}(n:Nat)(S:World→Prop)(hm:P.follows .mixedOrders=true)(hB:Region.factsB l.toArray n=true)(hS:S w.drew)(hmono:∀ w1 w2,S w1→Below w.heap.size w1 w2→S w2)(ss:List SpecF)
  (h:wpOF P l.toArray S w.heap.size (fun a' w' => wpList P l.toArray Q (l.drop n) a' w') (l.take n) ss [] [] [] [] a):(Code.region id l.toArray true).wp P Q a w:=by
 unfold Region.factsB at hB
 simp only[Bool.and_eq_true,Bool.or_eq_true,decide_eq_true_eq] at hB
 obtain⟨⟨⟨⟨h1,h2⟩,h3⟩,h4⟩,h5⟩:=hB
 obtain⟨vs,hvs⟩:=shapeLF_some ss
 have hlen:(l.take n).length=n:=by simp at h2 ⊢;omega
 have hss:ss.length=n:=by rw[← wpOF_len h hvs,hlen]
 refine wp_region_any hm ?_
 have inv0:HeadInv .any l.toArray n (Array.replicate l.toArray.size false) :=
  ⟨by simp,fun j oj _ hl=>(by rw[getD_replicate_false] at hl;cases hl),fun t _ ht=>getD_in (by simpa using ht) (getD_replicate_false _ _)⟩
 have hc:cnt n (Array.replicate l.toArray.size false)=n:=by
  unfold cnt
  rw[List.countP_eq_length.2,List.length_range]
  intro i hi
  have hin:=List.mem_range.1 hi
  simp only[List.size_toArray] at h2 ⊢
  have:i<l.length:=by omega
  simp[this]
 have hd0:HdF P l.toArray S w.heap.size n ss a (Array.replicate l.toArray.size false) a { w with drawn:=w.drawn+1 } vs :=
  ⟨by rw[← shapeLF_len hvs,hss],hvs,rfl,rfl,fun t _=>rfl,fun j o t _ _ hl=>(by rw[getD_replicate_false] at hl;cases hl),fun j s v _ hl=>(by rw[getD_replicate_false] at hl;cases hl),fun j k s s' v v' _ hl=>(by rw[getD_replicate_false] at hl;cases hl),hS,Nat.le_refl _,fun i j t cs hl=>(by rw[getD_replicate_false] at hl;cases hl)⟩
 have:=facts_anyF h1 h2 h3 h4 h5 (by simpa using h) hss hmono n _ _ _ _ inv0 hc hd0
 rwa[show n+(l.toArray.size-n)=l.toArray.size by omega] at this
section
variable {P : Program} {ops : Array Oper} {S : World → Prop} {base : Nat} {K : Act → World → Prop} {l : List Oper} {o : Oper} {ss : List SpecF} {Fs : List (World → Prop)} {Bs Ts : List (Nat → Prop)} {Js : List Nat} {a : Act}
theorem wpO_nilF(h:∀ w,S w→allF Fs w→Bs.Pairwise (fun p q=>∀ g g',p g→q g' → g≠g')→K a w):wpOF P ops S base K [] [] Fs Bs Ts Js a:=h
theorem wpO_detF{c:Value}(hw:Region.wanted o (yielded ops a.tmps)=true)(h:(∀ w w',factsOf Fs (pres o) w→Since w w' → base≤w.heap.size→factsOf Fs (pres o) w')→∀ wx,S wx→factsOf Fs (pres o) wx→base≤wx.heap.size→∀ K' : Act→Prop,(∀ a',a' = a.put o.dst c→K' a')→o.quiet P a (Cls fun w' => S w' ∧ factsOf Fs (pres o) w' ∧ Since wx w') K')
  (k:wpOF P ops S base K l ss (Fs++[fun _=>True]) (Bs++[fun _=>False]) (Ts++[fun _=>False]) Js (a.put o.dst c)):wpOF P ops S base K (o :: l) (.det c :: ss) Fs Bs Ts Js a :=
 ⟨trivial,by
  unfold SpecF.asks
  dsimp only
  rw[if_pos hw]
  exact fun hm wx h1 h2 h3=>h hm wx h1 h2 h3 _ (fun a' h=>h),fun v hv=>by cases hv;rw[show Js++SpecF.js (.det c)=Js from List.append_nil Js];exact k⟩
theorem wpO_mkfF{f:Nat→Value}{t:TypeId}{cs:Array Value}(hi:∀ g g',f g=f g' → g=g')(hw:Region.wanted o (yielded ops a.tmps)=true)(h:∀ w,(execOp a.eval o).run P w=.ok (.value (f w.heap.size)) (w.alloc (.cells cs t)))
  (k:∀ g,wpOF P ops S base K l ss (Fs++[fun w=>(∃ cs',cs'.size=cs.size∧Blk w g t cs')∧base≤g]) (Bs++[fun g' => g=g']) (Ts++[fun g' => g=g']) Js (a.put o.dst (f g))):wpOF P ops S base K (o :: l) (.mkf f t cs :: ss) Fs Bs Ts Js a :=
 ⟨hi,⟨hw,h⟩,fun v hv=>by
  obtain⟨g,rfl⟩:=hv
  have e1:SpecF.fact base Ts (.mkf f t cs) (f g)=fun w=>(∃ cs',cs'.size=cs.size∧Blk w g t cs')∧base≤g:=by
   funext w
   apply propext
   constructor
   ·rintro⟨g',e,h⟩
    rw[hi _ _ e];exact h
   ·exact fun h=>⟨g,rfl,h⟩
  have e2:SpecF.blk (.mkf f t cs) (f g)=fun g' => g=g' := by
   funext g'
   apply propext
   exact⟨fun h=>hi _ _ h,fun h=>by rw[← h];rfl⟩
  have e3:SpecF.tgt (.mkf f t cs) (f g)=fun g' => g=g' := e2
  rw[e1,e2,e3,show Js++SpecF.js (.mkf f t cs)=Js from List.append_nil Js]
  exact k g⟩
theorem wpO_fillF{j:Nat}{t:TypeId}{cs:Array Value}(g:Nat)(hT:Ts.getD j (fun _=>False)=fun g' => g=g')(hj:¬ j∈Js)(hw:Region.wanted o (yielded ops a.tmps)=true)(hd:o.dst=none)(hp:j∈pres o)
  (h:∀ w,S w→factsOf Fs (pres o) w→∃ w' cs',base≤g∧Blk w g t cs' ∧ cs'.size=cs.size∧(execOp a.eval o).run P w=.ok .skip w' ∧ Only g w w' ∧ Blk w' g t cs)
  (k:wpOF P ops S base K l ss (Fs++[fun w=>Blk w g t cs∧base≤g]) (Bs++[fun _=>False]) (Ts++[fun _=>False]) (Js++[j]) a):wpOF P ops S base K (o :: l) (.fill j t cs :: ss) Fs Bs Ts Js a :=
 ⟨hj,⟨hw,hd,hp,fun w h1 h2=>by
  obtain⟨w',cs',h3,h4,h5,h6,h7,h8⟩:=h w h1 h2
  exact⟨g,w',cs',by rw[hT],h3,h4,h5,h6,h7,h8⟩⟩,fun v _=>by
  have e1:SpecF.fact base Ts (.fill j t cs) v=fun w=>Blk w g t cs∧base≤g:=by
   funext w
   apply propext
   constructor
   ·rintro⟨g',e,h⟩
    rw[hT] at e
    subst e
    exact h
   ·exact fun h=>⟨g,by rw[hT],h⟩
  rw[e1,hd]
  exact k⟩
end
theorem factsOf_at{Fs:List (World→Prop)}{w:World}{j:Nat}:∀ {js:List Nat},j∈js→factsOf Fs js w→(Fs.getD j (fun _=>True)) w
 | i :: js,h,k=>by
  rcases List.mem_cons.1 h with rfl | h
  ·exact k.1
  ·exact factsOf_at h k.2
theorem fill2{w:World}{g:Nat}{t:TypeId}{x y:Value}(u v:Value)(k:Blk w g t #[x,y]):Only g w ((w.setCell ⟨g,0,none⟩ u).setCell ⟨g,1,none⟩ v)∧Blk ((w.setCell ⟨g,0,none⟩ u).setCell ⟨g,1,none⟩ v) g t #[u,v] :=
 ⟨(((Since.rfl_ w).only g).setCell (.inl rfl) u).setCell (.inl rfl) v,(k.set_ 0 u).set_ 1 v⟩
theorem two_of_size{cs:Array Value}(h:cs.size=2):∃ x y,cs = #[x,y]:=by
 obtain⟨l⟩:=cs
 match l,h with
 | [x,y],_=>exact⟨x,y,rfl⟩
end
end Go.Proofs.YtdnccjdlmepafaaGreat
