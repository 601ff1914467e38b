/-
  Walks of arr's to, way, around and of begin's closure; The sort of the half-edges around a vertex: slices.SortFunc with begin's closure. Conditions: those that each lemma names.
-/
import Derived.Test.YtdnccjdlmepafaaGreatK18
import Derived.Test.YtdnccjdlmepafaaGreatK20
import Derived.Test.YtdnccjdlmepafaaGreatK12
import Derived.Sort.OwnSortedInts
import Derived.Test.YtdnccjdlmepafaaGreatK13
set_option linter.unusedSimpArgs false
set_option linter.unusedVariables false
set_option linter.constructorNameAsVariable false
namespace Go.Proofs.YtdnccjdlmepafaaGreat
section
open Go.RowKit Go.BigFrame Go.Maps
attribute [local go_sem ↓] eqPt neqPt
def twN(h:Nat):Nat:=if h % 2=0 then h+1 else h-1
theorem twN_tw(h:Nat):twN (twN h)=h:=by unfold twN;split <;> split <;> omega
theorem twN_lt{h n:Nat}(hh:h<n)(hn:n % 2=0):twN h<n:=by unfold twN;split <;> omega
theorem xor_one(h:Nat):h ^^^ 1=twN h:=by
 unfold twN
 apply Nat.eq_of_testBit_eq
 intro i
 rw[Nat.testBit_xor]
 cases i with
 | zero =>
  simp[Nat.testBit_zero]
  split <;> simp_all <;> omega
 | succ i =>
  simp only[Nat.testBit_succ]
  have:(1:Nat)/2=0:=rfl
  rw[this,Nat.zero_testBit,Bool.xor_false]
  congr 1
  split <;> omega
theorem xorB{h:Nat}(hh:h≤1000000000):(BitVec.ofInt 64 (h:Int) ^^^ BitVec.ofInt 64 1).toNat=twN h:=by
 rw[BitVec.toNat_xor,BitVec.ofInt_natCast,BitVec.toNat_ofNat,Nat.mod_eq_of_lt (by omega),← xor_one]
 rfl
theorem xorI{h:Nat}(hh:h≤1000000000):Go.bits .xor .i64 (h:Int) 1=((twN h:Nat):Int):=by
 show IntKind.i64.wrap (((BitVec.ofInt 64 (h:Int) ^^^ BitVec.ofInt 64 1).toNat:Nat):Int)=_
 rw[xorB hh]
 have h3:twN h≤1000000001:=by unfold twN;split <;> omega
 rw[i64w]
 exact wrap_id (by omega)
structure See(w:World)(G gP cP gH cH:Nat)(P:List Pt2)(H:List Hf):Prop where
 c0:w.cell? ⟨G,0,none⟩=some (.slice (some ⟨gP,0,none⟩) P.length cP)
 c1:w.cell? ⟨G,1,none⟩=some (.slice (some ⟨gH,0,none⟩) H.length cH)
 p:∀ j,j<P.length→w.cell? ⟨gP,j*2,none⟩=some (.int .i64 (pAt P j).1)∧w.cell? ⟨gP,j*2+1,none⟩=some (.int .i64 (pAt P j).2)
 h:∀ j,j<H.length→w.cell? ⟨gH,j*4,none⟩=some (.int .i64 (hAt H j).1)
section
variable {w w' : World} {G gP cP gH cH : Nat} {P : List Pt2} {H : List Hf}
theorem See.keep(S:See w G gP cP gH cH P H)(g:Nat)(hk:∀ i,i<w.heap.size→i≠g→w'.heap[i]? = w.heap[i]?)(n1:G≠g)(n2:gP≠g)(n3:gH≠g):See w' G gP cP gH cH P H:=by
 have one:∀ {p:Addr} {u:Value},p.block≠g→w.cell? p=some u→w'.cell? p=some u:=fun {p u} hp hu=>by
  rw[World.cell?_of_block (hk p.block (World.block_lt_of_cell? w p hu) hp)];exact hu
 exact⟨one n1 S.c0,one n1 S.c1,fun j hj=>⟨one n2 (S.p j hj).1,one n2 (S.p j hj).2⟩,fun j hj=>one n3 (S.h j hj)⟩
theorem See.since(S:See w G gP cP gH cH P H)(hs:Since w w'):See w' G gP cP gH cH P H:=by
 have one:∀ {p:Addr} {u:Value},w.cell? p=some u→w'.cell? p=some u:=fun {p u} hu=>by
  rw[World.cell?_of_block (hs.block p.block (World.block_lt_of_cell? w p hu))];exact hu
 exact⟨one S.c0,one S.c1,fun j hj=>⟨one (S.p j hj).1,one (S.p j hj).2⟩,fun j hj=>one (S.h j hj)⟩
end
set_option maxRecDepth 100000 in
theorem To_any {w : World} {G gP cP gH cH:Nat} {P:List Pt2} {H:List Hf} (S:See w G gP cP gH cH P H) (h:Nat) (ht:twN h<H.length) (hl:H.length≤1000000) :
  Calls Tryz.prog 92 #[.pointer (some ⟨G,0,none⟩),.int .i64 h] w fun e w' => e=.returned (.int .i64 (hAt H (twN h)).1)∧w' = w:=by
 have hx := xorI (h := h) (by have:h≤twN h+1:=by unfold twN;split <;> omega
                              omega)
 have c1:=S.c1
 have c2:=S.h _ ht
 have v1:(0:Int)≤((twN h:Nat):Int):=by omega
 have v2:((twN h:Nat):Int)<(H.length:Int):=by omega
 clear S
 go_enter Tryz.func92,Tryz.ntmps92
 go_wp2_with fail
 go_ret
 exact⟨rfl,rfl⟩
def wayV(P:List Pt2)(u v:Nat):Pt2:=((pAt P v).1-(pAt P u).1,(pAt P v).2-(pAt P u).2)
theorem okpt{P:List Pt2}(hok:∀ p∈P,okP p.1 p.2=true){j:Nat}(hj:j<P.length):okP (pAt P j).1 (pAt P j).2=true:=hok _ (pAt_mem hj)
set_option maxRecDepth 100000 in
set_option maxHeartbeats 1000000 in
theorem Way_any{w:World}{G gP cP gH cH:Nat}{P:List Pt2}{H:List Hf}(S:See w G gP cP gH cH P H)(h u v:Nat)(hh:h<H.length)(ht:twN h<H.length)(hl:H.length≤1000000)(hu:(hAt H h).1=u)(hv:(hAt H (twN h)).1=v)(hup:u<P.length)(hvp:v<P.length)(hok:∀ p∈P,okP p.1 p.2=true) :
  Calls Tryz.prog 91 #[.pointer (some ⟨G,0,none⟩),.int .i64 h] w fun e w' => e=.returned (.agg #[.int .i64 (wayV P u v).1,.int .i64 (wayV P u v).2])∧SinceD w w' := by
 have hou:=okP_iff.1 (okpt hok hup)
 have hov:=okP_iff.1 (okpt hok hvp)
 have wx:wrap64 ((pAt P v).1-(pAt P u).1)=(pAt P v).1-(pAt P u).1:=wrap_id (by omega)
 have wy:wrap64 ((pAt P v).2-(pAt P u).2)=(pAt P v).2-(pAt P u).2:=wrap_id (by omega)
 have u1:(0:Int)≤(u:Int):=by omega
 have u2:(u:Int)<(P.length:Int):=by omega
 have v1:(0:Int)≤(v:Int):=by omega
 have v2:(v:Int)<(P.length:Int):=by omega
 have h1:(0:Int)≤(h:Int):=by omega
 have h2:(h:Int)<(H.length:Int):=by omega
 have HT:=Lib.hid (fun w' (k:See w' G gP cP gH cH P H)=>To_any k h ht hl)
 have HV:=Lib.hid hv
 clear hou hov hv
 go_enter Tryz.func91,Tryz.ntmps91
 go_upto_region 1 with fail
 obtain⟨g4,HG⟩:∃ g,Hid (g=w.heap.size):=⟨_,rfl⟩
 have HGe:=HG.out
 rw[← HGe]
 clear HGe
 refine atW (fun w' => Hid (SinceD w w')∧Hid (See w' G gP cP gH cH P H)∧Hid (Blk w' g4 36 #[.int .i64 0,.int .i64 0])) ⟨(SinceD.rfl_ w).alloc _,S.since ((Since.rfl_ w).alloc _),Blk.new' HG.out⟩ ?_
 clear S
 rintro w1 ⟨HS,HSE,HB⟩
 have KF:=Lib.hid (fun w' (k:SinceD w1 w')=>(show w'.cell? ⟨G,0,none⟩=some (.slice (some ⟨gP,0,none⟩) P.length cP)∧w'.cell? ⟨G,1,none⟩=some (.slice (some ⟨gH,0,none⟩) H.length cH)∧w'.cell? ⟨gH,h*4,none⟩=some (.int .i64 u)∧(w'.cell? ⟨gP,u*2,none⟩=some (.int .i64 (pAt P u).1)∧w'.cell? ⟨gP,u*2+1,none⟩=some (.int .i64 (pAt P u).2))∧w'.cell? ⟨gP,v*2,none⟩=some (.int .i64 (pAt P v).1)∧w'.cell? ⟨gP,v*2+1,none⟩=some (.int .i64 (pAt P v).2) from by
  have k2:=HSE.out.since k.1
  exact⟨k2.c0,k2.c1,by rw[k2.h h hh,hu],k2.p u hup,k2.p v hvp⟩))
 have HT2:=Lib.hid (fun w' (k:SinceD w1 w')=>(show Calls Tryz.prog 92 #[.pointer (some ⟨G,0,none⟩),.int .i64 h] w' fun e w'' => e=.returned (.int .i64 v)∧w'' = w' from by
  rw[← HV.out];exact HT.out w' (HSE.out.since k.1)))
 clear HT
 apply region_factsE 30 (fun w' => SinceD w1 w')
 case hm=>kernel_rfl
 case hB=>kernel_rfl
 case hS=>exact(SinceD.rfl_ w1).drew
 case hmono=>exact(fun a b h k=>⟨Below.trans h.1 k.1,Nat.le_trans h.2 k.2⟩)
 case h =>
 simp only[List.take_succ_cons,List.take_zero,List.drop_succ_cons,List.drop_zero]
 iterate 23 (apply wpO_detE;(case hw=>rfl);(case h=>intro hFm wx hS_ hF_ hbx K hK;go_big_quiet_op;first | exact hK _ rfl | (apply Exists.intro;refine⟨fun _=>?_,?_⟩;(focus (first | (intro hC;have hC:=KF.out _ hC.out.1;(try simp only[hC,Result.andThen]);first | exact⟨True.intro,rfl⟩ | exact⟨rfl,rfl⟩ | rfl)));exact hK _ rfl));(case' k=>simp only[Act.put,List.setIfInBounds_toArray,List.set_cons_succ,List.set_cons_zero,List.cons_append,List.nil_append]))
 (apply wpO_detE;(case hw=>rfl);(case h=>intro hFm wx hS_ hF_ hbx K hK;go_big_quiet_op;first | exact hK _ rfl | (apply Exists.intro;refine⟨fun _=>?_,?_⟩;(focus (first | (intro hC;go_at_call 92;refine(HT2.out _ hC.out.1).mono ?_;rintro e w' ⟨rfl,rfl⟩;exact⟨rfl,hC⟩)));exact hK _ rfl));(case' k=>simp only[Act.put,List.setIfInBounds_toArray,List.set_cons_succ,List.set_cons_zero,List.cons_append,List.nil_append]))
 iterate 2 (apply wpO_detE;(case hw=>rfl);(case h=>intro hFm wx hS_ hF_ hbx K hK;go_big_quiet_op;first | exact hK _ rfl | (apply Exists.intro;refine⟨fun _=>?_,?_⟩;(focus (first | (intro hC;have hC:=KF.out _ hC.out.1;(try simp only[hC,Result.andThen]);first | exact⟨True.intro,rfl⟩ | exact⟨rfl,rfl⟩ | rfl)));exact hK _ rfl));(case' k=>simp only[Act.put,List.setIfInBounds_toArray,List.set_cons_succ,List.set_cons_zero,List.cons_append,List.nil_append]))
 apply wpO_mkfE (f:=fun g=>.pointer (some ⟨g,0,none⟩)) (t:=36) (cs := #[.int .i64 0,.int .i64 0])
 case hi=>(intro g g' h;simpa using h)
 case hw=>rfl
 case h=>(intro w;simp[go_sem])
 case k =>
 intro x5
 simp only[Act.put,List.setIfInBounds_toArray,List.set_cons_succ,List.set_cons_zero,List.cons_append,List.nil_append]
 apply wpO_mkfE (f:=fun g=>.pointer (some ⟨g,0,none⟩)) (t:=36) (cs := #[.int .i64 0,.int .i64 0])
 case hi=>(intro g g' h;simpa using h)
 case hw=>rfl
 case h=>(intro w;simp[go_sem])
 case k =>
 intro x6
 simp only[Act.put,List.setIfInBounds_toArray,List.set_cons_succ,List.set_cons_zero,List.cons_append,List.nil_append]
 apply wpO_fillE (j:=26) (t:=36) (cs := #[.int .i64 (pAt P u).1,.int .i64 (pAt P u).2]) x5
 case hT=>rfl
 case hj=>decide
 case hw=>rfl
 case hd=>rfl
 case hp=>decide
 case h =>
  intro w' hS_ hF_
  obtain⟨⟨cs',hcs,hb⟩,hg⟩:=factsOf_atE (j:=26) (by decide) hF_
  obtain⟨x,y,rfl⟩:=two_of_sizeE hcs
  refine⟨_,_,hg,hb,rfl,?_,(fill2E (.int .i64 (pAt P u).1) (.int .i64 (pAt P u).2) hb).1,(fill2E (.int .i64 (pAt P u).1) (.int .i64 (pAt P u).2) hb).2⟩
  have c0:=hb.cell 0
  have c1:=hb.cell 1
  have f0:=hb.frozen 0
  have f1:=hb.frozen 1
  simp only[List.getElem?_toArray,List.getElem?_cons_zero,List.getElem?_cons_succ] at c0 c1
  simp[go_sem,c0,c1,f0,f1,cSetS,cSetO]
 case k =>
 simp only[Act.put,List.setIfInBounds_toArray,List.set_cons_succ,List.set_cons_zero,List.cons_append,List.nil_append]
 apply wpO_fillE (j:=27) (t:=36) (cs := #[.int .i64 (pAt P v).1,.int .i64 (pAt P v).2]) x6
 case hT=>rfl
 case hj=>decide
 case hw=>rfl
 case hd=>rfl
 case hp=>decide
 case h =>
  intro w' hS_ hF_
  obtain⟨⟨cs',hcs,hb⟩,hg⟩:=factsOf_atE (j:=27) (by decide) hF_
  obtain⟨x,y,rfl⟩:=two_of_sizeE hcs
  refine⟨_,_,hg,hb,rfl,?_,(fill2E (.int .i64 (pAt P v).1) (.int .i64 (pAt P v).2) hb).1,(fill2E (.int .i64 (pAt P v).1) (.int .i64 (pAt P v).2) hb).2⟩
  have c0:=hb.cell 0
  have c1:=hb.cell 1
  have f0:=hb.frozen 0
  have f1:=hb.frozen 1
  simp only[List.getElem?_toArray,List.getElem?_cons_zero,List.getElem?_cons_succ] at c0 c1
  simp[go_sem,c0,c1,f0,f1,cSetS,cSetO]
 case k =>
 simp only[Act.put,List.setIfInBounds_toArray,List.set_cons_succ,List.set_cons_zero,List.cons_append,List.nil_append]
 refine wpO_nilE ?_
 intro w5 hS hF hB
 (try simp[allF] at hF)
 (try simp[List.pairwise_cons] at hB)
 obtain⟨-,-,⟨k5,-⟩,k6,-⟩:=hF
 have k4:=hS.1.blk HB.out
 have d0:=k5.cell 0
 have d1:=k5.cell 1
 have e0:=k6.cell 0
 have e1:=k6.cell 1
 have f0:=k4.frozen 0
 have f1:=k4.frozen 1
 have q0:=k4.cell 0
 have q1:=k4.cell 1
 simp only[List.getElem?_toArray,List.getElem?_cons_zero,List.getElem?_cons_succ] at d0 d1 e0 e1 q0 q1
 have H4:=Lib.hid k4
 have HS5:=Lib.hid (HS.out.trans hS)
 clear k4 k5 k6 hS hB KF HT2
 go_wp2_with fail
 have r0:=H4.out
 have r1:((w5.setCell ⟨g4,0,none⟩ (.int .i64 ((pAt P v).1-(pAt P u).1))).setCell ⟨g4,1,none⟩ (.int .i64 ((pAt P v).2-(pAt P u).2))).cell? ⟨g4,0,none⟩=some (.int .i64 ((pAt P v).1-(pAt P u).1)):=(Blk.pair (x:=.int .i64 ((pAt P v).1-(pAt P u).1)) (y:=.int .i64 ((pAt P v).2-(pAt P u).2)) r0).cell 0
 have r2:((w5.setCell ⟨g4,0,none⟩ (.int .i64 ((pAt P v).1-(pAt P u).1))).setCell ⟨g4,1,none⟩ (.int .i64 ((pAt P v).2-(pAt P u).2))).cell? ⟨g4,1,none⟩=some (.int .i64 ((pAt P v).2-(pAt P u).2)):=(Blk.pair (x:=.int .i64 ((pAt P v).1-(pAt P u).1)) (y:=.int .i64 ((pAt P v).2-(pAt P u).2)) r0).cell 1
 refine bodyPost_ret (v:=.agg #[.int .i64 ((pAt P v).1-(pAt P u).1),.int .i64 ((pAt P v).2-(pAt P u).2)]) (by simp[results,Tryz.results91,go_sem,cSetS,cSetO,cellDrew,r1,r2]) rfl ⟨rfl,(HS5.out.setCell (by have:=HG.out;dsimp only;omega) _).setCell (by have:=HG.out;dsimp only;omega) _⟩
def lowV(d:Pt2):Int:=if d.2<0∨(d.2=0∧d.1<0) then 1 else 0
def arV(d e:Pt2):Int:=if lowV d-lowV e≠0 then lowV d-lowV e else e.1*d.2-d.1*e.2
theorem Low_any(d:Pt2)(w:World):Calls Tryz.prog 107 #[.agg #[.int .i64 d.1,.int .i64 d.2]] w fun e w' => e=.returned (.int .i64 (lowV d))∧SinceD w w' := by
 obtain⟨x,y⟩:=d
 have HL:Hid (lowV (x,y)=if y<0∨(y=0∧x<0) then 1 else 0):=rfl
 generalize lowV (x,y)=r at HL ⊢
 dsimp only
 by_cases h1:y<0
 ·have b1:decide (y<0)=true:=decide_eq_true h1
  have HR:Hid (r=1):=by show _=_;rw[HL.out,if_pos (.inl h1)]
  clear h1
  go_enter Tryz.func107,Tryz.ntmps107
  go_wp2
  go_ret
  exact⟨ret_int HR.out.symm,(SinceD.rfl_ w).alloc _⟩
 ·have b1:decide (y<0)=false:=decide_eq_false (by omega)
  by_cases h2:y=0
  ·have b2:(y == 0)=true:=by rw[beq_iff_eq];exact h2
   by_cases h3:x<0
   ·have b3:decide (x<0)=true:=decide_eq_true h3
    have HR:Hid (r=1):=by show _=_;rw[HL.out,if_pos (.inr ⟨h2,h3⟩)]
    clear h1 h2 h3
    go_enter Tryz.func107,Tryz.ntmps107
    go_wp2
    go_ret
    exact⟨ret_int HR.out.symm,(SinceD.rfl_ w).alloc _⟩
   ·have b3:decide (x<0)=false:=decide_eq_false (by omega)
    have HR:Hid (r=0):=by show _=_;rw[HL.out,if_neg (by omega)]
    clear h1 h2 h3
    go_enter Tryz.func107,Tryz.ntmps107
    go_wp2
    go_ret
    exact⟨ret_int HR.out.symm,(SinceD.rfl_ w).alloc _⟩
  ·have b2:(y == 0)=false:=by rw[beq_eq_false_iff_ne];exact h2
   have HR:Hid (r=0):=by show _=_;rw[HL.out,if_neg (by omega)]
   clear h1 h2
   go_enter Tryz.func107,Tryz.ntmps107
   go_wp2
   go_ret
   exact⟨ret_int HR.out.symm,(SinceD.rfl_ w).alloc _⟩
set_option maxRecDepth 100000 in
theorem Around_arr(d e:Pt2)(w:World)(hd:(-4194304≤d.1∧d.1≤4194304) ∧ -4194304≤d.2∧d.2≤4194304)(he:(-4194304≤e.1∧e.1≤4194304) ∧ -4194304≤e.2∧e.2≤4194304) :
  Calls Tryz.prog 90 #[.agg #[.int .i64 d.1,.int .i64 d.2],.agg #[.int .i64 e.1,.int .i64 e.2]] w fun r w' => r=.returned (.int .i64 (arV d e))∧SinceD w w' := by
 have m1:(e.1*d.2).natAbs≤17592186044416:=Nat.le_trans (mul_bd (A:=4194304) (B:=4194304) (by omega) (by omega)) (by decide)
 have m2:(d.1*e.2).natAbs≤17592186044416:=Nat.le_trans (mul_bd (A:=4194304) (B:=4194304) (by omega) (by omega)) (by decide)
 have e1:wrap64 (e.1*d.2)=e.1*d.2:=wrap_id (by omega)
 have e2:wrap64 (d.1*e.2)=d.1*e.2:=wrap_id (by omega)
 have e3:wrap64 (e.1*d.2-d.1*e.2)=e.1*d.2-d.1*e.2:=wrap_id (by omega)
 have hl:∀ p:Pt2,0≤lowV p∧lowV p≤1:=fun p=>by unfold lowV;split <;> omega
 have hl1:=hl d
 have hl2:=hl e
 have HA:Hid (arV d e=if lowV d-lowV e≠0 then lowV d-lowV e else e.1*d.2-d.1*e.2):=rfl
 have HL1:=Lib.hid (fun w=>Low_any d w)
 have HL2:=Lib.hid (fun w=>Low_any e w)
 generalize lowV d=a at hl1 HA HL1
 generalize lowV e=b at hl2 HA HL2
 have e4:wrap64 (a-b)=a-b:=wrap_id (by omega)
 clear hd he m1 m2 hl hl1 hl2
 obtain⟨dx,dy⟩:=d
 obtain⟨ex,ey⟩:=e
 dsimp only at *
 go_enter Tryz.func90,Tryz.ntmps90
 go_upto_region 2 with fail
 obtain⟨G,HG⟩:∃ G,G=w.heap.size:=⟨_,rfl⟩
 rw[← HG]
 refine atW (fun w' => Hid (SinceD w w')∧Hid (Blk w' G 36 #[.int .i64 dx,.int .i64 dy])∧Hid (Blk w' (G+1) 36 #[.int .i64 ex,.int .i64 ey])) ⟨((SinceD.rfl_ w).alloc _).alloc _,(Blk.new' HG).alloc _,Blk.new' (by simp[HG])⟩ ?_
 clear HG
 rintro w1 ⟨HS,HB,HC⟩
 have KF:=Lib.hid (fun w' (k:SinceD w1 w')=>(show(w'.cell? ⟨G,0,none⟩=some (.int .i64 dx)∧w'.cell? ⟨G,1,none⟩=some (.int .i64 dy))∧w'.cell? ⟨G+1,0,none⟩=some (.int .i64 ex)∧w'.cell? ⟨G+1,1,none⟩=some (.int .i64 ey) from
  ⟨⟨(k.1.blk HB.out).cell 0,(k.1.blk HB.out).cell 1⟩,(k.1.blk HC.out).cell 0,(k.1.blk HC.out).cell 1⟩))
 apply region_factsD 8 (fun w' => SinceD w1 w')
 case hm=>kernel_rfl
 case hB=>kernel_rfl
 case hS=>exact(SinceD.rfl_ w1).drew
 case hmono=>exact(fun _ _ h k=>h.trans k)
 case h =>
 simp only[List.take_succ_cons,List.take_zero,List.drop_succ_cons,List.drop_zero]
 iterate 2 (apply wpO_detD;(case hw=>rfl);(case h=>intro hFm wx hS_ hF_ K hK;go_big_quiet_op;first | exact hK _ rfl | (apply Exists.intro;refine⟨fun _=>?_,?_⟩;(focus (first | (intro hC;have hC:=KF.out _ hC.out.1;(try simp only[hC,Result.andThen]);first | exact⟨True.intro,rfl⟩ | exact⟨rfl,rfl⟩ | rfl)));exact hK _ rfl));(case' k=>simp only[Act.put,List.setIfInBounds_toArray,List.set_cons_succ,List.set_cons_zero,List.cons_append,List.nil_append]))
 (apply wpO_detD;(case hw=>rfl);(case h=>intro hFm wx hS_ hF_ K hK;go_big_quiet_op;first | exact hK _ rfl | (apply Exists.intro;refine⟨fun _=>?_,?_⟩;(focus (first | (intro hC;go_at_call 107;refine(HL1.out _).mono ?_;rintro e w' ⟨rfl,hb⟩;refine⟨rfl,?_⟩;exact cls_callD (fun _ _ h k=>h.trans k) hFm hC hb)));exact hK _ rfl));(case' k=>simp only[Act.put,List.setIfInBounds_toArray,List.set_cons_succ,List.set_cons_zero,List.cons_append,List.nil_append]))
 iterate 2 (apply wpO_detD;(case hw=>rfl);(case h=>intro hFm wx hS_ hF_ K hK;go_big_quiet_op;first | exact hK _ rfl | (apply Exists.intro;refine⟨fun _=>?_,?_⟩;(focus (first | (intro hC;have hC:=KF.out _ hC.out.1;(try simp only[hC,Result.andThen]);first | exact⟨True.intro,rfl⟩ | exact⟨rfl,rfl⟩ | rfl)));exact hK _ rfl));(case' k=>simp only[Act.put,List.setIfInBounds_toArray,List.set_cons_succ,List.set_cons_zero,List.cons_append,List.nil_append]))
 (apply wpO_detD;(case hw=>rfl);(case h=>intro hFm wx hS_ hF_ K hK;go_big_quiet_op;first | exact hK _ rfl | (apply Exists.intro;refine⟨fun _=>?_,?_⟩;(focus (first | (intro hC;go_at_call 107;refine(HL2.out _).mono ?_;rintro e w' ⟨rfl,hb⟩;refine⟨rfl,?_⟩;exact cls_callD (fun _ _ h k=>h.trans k) hFm hC hb)));exact hK _ rfl));(case' k=>simp only[Act.put,List.setIfInBounds_toArray,List.set_cons_succ,List.set_cons_zero,List.cons_append,List.nil_append]))
 iterate 2 (apply wpO_detD;(case hw=>rfl);(case h=>intro hFm wx hS_ hF_ K hK;go_big_quiet_op;first | exact hK _ rfl | (apply Exists.intro;refine⟨fun _=>?_,?_⟩;(focus (first | (intro hC;have hC:=KF.out _ hC.out.1;(try simp only[hC,Result.andThen]);first | exact⟨True.intro,rfl⟩ | exact⟨rfl,rfl⟩ | rfl)));exact hK _ rfl));(case' k=>simp only[Act.put,List.setIfInBounds_toArray,List.set_cons_succ,List.set_cons_zero,List.cons_append,List.nil_append]))
 refine wpO_nilD ?_
 intro w2 hS hF hB
 (try simp[allF] at hF)
 (try simp[List.pairwise_cons] at hB)
 have HS2:=Lib.hid (HS.out.trans hS)
 have b0:=(hS.1.blk HB.out).cell 0
 have b1:=(hS.1.blk HB.out).cell 1
 have c0:=(hS.1.blk HC.out).cell 0
 have c1:=(hS.1.blk HC.out).cell 1
 simp only[List.getElem?_toArray,List.getElem?_cons_zero,List.getElem?_cons_succ] at b0 b1 c0 c1
 clear hS hF hB KF HS HB HC HL1 HL2
 by_cases hz:a-b=0
 ·have hb0:(a-b != 0)=false:=by rw[bne_eq_false_iff_eq];exact hz
  have HE:Hid (arV (dx,dy) (ex,ey)=ex*dy-dx*ey):=by show _=_;rw[HA.out,if_neg (by omega)]
  clear hz HA
  go_wp2_with fail
  go_ret
  exact⟨ret_int ((by assumption:wrap64 _=_).trans HE.out.symm),HS2.out⟩
 ·have hb0:(a-b != 0)=true:=by rw[bne_iff_ne];exact hz
  have HE:Hid (arV (dx,dy) (ex,ey)=a-b):=by show _=_;rw[HA.out,if_pos hz]
  clear hz HA
  go_wp2_with fail
  go_ret
  exact⟨ret_int ((by assumption:wrap64 _=_).trans HE.out.symm),HS2.out⟩
structure OkH(P:List Pt2)(H:List Hf)(h u v:Nat):Prop where
 hh:h<H.length
 ht:twN h<H.length
 hl:H.length≤1000000
 fr:(hAt H h).1=u
 dst:(hAt H (twN h)).1=v
 hu:u<P.length
 hv:v<P.length
 ok:∀ p∈P,okP p.1 p.2=true
theorem OkH.bd{P:List Pt2}{H:List Hf}{h u v:Nat}(k:OkH P H h u v):(-4194304≤(wayV P u v).1∧(wayV P u v).1≤4194304) ∧ -4194304≤(wayV P u v).2∧(wayV P u v).2≤4194304:=by
 have hou:=okP_iff.1 (okpt k.ok k.hu)
 have hov:=okP_iff.1 (okpt k.ok k.hv)
 unfold wayV
 dsimp only
 omega
theorem Beg1_any{w:World}{Gb G gP cP gH cH:Nat}{P:List Pt2}{H:List Hf}(S:See w G gP cP gH cH P H)(hb:w.cell? ⟨Gb,0,none⟩=some (.pointer (some ⟨G,0,none⟩))){g h u v x y:Nat}(kg:OkH P H g u v)(kh:OkH P H h x y) :
  Calls Tryz.prog 89 #[.int .i64 g,.int .i64 h,.pointer (some ⟨Gb,0,none⟩)] w fun e w' => e=.returned (.int .i64 (arV (wayV P u v) (wayV P x y)))∧SinceD w w' := by
 have HA:=Lib.hid (fun w=>Around_arr (wayV P u v) (wayV P x y) w kg.bd kh.bd)
 have KF:=Lib.hid (fun w' (k:SinceD w w')=>(show w'.cell? ⟨Gb,0,none⟩=some (.pointer (some ⟨G,0,none⟩)) from keepC k.1 _ _ hb))
 have HW1:=Lib.hid (fun w' (k:SinceD w w')=>Way_any (S.since k.1) g u v kg.hh kg.ht kg.hl kg.fr kg.dst kg.hu kg.hv kg.ok)
 have HW2:=Lib.hid (fun w' (k:SinceD w w')=>Way_any (S.since k.1) h x y kh.hh kh.ht kh.hl kh.fr kh.dst kh.hu kh.hv kh.ok)
 generalize wayV P u v=d at HA HW1 ⊢
 generalize wayV P x y=e at HA HW2 ⊢
 generalize arV d e=r at HA ⊢
 obtain⟨dx,dy⟩:=d
 obtain⟨ex,ey⟩:=e
 dsimp only at *
 clear S hb kg kh
 go_enter Tryz.func89,Tryz.ntmps89
 go_upto_region 1 with fail
 apply region_factsD 8 (fun w' => SinceD w w')
 case hm=>kernel_rfl
 case hB=>kernel_rfl
 case hS=>exact(SinceD.rfl_ w).drew
 case hmono=>exact(fun _ _ h k=>h.trans k)
 case h =>
 simp only[List.take_succ_cons,List.take_zero,List.drop_succ_cons,List.drop_zero]
 iterate 2 (apply wpO_detD;(case hw=>rfl);(case h=>intro hFm wx hS_ hF_ K hK;go_big_quiet_op;first | exact hK _ rfl | (apply Exists.intro;refine⟨fun _=>?_,?_⟩;(focus (first | (intro hC;have hC:=KF.out _ hC.out.1;(try simp only[hC,Result.andThen]);first | exact⟨True.intro,rfl⟩ | exact⟨rfl,rfl⟩ | rfl)));exact hK _ rfl));(case' k=>simp only[Act.put,List.setIfInBounds_toArray,List.set_cons_succ,List.set_cons_zero,List.cons_append,List.nil_append]))
 (apply wpO_detD;(case hw=>rfl);(case h=>intro hFm wx hS_ hF_ K hK;go_big_quiet_op;first | exact hK _ rfl | (apply Exists.intro;refine⟨fun _=>?_,?_⟩;(focus (first | (intro hC;go_at_call 91;refine(HW1.out _ hC.out.1).mono ?_;rintro e w' ⟨rfl,hb⟩;refine⟨rfl,?_⟩;exact cls_callD (fun _ _ h k=>h.trans k) hFm hC hb)));exact hK _ rfl));(case' k=>simp only[Act.put,List.setIfInBounds_toArray,List.set_cons_succ,List.set_cons_zero,List.cons_append,List.nil_append]))
 iterate 2 (apply wpO_detD;(case hw=>rfl);(case h=>intro hFm wx hS_ hF_ K hK;go_big_quiet_op;first | exact hK _ rfl | (apply Exists.intro;refine⟨fun _=>?_,?_⟩;(focus (first | (intro hC;have hC:=KF.out _ hC.out.1;(try simp only[hC,Result.andThen]);first | exact⟨True.intro,rfl⟩ | exact⟨rfl,rfl⟩ | rfl)));exact hK _ rfl));(case' k=>simp only[Act.put,List.setIfInBounds_toArray,List.set_cons_succ,List.set_cons_zero,List.cons_append,List.nil_append]))
 (apply wpO_detD;(case hw=>rfl);(case h=>intro hFm wx hS_ hF_ K hK;go_big_quiet_op;first | exact hK _ rfl | (apply Exists.intro;refine⟨fun _=>?_,?_⟩;(focus (first | (intro hC;go_at_call 91;refine(HW2.out _ hC.out.1).mono ?_;rintro e w' ⟨rfl,hb⟩;refine⟨rfl,?_⟩;exact cls_callD (fun _ _ h k=>h.trans k) hFm hC hb)));exact hK _ rfl));(case' k=>simp only[Act.put,List.setIfInBounds_toArray,List.set_cons_succ,List.set_cons_zero,List.cons_append,List.nil_append]))
 (apply wpO_detD;(case hw=>rfl);(case h=>intro hFm wx hS_ hF_ K hK;go_big_quiet_op;first | exact hK _ rfl | (apply Exists.intro;refine⟨fun _=>?_,?_⟩;(focus (first | (intro hC;go_at_call 90;refine(HA.out _).mono ?_;rintro e w' ⟨rfl,hb⟩;refine⟨rfl,?_⟩;exact cls_callD (fun _ _ h k=>h.trans k) hFm hC hb)));exact hK _ rfl));(case' k=>simp only[Act.put,List.setIfInBounds_toArray,List.set_cons_succ,List.set_cons_zero,List.cons_append,List.nil_append]))
 (apply wpO_detD;(case hw=>rfl);(case h=>intro hFm wx hS_ hF_ K hK;go_big_quiet_op;first | exact hK _ rfl | (apply Exists.intro;refine⟨fun _=>?_,?_⟩;(focus (first | (intro hC;have hC:=KF.out _ hC.out.1;(try simp only[hC,Result.andThen]);first | exact⟨True.intro,rfl⟩ | exact⟨rfl,rfl⟩ | rfl)));exact hK _ rfl));(case' k=>simp only[Act.put,List.setIfInBounds_toArray,List.set_cons_succ,List.set_cons_zero,List.cons_append,List.nil_append]))
 refine wpO_nilD ?_
 intro w2 hS hF hB
 (try simp[allF] at hF)
 (try simp[List.pairwise_cons] at hB)
 clear hF hB KF HW1 HW2 HA
 go_wp2_with fail
 go_ret
 exact⟨rfl,hS⟩
end
section
open Go.RowKit Go.BigFrame Go.Shelf Go.Lib Go.Proofs
def sortInt_ren:Go.Shelf.Ren:=⟨fun | 6=>88 | 15=>96 | 14=>106 | 28=>117 | 29=>118 | 20=>133 | 21=>134 | 22=>135 | 23=>136 | 24=>137 | 25=>138 | 26=>139 | 27=>140 | 46=>162 | 47=>144 | 48=>145 | 49=>163 | 50=>164 | 57=>175 | n=>n,fun | 22=>22 | 24=>3 | 25=>45 | 3=>3 | 39=>118 | 0=>0 | 53=>141 | 55=>143 | 4=>4 | 46=>134 | 45=>133 | 50=>138 | 5=>5 | 9=>9 | 66=>168 | 70=>172 | 76=>195 | 77=>187 | n=>n,fun | n=>n⟩
theorem sortInt:Go.Proofs.SlLaysF.n6 Tryz.prog sortInt_ren:={
 mixed:=by kernel_rfl
 f6:=⟨Tryz.f88.name,by decide,Tryz.func88.trans (congrArg some (by kernel_rfl))⟩
 f14:=⟨Tryz.f106.name,by decide,Tryz.func106.trans (congrArg some (by kernel_rfl))⟩
 f15:=Tryz.func96.trans (congrArg some (by kernel_rfl))
 f20:=⟨Tryz.f133.name,by decide,Tryz.func133.trans (congrArg some (by kernel_rfl))⟩
 f21:=⟨Tryz.f134.name,by decide,Tryz.func134.trans (congrArg some (by kernel_rfl))⟩
 f22:=⟨Tryz.f135.name,by decide,Tryz.func135.trans (congrArg some (by kernel_rfl))⟩
 f23:=⟨Tryz.f136.name,by decide,Tryz.func136.trans (congrArg some (by kernel_rfl))⟩
 f24:=⟨Tryz.f137.name,by decide,Tryz.func137.trans (congrArg some (by kernel_rfl))⟩
 f25:=⟨Tryz.f138.name,by decide,Tryz.func138.trans (congrArg some (by kernel_rfl))⟩
 f26:=⟨Tryz.f139.name,by decide,Tryz.func139.trans (congrArg some (by kernel_rfl))⟩
 f27:=⟨Tryz.f140.name,by decide,Tryz.func140.trans (congrArg some (by kernel_rfl))⟩
 f28:=Tryz.func117.trans (congrArg some (by kernel_rfl))
 f29:=Tryz.func118.trans (congrArg some (by kernel_rfl))
 f46:=⟨Tryz.f162.name,by decide,Tryz.func162.trans (congrArg some (by kernel_rfl))⟩
 f47:=Tryz.func144.trans (congrArg some (by kernel_rfl))
 f48:=Tryz.func145.trans (congrArg some (by kernel_rfl))
 f49:=⟨Tryz.f163.name,by decide,Tryz.func163.trans (congrArg some (by kernel_rfl))⟩
 f50:=⟨Tryz.f164.name,by decide,Tryz.func164.trans (congrArg some (by kernel_rfl))⟩
 f57:=⟨Tryz.f175.name,by decide,Tryz.func175.trans (congrArg some (by kernel_rfl))⟩
 t0:=Tryz.underlying0
 a0:=Tryz.isAgg0
 z0:=Tryz.sizeOf0
 v0:=Tryz.zeroValue0
 t3:=Tryz.underlying3
 a3:=Tryz.isAgg3
 z3:=Tryz.sizeOf3
 v3:=Tryz.zeroValue3
 t4:=Tryz.underlying4
 a4:=Tryz.isAgg4
 z4:=Tryz.sizeOf4
 v4:=Tryz.zeroValue4
 t5:=Tryz.underlying5
 a5:=Tryz.isAgg5
 z5:=Tryz.sizeOf5
 v5:=Tryz.zeroValue5
 t9:=Tryz.underlying9
 a9:=Tryz.isAgg9
 z9:=Tryz.sizeOf9
 v9:=Tryz.zeroValue9
 t22:=Tryz.underlying22
 a22:=Tryz.isAgg22
 z22:=Tryz.sizeOf22
 v22:=Tryz.zeroValue22
 a24:=Tryz.isAgg3
 z24:=Tryz.sizeOf3
 t25:=Tryz.underlying45
 a25:=Tryz.isAgg45
 z25:=Tryz.sizeOf45
 v25:=Tryz.zeroValue45
 t39:=Tryz.underlying118
 a39:=Tryz.isAgg118
 z39:=Tryz.sizeOf118
 v39:=Tryz.zeroValue118
 t45:=Tryz.underlying133
 a45:=Tryz.isAgg133
 z45:=Tryz.sizeOf133
 v45:=Tryz.zeroValue133
 t46:=Tryz.underlying134
 a46:=Tryz.isAgg134
 z46:=Tryz.sizeOf134
 v46:=Tryz.zeroValue134
 t50:=Tryz.underlying138
 a50:=Tryz.isAgg138
 z50:=Tryz.sizeOf138
 v50:=Tryz.zeroValue138
 t53:=Tryz.underlying141
 a53:=Tryz.isAgg141
 z53:=Tryz.sizeOf141
 v53:=Tryz.zeroValue141
 t55:=Tryz.underlying143
 a55:=Tryz.isAgg143
 z55:=Tryz.sizeOf143
 v55:=Tryz.zeroValue143
 t66:=Tryz.underlying168
 a66:=Tryz.isAgg168
 z66:=Tryz.sizeOf168
 v66:=Tryz.zeroValue168
 t70:=Tryz.underlying172
 a70:=Tryz.isAgg172
 z70:=Tryz.sizeOf172
 v70:=Tryz.zeroValue172
 t76:=Tryz.underlying195
 a76:=Tryz.isAgg195
 z76:=Tryz.sizeOf195
 v76:=Tryz.zeroValue195
 t77:=Tryz.underlying187
 a77:=Tryz.isAgg187
 z77:=Tryz.sizeOf187
 v77:=Tryz.zeroValue187 }
theorem ar_neg(d e:Pt2):arV d e<0↔lowV d<lowV e∨(lowV d=lowV e∧e.1*d.2<d.1*e.2):=by
 unfold arV
 split <;> omega
theorem low_cases{d:Pt2}(h:d≠(0,0)):(lowV d=0∧(0<d.2∨(d.2=0∧0<d.1)))∨(lowV d=1∧(d.2<0∨(d.2=0∧d.1<0))):=by
 obtain⟨x,y⟩:=d
 have h' : ¬ (x=0∧y=0):=fun k=>h (by rw[k.1,k.2])
 unfold lowV
 dsimp only
 split <;> omega
theorem up_trans{d e f:Pt2}(hd:0<d.2∨(d.2=0∧0<d.1))(he:0<e.2∨(e.2=0∧0<e.1))(hf:0<f.2∨(f.2=0∧0<f.1))(h1:e.1*d.2<d.1*e.2)(h2:f.1*e.2<e.1*f.2):f.1*d.2<d.1*f.2:=by
 obtain⟨dx,dy⟩:=d;obtain⟨ex,ey⟩:=e;obtain⟨fx,fy⟩:=f
 dsimp only at *
 have id:ey*(dx*fy-fx*dy)=dy*(ex*fy-fx*ey)+fy*(dx*ey-ex*dy):=by grind
 rcases he with he | ⟨he,he'⟩
 ·have hdy:0≤dy:=by omega
  have hfy:0≤fy:=by omega
  have p1:0≤dy*(ex*fy-fx*ey):=Int.mul_nonneg hdy (by omega)
  have p2:0≤fy*(dx*ey-ex*dy):=Int.mul_nonneg hfy (by omega)
  have hpos:0<ey*(dx*fy-fx*dy):=by
   rcases hf with hf | ⟨hf,hf'⟩
   ·have:=Int.mul_pos hf (show 0<dx*ey-ex*dy by omega)
    omega
   ·have:0<fx*ey:=Int.mul_pos hf' he
    rw[hf] at h2
    omega
  have:=Int.pos_of_mul_pos_right hpos he
  omega
 ·rw[he] at h1
  have:0≤ex*dy:=Int.mul_nonneg (by omega) (by omega)
  omega
theorem up_ntrans{d e f:Pt2}(hd:0<d.2∨(d.2=0∧0<d.1))(he:0<e.2∨(e.2=0∧0<e.1))(hf:0<f.2∨(f.2=0∧0<f.1))(h1:¬ e.1*d.2<d.1*e.2)(h2:¬ f.1*e.2<e.1*f.2):¬ f.1*d.2<d.1*f.2:=by
 obtain⟨dx,dy⟩:=d;obtain⟨ex,ey⟩:=e;obtain⟨fx,fy⟩:=f
 dsimp only at *
 intro h3
 have id:ey*(dx*fy-fx*dy)=dy*(ex*fy-fx*ey)+fy*(dx*ey-ex*dy):=by grind
 have hdy:0≤dy:=by omega
 have hfy:0≤fy:=by omega
 rcases he with he | ⟨he,he'⟩
 ·have p1:dy*(ex*fy-fx*ey)≤0:=Int.mul_nonpos_of_nonneg_of_nonpos hdy (by omega)
  have p2:fy*(dx*ey-ex*dy)≤0:=Int.mul_nonpos_of_nonneg_of_nonpos hfy (by omega)
  have p3:0<ey*(dx*fy-fx*dy):=Int.mul_pos he (by omega)
  omega
 ·rw[he] at h2
  have hfy0:fy=0:=by
   rcases hf with hf | hf
   ·have:=Int.mul_pos he' hf
    omega
   ·exact hf.1
  have hfx:0<fx:=by omega
  have:0≤fx*dy:=Int.mul_nonneg (by omega) hdy
  rw[hfy0] at h3
  omega
theorem neg_mul_neg'(a b:Int) : -a * -b=a*b:=Int.neg_mul_neg a b
theorem ar_trans{d e f:Pt2}(hd:d≠(0,0))(he:e≠(0,0))(hf:f≠(0,0))(h1:arV d e<0)(h2:arV e f<0):arV d f<0:=by
 rw[ar_neg] at *
 rcases low_cases hd with⟨ld,kd⟩ | ⟨ld,kd⟩ <;> rcases low_cases he with⟨le,ke⟩ | ⟨le,ke⟩ <;> rcases low_cases hf with⟨lf,kf⟩ | ⟨lf,kf⟩ <;> rw[ld,le] at h1 <;> rw[le,lf] at h2 <;> rw[ld,lf] <;> try omega
 ·exact .inr ⟨rfl,up_trans kd ke kf (by omega) (by omega)⟩
 ·refine .inr ⟨rfl,?_⟩
  have:=up_trans (d:=(-d.1,-d.2)) (e:=(-e.1,-e.2)) (f:=(-f.1,-f.2)) (by dsimp only;omega) (by dsimp only;omega) (by dsimp only;omega) (by simp only[neg_mul_neg'];omega) (by simp only[neg_mul_neg'];omega)
  simp only[neg_mul_neg'] at this
  exact this
theorem ar_ntrans{d e f:Pt2}(hd:d≠(0,0))(he:e≠(0,0))(hf:f≠(0,0))(h1:¬ arV d e<0)(h2:¬ arV e f<0):¬ arV d f<0:=by
 rw[ar_neg] at *
 rcases low_cases hd with⟨ld,kd⟩ | ⟨ld,kd⟩ <;> rcases low_cases he with⟨le,ke⟩ | ⟨le,ke⟩ <;> rcases low_cases hf with⟨lf,kf⟩ | ⟨lf,kf⟩ <;> rw[ld,le] at h1 <;> rw[le,lf] at h2 <;> rw[ld,lf] <;> try omega
 ·have:=up_ntrans kd ke kf (by omega) (by omega)
  omega
 ·have:=up_ntrans (d:=(-d.1,-d.2)) (e:=(-e.1,-e.2)) (f:=(-f.1,-f.2)) (by dsimp only;omega) (by dsimp only;omega) (by dsimp only;omega) (by simp only[neg_mul_neg'];omega) (by simp only[neg_mul_neg'];omega)
  simp only[neg_mul_neg'] at this
  omega
def dirI(P:List Pt2)(H:List Hf)(x:Int):Pt2:=wayV P (hAt H x.toNat).1.toNat (hAt H (twN x.toNat)).1.toNat
structure GoodH(P:List Pt2)(H:List Hf)(x:Int):Prop where
 ex:∃ h u v:Nat,x=h∧OkH P H h u v
 ne:dirI P H x≠(0,0)
abbrev GdH(P:List Pt2)(H:List Hf):={x:Int // GoodH P H x}
def cfG(P:List Pt2)(H:List Hf)(x y:GdH P H):Int:=arV (dirI P H x.1) (dirI P H y.1)
theorem cfG_swo(P:List Pt2)(H:List Hf):Go.Sort.SWO (Go.Proofs.ltOf (cfG P H)) where
 irrefl x:=by
  unfold Go.Proofs.ltOf cfG
  rw[decide_eq_false_iff_not,ar_neg];omega
 trans x y z h1 h2:=by
  unfold Go.Proofs.ltOf at *
  rw[decide_eq_true_eq] at *
  exact ar_trans x.2.ne y.2.ne z.2.ne h1 h2
 ntrans x y z h1 h2:=by
  unfold Go.Proofs.ltOf at *
  rw[decide_eq_false_iff_not] at *
  exact ar_ntrans x.2.ne y.2.ne z.2.ne h1 h2
def encG{P:List Pt2}{H:List Hf}(x:GdH P H):Value:=.int .i64 x.1
theorem putG{P:List Pt2}{H:List Hf}[Inhabited (GdH P H)](w:World)(g:Nat)(d:Array (GdH P H)):Go.Sort.putRow encG w g 0 d=Go.Sort.putRow (Value.int .i64) w g 0 (d.map (·.1)):=by
 unfold Go.Sort.putRow
 congr 1
 funext c
 unfold Go.Sort.putCells
 congr 1
 funext k x
 simp only[Array.size_map]
 split
 ·rename_i h
  have hk:k-0<d.size:=by omega
  rw[getElem!_pos d (k-0) hk,getElem!_pos (d.map (·.1)) (k-0) (by simpa using hk),Array.getElem_map]
  rfl
 ·rfl
theorem row_none(p:Option Addr)(cap:Nat)(fv:Value)(w:World):Calls Tryz.prog 88 #[.slice p 0 cap,fv] w fun e w' => e=.returned (.tuple #[])∧w' = w :=
 AnyF.slices_SortFunc_none (P:=Tryz.prog) (ρ:=sortInt_ren) { sortInt with } p cap fv w
set_option maxHeartbeats 1000000 in
theorem row_some{w:World}{B Gb G gP cP gH cH g c:Nat}{P:List Pt2}{H:List Hf}(S:See w G gP cP gH cH P H)(hb:w.cell? ⟨Gb,0,none⟩=some (.pointer (some ⟨G,0,none⟩)))(l:List Int)(hg:∀ x∈l,GoodH P H x)(hne:l≠[])
  (ho:w.ownsRow B 3 1 (.slice (some ⟨g,0,none⟩) l.length c) l.length (l.map iV)) (n1:G≠g) (n2:gP≠g) (n3:gH≠g) (n4:Gb≠g) (hl:l.length≤1000000) :
  Calls Tryz.prog 88 #[.slice (some ⟨g,0,none⟩) l.length c,.func (.func 89) #[] #[.pointer (some ⟨Gb,0,none⟩)]] w fun e w' => e=.returned (.tuple #[])∧Only g w w' ∧
   ∃ l' : List Int,l'.Perm l∧(l'.Pairwise fun x y=>¬ arV (dirI P H y) (dirI P H x)<0)∧w'.ownsRow B 3 1 (.slice (some ⟨g,0,none⟩) l.length c) l.length (l'.map iV):=by
 have eg:∀ args w,(callFunc 89 args).run Tryz.prog w=.ok (.enter 89 args) w:=enters_of Tryz.func89 (by kernel_rfl) rfl
 have hlt:=(ho.lt g rfl).2
 obtain⟨x0,hx0⟩:=List.exists_mem_of_ne_nil l hne
 haveI:Inhabited (GdH P H):=⟨⟨x0,hg x0 hx0⟩⟩
 obtain⟨d,hd⟩:∃ d:Array (GdH P H),d.map (·.1)=l.toArray:=⟨(l.attach.map fun p=>⟨p.1,hg p.1 p.2⟩).toArray,by simp only[List.map_toArray,List.map_map];exact congrArg _ (List.attach_map_subtype_val l)⟩
 have hds:d.size=l.length:=by have:=congrArg Array.size hd;simpa using this
 have hcmp:CmpLays1 Tryz.prog 89 #[.pointer (some ⟨Gb,0,none⟩)] encG (cfG P H) g 0 d.size w:=by
  intro m os dk hs x y
  have hO:Only g w (Go.Proofs.sortWorld encG w g 0 m dk os):=by
   unfold Go.Proofs.sortWorld
   rw[putG]
   exact grownBy_sortedI _
  have S' := S.keep g (fun i hi hne=>hO.block i hi (fun e=>hne (by injection e))) n1 n2 n3
  have hb' : (Go.Proofs.sortWorld encG w g 0 m dk os).cell? ⟨Gb,0,none⟩=some (.pointer (some ⟨G,0,none⟩)):=by
   rw[World.cell?_of_block (hO.block Gb (World.block_lt_of_cell? w ⟨Gb,0,none⟩ hb) (fun e=>n4 (by injection e)))];exact hb
  obtain⟨x,⟨h,u,v,rfl,kx⟩,nx⟩:=x
  obtain⟨y,⟨h',u',v',rfl,ky⟩,ny⟩:=y
  have e1:dirI P H (h:Int)=wayV P u v:=by unfold dirI;rw[Int.toNat_natCast,kx.fr,kx.dst,Int.toNat_natCast,Int.toNat_natCast]
  have e2:dirI P H (h' : Int)=wayV P u' v' := by unfold dirI;rw[Int.toNat_natCast,ky.fr,ky.dst,Int.toNat_natCast,Int.toNat_natCast]
  refine(Beg1_any S' hb' kx ky).mono ?_
  rintro e w' ⟨rfl,hs⟩
  refine⟨?_,hs.grow⟩
  show _=Ending.returned (.int .i64 (arV (dirI P H (h:Int)) (dirI P H (h' : Int))))
  rw[e1,e2]
 obtain⟨hxl,hcase⟩:=id ho
 rcases hcase with⟨h1,-⟩ | ⟨g',cap,cur,h1,hB,hgb,hnc,hcm,hsz,htk⟩
 ·cases h1
 injection h1 with h1 h2 h3
 injection h1 with h1
 injection h1 with h1
 subst h1 h3
 have hH:Go.Sort.Holds encG w g 0 d:=by
  intro j hj
  have hj' : j<l.length:=by omega
  refine⟨?_,ho.frozenAt _⟩
  rw[Nat.zero_add,ho.cellAt j (by omega)]
  have e:d[j]!.1=l[j]:=by
   rw[getElem!_pos d j hj]
   have:=congrArg (fun a:Array Int=>a[j]?) hd
   simp only[Array.getElem?_map,Array.getElem?_eq_getElem hj,List.getElem?_toArray,List.getElem?_eq_getElem hj',Option.map_some] at this
   injection this
  simp[encG,e,hj',iV]
 have hcon:=Any.slices_SortFunc sortInt encG (fun _=>rfl) (cfG P H) (cfG_swo P H) 89 #[.pointer (some ⟨Gb,0,none⟩)] g 0 c d w eg hcmp hH hlt (by omega)
 change Calls Tryz.prog 88 _ _ _ at hcon
 rw[hds] at hcon
 refine hcon.mono ?_
 rintro e w' ⟨rfl,d',m,os,hp,hs,rfl⟩
 unfold Go.Proofs.sortWorld
 rw[putG]
 obtain⟨hsz',-,hperm⟩:=hp
 rw[← hds,Array.extract_size,← hsz',Array.extract_size] at hperm
 obtain⟨l',hl'⟩:∃ l' : List Int,l' = (d'.map (·.1)).toList:=⟨_,rfl⟩
 have e1:(d'.map (·.1))=l'.toArray:=by rw[hl']
 have e2:l=(d.map (·.1)).toList:=by rw[hd]
 have hpl:l'.Perm l:=by
  rw[hl',e2,Array.toList_map,Array.toList_map]
  exact hperm.map _
 rw[e1]
 refine⟨rfl,grownBy_sortedI _,l',hpl,?_,ownsRow_sortedI (ss:=l) (ts:=l') hpl.length_eq hB hgb hnc hcm hsz⟩
 rw[hl',Array.toList_map,List.pairwise_map,List.pairwise_iff_getElem]
 intro i j hi hj hij
 have h:=hs i j (Nat.zero_le _) hij (by simp at hj;omega)
 have hi' : i<d'.size:=by simpa using hi
 have hj' : j<d'.size:=by simpa using hj
 rw[getElem!_pos d' i hi',getElem!_pos d' j hj'] at h
 unfold Go.Proofs.ltOf at h
 rw[decide_eq_false_iff_not] at h
 simpa[cfG] using h
end
end Go.Proofs.YtdnccjdlmepafaaGreat
