/-
  Walks of hot.part.least, most, cut and hot.Meets: what each returns, in plain functions; Walks of the reference of Meets: near, sign, spot.in, the closures; Walks of point.Ok, box.Ok, clip.round, clip.cut.less and of '==' of points: what each returns; clip.Segment as a plain function; Slices of points as lists; the walk of clip.IsLine; Walks of slices.Equal and EqualFunc over points and lists of points; The memory of clip.Line; the walk of its closure; clip.Line as a plain function. Conditions: those that each lemma names.
-/
import Derived.Test.YtdnccjdlmepafaaGreatK01
import Derived.Laws.StructEq
set_option linter.unusedSimpArgs false
set_option linter.unusedVariables false
set_option linter.constructorNameAsVariable false
namespace Go.Proofs.YtdnccjdlmepafaaGreat
section
open Go.RowKit Go.BigFrame
abbrev Bnd:=Int×Int×Bool
def leastLo(lo:Bnd)(n d:Int)(closed:Bool):Bnd:=if leastT lo.1 lo.2.1 (bnN n d) (bnD d) closed then(bnN n d,bnD d,closed) else lo
def mostHi(hi:Bnd)(n d:Int)(closed:Bool):Bnd:=if mostT hi.1 hi.2.1 (bnN n d) (bnD d) closed then(bnN n d,bnD d,closed) else hi
def partV(lo hi:Bnd):Array Value:=part6 lo.1 lo.2.1 lo.2.2 hi.1 hi.2.1 hi.2.2
theorem least_any(g:Nat)(lo hi:Bnd)(n d:Int)(closed:Bool)(w:World)(hb:Blk w g 151 (partV lo hi)) :
  Calls Tryz.prog 157 #[.pointer (some ⟨g,0,none⟩),.int .i64 n,.int .i64 d,.bool closed] w fun e w' => e=.returned (.tuple #[])∧Blk w' g 151 (partV (leastLo lo n d closed) hi)∧Only g w w' := by
 obtain⟨ln,ld,lc⟩:=lo
 obtain⟨hn,hd,hc⟩:=hi
 by_cases hd0:0≤d
 ·have e1:bnN n d=n:=by unfold bnN;rw[if_neg (by omega)]
  have e2:bnD d=d:=by unfold bnD;rw[if_neg (by omega)]
  unfold leastLo leastT
  simp only[e1,e2]
  by_cases h1:0<bndCmp n d ln ld
  ·rw[if_pos (.inl h1)];exact least_pA g ln ld hn hd n d lc hc closed w hb hd0 h1
  ·by_cases h2:bndCmp n d ln ld=0
   ·cases closed
    ·rw[if_pos (.inr ⟨h2,rfl⟩)];exact least_pB g ln ld hn hd n d lc hc w hb hd0 h2
    ·rw[if_neg (by rintro(h | ⟨_,h⟩);exact h1 h;cases h)];exact least_pC g ln ld hn hd n d lc hc w hb hd0 h2
   ·rw[if_neg (by rintro(h | ⟨h,_⟩);exact h1 h;exact h2 h)];exact least_pD g ln ld hn hd n d lc hc closed w hb hd0 (by omega)
 ·have e1:bnN n d=wrap64 (-n):=by unfold bnN;rw[if_pos (by omega)]
  have e2:bnD d=wrap64 (-d):=by unfold bnD;rw[if_pos (by omega)]
  unfold leastLo leastT
  simp only[e1,e2]
  by_cases h1:0<bndCmp (wrap64 (-n)) (wrap64 (-d)) ln ld
  ·rw[if_pos (.inl h1)];exact least_nA g ln ld hn hd n d lc hc closed w hb (by omega) h1
  ·by_cases h2:bndCmp (wrap64 (-n)) (wrap64 (-d)) ln ld=0
   ·cases closed
    ·rw[if_pos (.inr ⟨h2,rfl⟩)];exact least_nB g ln ld hn hd n d lc hc w hb (by omega) h2
    ·rw[if_neg (by rintro(h | ⟨_,h⟩);exact h1 h;cases h)];exact least_nC g ln ld hn hd n d lc hc w hb (by omega) h2
   ·rw[if_neg (by rintro(h | ⟨h,_⟩);exact h1 h;exact h2 h)];exact least_nD g ln ld hn hd n d lc hc closed w hb (by omega) (by omega)
theorem most_any(g:Nat)(lo hi:Bnd)(n d:Int)(closed:Bool)(w:World)(hb:Blk w g 151 (partV lo hi)) :
  Calls Tryz.prog 158 #[.pointer (some ⟨g,0,none⟩),.int .i64 n,.int .i64 d,.bool closed] w fun e w' => e=.returned (.tuple #[])∧Blk w' g 151 (partV lo (mostHi hi n d closed))∧Only g w w' := by
 obtain⟨ln,ld,lc⟩:=lo
 obtain⟨hn,hd,hc⟩:=hi
 by_cases hd0:0≤d
 ·have e1:bnN n d=n:=by unfold bnN;rw[if_neg (by omega)]
  have e2:bnD d=d:=by unfold bnD;rw[if_neg (by omega)]
  unfold mostHi mostT
  simp only[e1,e2]
  by_cases h1:bndCmp n d hn hd<0
  ·rw[if_pos (.inl h1)];exact most_pA g ln ld hn hd n d lc hc closed w hb hd0 h1
  ·by_cases h2:bndCmp n d hn hd=0
   ·cases closed
    ·rw[if_pos (.inr ⟨h2,rfl⟩)];exact most_pB g ln ld hn hd n d lc hc w hb hd0 h2
    ·rw[if_neg (by rintro(h | ⟨_,h⟩);exact h1 h;cases h)];exact most_pC g ln ld hn hd n d lc hc w hb hd0 h2
   ·rw[if_neg (by rintro(h | ⟨h,_⟩);exact h1 h;exact h2 h)];exact most_pD g ln ld hn hd n d lc hc closed w hb hd0 (by omega)
 ·have e1:bnN n d=wrap64 (-n):=by unfold bnN;rw[if_pos (by omega)]
  have e2:bnD d=wrap64 (-d):=by unfold bnD;rw[if_pos (by omega)]
  unfold mostHi mostT
  simp only[e1,e2]
  by_cases h1:bndCmp (wrap64 (-n)) (wrap64 (-d)) hn hd<0
  ·rw[if_pos (.inl h1)];exact most_nA g ln ld hn hd n d lc hc closed w hb (by omega) h1
  ·by_cases h2:bndCmp (wrap64 (-n)) (wrap64 (-d)) hn hd=0
   ·cases closed
    ·rw[if_pos (.inr ⟨h2,rfl⟩)];exact most_nB g ln ld hn hd n d lc hc w hb (by omega) h2
    ·rw[if_neg (by rintro(h | ⟨_,h⟩);exact h1 h;cases h)];exact most_nC g ln ld hn hd n d lc hc w hb (by omega) h2
   ·rw[if_neg (by rintro(h | ⟨h,_⟩);exact h1 h;exact h2 h)];exact most_nD g ln ld hn hd n d lc hc closed w hb (by omega) (by omega)
def cutLo(lo:Bnd)(f d:Int):Bnd:=if 0<d then leastLo lo (-f) d true else if d<0 then leastLo lo (2-f) d false else lo
def cutHi(hi:Bnd)(f d:Int):Bnd:=if 0<d then mostHi hi (2-f) d false else if d<0 then mostHi hi (-f) d true else hi
def cutOk(f d:Int):Bool:=if 0<d then true else if d<0 then true else(decide (0≤f) && decide (f<2))
theorem cut_any(g:Nat)(lo hi:Bnd)(f d:Int)(w:World)(hb:Blk w g 151 (partV lo hi))(h1 : -1099511627776≤f)(h2:f≤1099511627776) :
  Calls Tryz.prog 123 #[.pointer (some ⟨g,0,none⟩),.int .i64 f,.int .i64 d] w fun e w' => e=.returned (.bool (cutOk f d))∧Blk w' g 151 (partV (cutLo lo f d) (cutHi hi f d))∧Only g w w' := by
 by_cases k1:0<d
 ·unfold cutLo cutHi cutOk
  rw[if_pos k1,if_pos k1,if_pos k1]
  have HB:=Lib.hid hb
  clear hb
  go_enter Tryz.func123,Tryz.ntmps123
  go_wp2_with fail
  refine(least_any g lo hi _ _ _ _ HB.out).mono ?_
  rintro e w1 ⟨rfl,hb1,ho1⟩
  have HB1:=Lib.hid hb1
  have HO1:=Lib.hid ho1
  clear hb1 ho1
  go_wp2_with fail
  refine(most_any g _ hi _ _ _ _ HB1.out).mono ?_
  rintro e w2 ⟨rfl,hb2,ho2⟩
  have HB2:=Lib.hid hb2
  have HO2:=Lib.hid (HO1.out.trans ho2)
  clear hb2 ho2
  go_wp2
  go_ret
  exact⟨rfl,HB2.out,HO2.out⟩
 ·by_cases k2:d<0
  ·unfold cutLo cutHi cutOk
   rw[if_neg k1,if_neg k1,if_neg k1,if_pos k2,if_pos k2,if_pos k2]
   have HB:=Lib.hid hb
   clear hb
   go_enter Tryz.func123,Tryz.ntmps123
   go_wp2_with fail
   refine(most_any g lo hi _ _ _ _ HB.out).mono ?_
   rintro e w1 ⟨rfl,hb1,ho1⟩
   have HB1:=Lib.hid hb1
   have HO1:=Lib.hid ho1
   clear hb1 ho1
   go_wp2_with fail
   refine(least_any g lo _ _ _ _ _ HB1.out).mono ?_
   rintro e w2 ⟨rfl,hb2,ho2⟩
   have HB2:=Lib.hid hb2
   have HO2:=Lib.hid (HO1.out.trans ho2)
   clear hb2 ho2
   go_wp2
   go_ret
   exact⟨rfl,HB2.out,HO2.out⟩
  ·unfold cutLo cutHi cutOk
   rw[if_neg k1,if_neg k1,if_neg k1,if_neg k2,if_neg k2,if_neg k2]
   obtain rfl:d=0:=by omega
   have HB:=Lib.hid hb
   clear hb
   by_cases k3:0≤f
   all_goals
    go_enter Tryz.func123,Tryz.ntmps123
    go_wp2
    go_ret
    exact⟨ret_bool (by first | (simp;done) | (simp;omega) | (simp[k3];done)),HB.out,(Since.rfl_ w).only g⟩
theorem clampI_bd(x:Int) : -1048576≤clampI x∧clampI x≤1048576:=by unfold clampI;omega
def meetsLo(f1 d1 f2 d2:Int):Bnd:=cutLo (cutLo (0,1,true) f1 d1) f2 d2
def meetsHi(f1 d1 f2 d2:Int):Bnd:=cutHi (cutHi (1,1,true) f1 d1) f2 d2
def endE(lo hi:Bnd):Bool:=if bndCmp lo.1 lo.2.1 hi.1 hi.2.1<0 then true else if bndCmp lo.1 lo.2.1 hi.1 hi.2.1=0 then lo.2.2 && hi.2.2 else false
def meetsE(f1 d1 f2 d2:Int):Bool:=endE (meetsLo f1 d1 f2 d2) (meetsHi f1 d1 f2 d2)
def meetsV(ax ay bx by_ px py:Int):Bool:=cutOk (2*(ax-px)+1) (2*(bx-ax)) && cutOk (2*(ay-py)+1) (2*(by_-ay)) && meetsE (2*(ax-px)+1) (2*(bx-ax)) (2*(ay-py)+1) (2*(by_-ay))
end
section
open Go.RowKit Go.BigFrame
attribute [local go_sem] max2_int min2_int max_two min_two
theorem mul_bd{a b:Int}{A B:Nat}(ha:a.natAbs≤A)(hb:b.natAbs≤B):(a*b).natAbs≤A*B:=by rw[Int.natAbs_mul];exact Nat.mul_le_mul ha hb
theorem wrap_id{x:Int}(h:x.natAbs≤4611686018427387904):wrap64 x=x:=by unfold wrap64;omega
def sgn(n:Int):Int:=if 0<n then 1 else if n<0 then -1 else 0
end
section
open Go.RowKit Go.BigFrame
theorem hpt:Tryz.prog.stoodInHeld 36=false:=by kernel_rfl
theorem eqPtS(x y x' y' : Int)(d:Nat)(w:World):(Op.equalIn (d+1+1) 36 (.agg #[.int .i64 x,.int .i64 y]) (.agg #[.int .i64 x',.int .i64 y'])).run Tryz.prog w=.ok (x == x' && y == y') w:=by
 rw[run_equalIn_struct (P:=Tryz.prog) w (d+1) 36 _ _ (by simp[Program.fieldsOf,Tryz.underlying36]) hpt]
 simp only[Program.fieldsOf,Tryz.underlying36]
 have h1:=run_equalIn_int (P:=Tryz.prog) w d 3 .i64 .i64 x x' Tryz.underlying3
 have h2:=run_equalIn_int (P:=Tryz.prog) w d 3 .i64 .i64 y y' Tryz.underlying3
 cases e1:(x == x') <;> cases e2:(y == y') <;> simp[Op.eqFields,go_sem,h1,h2,e1,e2]
theorem eqPt(x y x' y' : Int)(w:World):(binOp .eql 36 (.agg #[.int .i64 x,.int .i64 y]) (.agg #[.int .i64 x',.int .i64 y'])).run Tryz.prog w=.ok (.bool (x == x' && y == y')) w:=by
 have h:(Op.equal 36 (.agg #[.int .i64 x,.int .i64 y]) (.agg #[.int .i64 x',.int .i64 y'])).run Tryz.prog w=.ok (x == x' && y == y') w:=eqPtS x y x' y' 9998 w
 simp only[binOp]
 simp[h]
theorem neqPt(x y x' y' : Int)(w:World):(binOp .neq 36 (.agg #[.int .i64 x,.int .i64 y]) (.agg #[.int .i64 x',.int .i64 y'])).run Tryz.prog w=.ok (.bool (!(x == x' && y == y'))) w:=by
 have h:(Op.equal 36 (.agg #[.int .i64 x,.int .i64 y]) (.agg #[.int .i64 x',.int .i64 y'])).run Tryz.prog w=.ok (x == x' && y == y') w:=eqPtS x y x' y' 9998 w
 simp only[binOp]
 simp[h]
attribute [local go_sem ↓] eqPt neqPt
def okP(x y:Int):Bool:=decide (-1048576≤x) && decide (x≤1048576) && decide (-1048576≤y) && decide (y≤1048576)
theorem okP_iff{x y:Int}:okP x y=true↔(-1048576≤x∧x≤1048576)∧(-1048576≤y∧y≤1048576):=by
 unfold okP;simp only[Bool.and_eq_true,decide_eq_true_eq];omega
theorem okP_eq(x y:Int):(x == clampI x && y == clampI y)=okP x y:=by
 rw[Bool.eq_iff_iff,okP_iff,Bool.and_eq_true,beq_iff_eq,beq_iff_eq];unfold clampI;omega
theorem Ok_any(x y:Int)(w:World):Calls Tryz.prog 45 #[.agg #[.int .i64 x,.int .i64 y]] w fun e w' => e=.returned (.bool (okP x y))∧Since w w' := by
 go_enter Tryz.func45,Tryz.ntmps45
 go_wp2
 refine region_cls (fun w' => w'.cell? ⟨w.heap.size,0,none⟩=some (.int .i64 x)∧w'.cell? ⟨w.heap.size,1,none⟩=some (.int .i64 y)∧Since w w') (by kernel_rfl) (by kernel_rfl) (by(repeat' refine And.intro ?_ ?_) <;> first | (simp (maxDischargeDepth:=9) [ cSetS,cSetO,cellNew,World.cell?_alloc_some,cellDrew];done) | (repeat (first | with_reducible assumption | with_reducible exact Since.rfl_ _ | refine Since.setCell ?_ (by(try dsimp only);omega) _ | refine Since.alloc ?_ _ | refine Since.drew ?_))) ?_
 repeat (go_big_quiet_step ((first | (intro hC;go_at_call 69;refine(Clamp_any _ _ _).mono ?_;rintro e w' ⟨rfl,hb⟩;refine⟨rfl,?_⟩;have k1:=keepC hb;have k2:=keepS hb;have hC:=hC.out;(try dsimp only at hC);simp[Cls,hC,k1,k2]) | (intro hC;have hC:=hC.out;(try simp only[hC,Result.andThen]);first | exact⟨True.intro,rfl⟩ | exact⟨rfl,rfl⟩ | rfl))))
 refine cls_end ?_
 rintro w1 ⟨-,-,hs⟩
 have HS:=Lib.hid hs
 clear hs
 go_wp2
 go_ret
 exact⟨ret_bool (okP_eq x y),HS.out⟩
def rnd(n d:Int):Int:=(2*n+d)/(2*d)
end
section
open Go.RowKit Go.BigFrame
attribute [local go_sem ↓] eqPt neqPt
abbrev CutT:=Int×Int×Int×Int
end
section
open Go.RowKit Go.BigFrame
attribute [local go_sem ↓] eqPt neqPt
abbrev Pt2:=Int×Int
def pAt(l:List Pt2)(i:Nat):Pt2:=l.getD i (0,0)
def PtsS(w:World)(v:Value)(l:List Pt2):Prop :=
 ∃ a c,v=.slice a l.length c∧∀ i,i<l.length→∃ g o:Nat,a=some ⟨g,o,none⟩∧w.cell? ⟨g,o+i*2,none⟩=some (.int .i64 (pAt l i).1)∧w.cell? ⟨g,o+i*2+1,none⟩=some (.int .i64 (pAt l i).2)
theorem PtsS.keep{w w' : World}{v:Value}{l:List Pt2}(h:PtsS w v l)(k:∀ p u,w.cell? p=some u→w'.cell? p=some u):PtsS w' v l:=by
 obtain⟨a,c,hv,h⟩:=h
 refine⟨a,c,hv,fun i hi=>?_⟩
 obtain⟨g,o,ha,h1,h2⟩:=h i hi
 exact⟨g,o,ha,k _ _ h1,k _ _ h2⟩
theorem PtsS.since{w w' : World}{v:Value}{l:List Pt2}(h:PtsS w v l)(k:Since w w'):PtsS w' v l:=h.keep (keepC k)
theorem Ok_val{x y:Int}{b:Bool}(h:okP x y=b)(w:World):Calls Tryz.prog 45 #[.agg #[.int .i64 x,.int .i64 y]] w fun e w' => e=.returned (.bool b)∧Since w w' := h ▸ Ok_any x y w
end
section
open Go.RowKit Go.BigFrame
attribute [local go_sem ↓] eqPt neqPt
theorem pAt_ext{l m:List Pt2}(h:l.length=m.length)(k:∀ i,i<l.length→pAt l i=pAt m i):l=m:=by
 refine List.ext_getElem h fun i h1 h2=>?_
 have:=k i h1
 unfold pAt at this
 simpa[List.getD,h1,h2] using this
def rAt(l:List (List Pt2))(i:Nat):List Pt2:=l.getD i []
set_option maxHeartbeats 1000000 in
theorem Equal_any(v v' : Value)(l m:List Pt2)(w:World)(hl:l.length≤1000000000000000)(hm:m.length≤1000000000000000)(hv:PtsS w v l)(hv' : PtsS w v' m) :
  Calls Tryz.prog 47 #[v,v'] w fun e w' => e=.returned (.bool (decide (l=m)))∧Since w w' := by
 obtain⟨a,c,rfl,hv⟩:=hv
 obtain⟨a',c',rfl,hv'⟩:=hv'
 have HV:=Lib.hid hv
 have HV' := Lib.hid hv'
 clear hv hv'
 by_cases hlen:l.length=m.length
 ·have hz:((l.length:Int) == m.length)=true:=by rw[beq_iff_eq];omega
  have hz' : ((l.length:Int) != m.length)=false:=by unfold bne;rw[hz];rfl
  have HL:=Lib.hid hlen
  clear hlen
  go_enter Tryz.func47,Tryz.ntmps47
  go_wp2
  go_loopw [13] (fun v wr=>∃ k:Nat,k≤l.length∧v=.int .i64 k∧Hid (∀ i,i<k→pAt l i=pAt m i)∧Since w wr) (fun v _=>l.length-(intOf v).toNat)
  case atStart=>exact⟨0,Nat.zero_le _,rfl,fun i hi=>absurd hi (Nat.not_lt_zero _),by first | exact Since.rfl_ w | exact(Since.rfl_ w).drew⟩
  case round =>
   obtain⟨k,hk,rfl,HG,hs⟩:=hrel
   rcases Nat.lt_or_ge k l.length with hlt | hge
   ·have hlt' : k<m.length:=by have:=HL.out;omega
    obtain⟨g,o,ha,e0,e1⟩:=HV.out k hlt
    subst ha
    obtain⟨g',o',ha',d0,d1⟩:=HV'.out k hlt'
    subst ha'
    replace e0:=keepC hs _ _ e0
    replace e1:=keepC hs _ _ e1
    replace d0:=keepC hs _ _ d0
    replace d1:=keepC hs _ _ d1
    have HS:=Lib.hid hs
    clear hs
    by_cases hb:pAt l k=pAt m k
    ·have HG2:Hid (∀ i,i<k+1→pAt l i=pAt m i):=fun i hi=>by
      rcases Nat.lt_succ_iff_lt_or_eq.1 hi with h | h
      ·exact HG.out i h
      ·rw[h];exact hb
     have hx:((pAt l k).1 == (pAt m k).1)=true:=by rw[hb];simp
     have hy:((pAt l k).2 == (pAt m k).2)=true:=by rw[hb];simp
     clear HG hb
     go_wp2
     refine region_cls (fun w' => w'.cell? ⟨g,o+k*2,none⟩=some (.int .i64 (pAt l k).1)∧w'.cell? ⟨g,o+k*2+1,none⟩=some (.int .i64 (pAt l k).2)∧w'.cell? ⟨g',o' + k*2,none⟩=some (.int .i64 (pAt m k).1)∧w'.cell? ⟨g',o' + k*2+1,none⟩=some (.int .i64 (pAt m k).2)∧Since wr w') (by kernel_rfl) (by kernel_rfl) (by(repeat' refine And.intro ?_ ?_) <;> first | (simp (maxDischargeDepth:=9) [e0,e1,d0,d1,  cSetS,cSetO,cellNew,World.cell?_alloc_some,cellDrew];done) | (repeat (first | with_reducible assumption | with_reducible exact Since.rfl_ _ | refine Since.setCell ?_ (by(try dsimp only);omega) _ | refine Since.alloc ?_ _ | refine Since.drew ?_))) ?_
     repeat (go_big_quiet_step ((first | (intro hC;have hC:=hC.out;(try simp only[hC,Result.andThen]);first | exact⟨True.intro,rfl⟩ | exact⟨rfl,rfl⟩ | rfl))))
     refine cls_end ?_
     clear e0 e1 d0 d1
     rintro w3 ⟨-,-,-,-,hs⟩
     have HS2:=Lib.hid (HS.out.trans hs)
     clear hs
     go_wp2
     go_roundw
     case rel=>exact⟨k+1,by omega,by go_num,HG2,HS2.out⟩
     case measure=>simp[intOf];omega
    ·have HN:Hid (decide (l=m)=false):=by
      show _=_
      rw[decide_eq_false_iff_not]
      rintro rfl
      exact hb rfl
     have HB:=Lib.hid hb
     clear hb
     cases hx:((pAt l k).1 == (pAt m k).1)
     ·go_wp2
      refine region_cls (fun w' => w'.cell? ⟨g,o+k*2,none⟩=some (.int .i64 (pAt l k).1)∧w'.cell? ⟨g,o+k*2+1,none⟩=some (.int .i64 (pAt l k).2)∧w'.cell? ⟨g',o' + k*2,none⟩=some (.int .i64 (pAt m k).1)∧w'.cell? ⟨g',o' + k*2+1,none⟩=some (.int .i64 (pAt m k).2)∧Since wr w') (by kernel_rfl) (by kernel_rfl) (by(repeat' refine And.intro ?_ ?_) <;> first | (simp (maxDischargeDepth:=9) [e0,e1,d0,d1,  cSetS,cSetO,cellNew,World.cell?_alloc_some,cellDrew];done) | (repeat (first | with_reducible assumption | with_reducible exact Since.rfl_ _ | refine Since.setCell ?_ (by(try dsimp only);omega) _ | refine Since.alloc ?_ _ | refine Since.drew ?_))) ?_
      repeat (go_big_quiet_step ((first | (intro hC;have hC:=hC.out;(try simp only[hC,Result.andThen]);first | exact⟨True.intro,rfl⟩ | exact⟨rfl,rfl⟩ | rfl))))
      refine cls_end ?_
      clear e0 e1 d0 d1
      rintro w3 ⟨-,-,-,-,hs⟩
      have HS2:=Lib.hid (HS.out.trans hs)
      clear hs
      go_wp2
      go_ret
      exact⟨ret_bool HN.out.symm,HS2.out⟩
     ·cases hy:((pAt l k).2 == (pAt m k).2)
      ·go_wp2
       refine region_cls (fun w' => w'.cell? ⟨g,o+k*2,none⟩=some (.int .i64 (pAt l k).1)∧w'.cell? ⟨g,o+k*2+1,none⟩=some (.int .i64 (pAt l k).2)∧w'.cell? ⟨g',o' + k*2,none⟩=some (.int .i64 (pAt m k).1)∧w'.cell? ⟨g',o' + k*2+1,none⟩=some (.int .i64 (pAt m k).2)∧Since wr w') (by kernel_rfl) (by kernel_rfl) (by(repeat' refine And.intro ?_ ?_) <;> first | (simp (maxDischargeDepth:=9) [e0,e1,d0,d1,  cSetS,cSetO,cellNew,World.cell?_alloc_some,cellDrew];done) | (repeat (first | with_reducible assumption | with_reducible exact Since.rfl_ _ | refine Since.setCell ?_ (by(try dsimp only);omega) _ | refine Since.alloc ?_ _ | refine Since.drew ?_))) ?_
       repeat (go_big_quiet_step ((first | (intro hC;have hC:=hC.out;(try simp only[hC,Result.andThen]);first | exact⟨True.intro,rfl⟩ | exact⟨rfl,rfl⟩ | rfl))))
       refine cls_end ?_
       clear e0 e1 d0 d1
       rintro w3 ⟨-,-,-,-,hs⟩
       have HS2:=Lib.hid (HS.out.trans hs)
       clear hs
       go_wp2
       go_ret
       exact⟨ret_bool HN.out.symm,HS2.out⟩
      ·exact absurd (Prod.ext (beq_iff_eq.1 hx) (beq_iff_eq.1 hy)) HB.out
   ·have HN:Hid (decide (l=m)=true):=by
     show _=_
     rw[decide_eq_true_eq]
     exact pAt_ext HL.out fun i hi=>HG.out i (by omega)
    have HS:=Lib.hid hs
    clear hs
    go_wp2
    go_ret
    exact⟨ret_bool HN.out.symm,HS.out⟩
 ·have hz:((l.length:Int) == m.length)=false:=by rw[beq_eq_false_iff_ne];omega
  have HN:Hid (decide (l=m)=false):=by
   show _=_
   rw[decide_eq_false_iff_not]
   rintro rfl
   exact hlen rfl
  clear hlen
  go_enter Tryz.func47,Tryz.ntmps47
  go_wp2
  go_ret
  exact⟨ret_bool HN.out.symm,Since.rfl_ w⟩
def LisS(w:World)(v:Value)(ls:List (List Pt2)):Prop :=
 ∃ a c,v=.slice a ls.length c∧∀ i,i<ls.length→∃ g o:Nat,a=some ⟨g,o,none⟩∧∃ u,w.cell? ⟨g,o+i,none⟩=some u∧PtsS w u (rAt ls i)
theorem LisS.since{w w' : World}{v:Value}{l:List (List Pt2)}(h:LisS w v l)(k:Since w w'):LisS w' v l:=by
 obtain⟨a,c,hv,h⟩:=h
 refine⟨a,c,hv,fun i hi=>?_⟩
 obtain⟨g,o,ha,u,h1,h2⟩:=h i hi
 exact⟨g,o,ha,u,keepC k _ _ h1,h2.since k⟩
end
section
open Go.RowKit Go.BigFrame
attribute [local go_sem ↓] eqPt neqPt
def ptV(p:Pt2):List Value:=[.int .i64 p.1,.int .i64 p.2]
theorem ptV_len(p:Pt2):(ptV p).length=2:=rfl
def PtsB(w:World)(v:Value)(l:List Pt2)(B:Nat):Prop :=
 ∃ a c,v=.slice a l.length c∧∀ i,i<l.length→∃ (g o:Nat) (cs:Array Value),a=some ⟨g,o,none⟩∧g<B∧Blk w g 36 cs∧cs[o+i*2]? = some (.int .i64 (pAt l i).1)∧cs[o+i*2+1]? = some (.int .i64 (pAt l i).2)
theorem PtsB.pts{w:World}{v:Value}{l:List Pt2}{B:Nat}(h:PtsB w v l B):PtsS w v l:=by
 obtain⟨a,c,hv,h⟩:=h
 refine⟨a,c,hv,fun i hi=>?_⟩
 obtain⟨g,o,cs,ha,-,hb,h1,h2⟩:=h i hi
 exact⟨g,o,ha,by rw[hb.cell];exact h1,by rw[hb.cell];exact h2⟩
theorem PtsB.keep{w w' : World}{v:Value}{l:List Pt2}{B B' : Nat}(h:PtsB w v l B)(hB:B≤B')(k:∀ g cs,g<B→Blk w g 36 cs→Blk w' g 36 cs):PtsB w' v l B' := by
 obtain⟨a,c,hv,h⟩:=h
 refine⟨a,c,hv,fun i hi=>?_⟩
 obtain⟨g,o,cs,ha,hg,hb,h1,h2⟩:=h i hi
 exact⟨g,o,cs,ha,by omega,k _ _ hg hb,h1,h2⟩
theorem own_pts{w:World}{b B:Nat}{v:Value}{l:List Pt2}(h:w.ownsRow b 36 2 v l.length (l.flatMap ptV))(hB:w.heap.size≤B):PtsB w v l B:=by
 have h0:=h
 obtain⟨hl,⟨rfl,hn⟩ | ⟨g,cap,cur,rfl,hb,hg,hc,hm,hs,ht⟩⟩:=h
 ·exact⟨none,0,by rw[hn],fun i hi=>by omega⟩
 ·refine⟨some ⟨g,0,none⟩,cap,rfl,fun i hi=>⟨g,0,cur,rfl,?_,hg,?_,?_⟩⟩
  ·have:=Blk.lt hg;omega
  ·have h1:=flat_at ptV_len l i 0 hi (by decide)
   have:(l.flatMap ptV)[i*2+0]? = cur[i*2+0]? := by
    rw[← ht,List.getElem?_take,if_pos (by omega)];simp
   simp only[Nat.zero_add,Nat.add_zero] at this h1 ⊢
   rw[← this,h1];simp[ptV,pAt,List.getD,hi]
  ·have h1:=flat_at ptV_len l i 1 hi (by decide)
   have:(l.flatMap ptV)[i*2+1]? = cur[i*2+1]? := by
    rw[← ht,List.getElem?_take,if_pos (by omega)];simp
   simp only[Nat.zero_add] at this h1 ⊢
   rw[← this,h1];simp[ptV,pAt,List.getD,hi]
theorem Blk.grown{w w' : World}{g:Nat}{t:TypeId}{cs:Array Value}{row:Option Nat}(h:Blk w g t cs)(hg:w.grownBy w' row)(hne:some g≠row):Blk w' g t cs:=(hg.block g h.lt hne).trans h
def LStV(w0 w:World)(g5 g6 BO:Nat)(outs:List (List Pt2))(now:List Pt2)(vout vnow:Value)(us:List Value)(B:Nat):Prop :=
 Blk w g5 85 #[vout]∧Blk w g6 23 #[vnow]∧g5≠g6∧g5<BO∧g6<BO∧w0.heap.size≤g5∧w0.heap.size≤g6∧BO≤B∧B≤w.heap.size ∧
  w.ownsRow BO 23 1 vout outs.length us∧(∀ i,i<outs.length→∃ u,us[i]? = some u∧PtsB w u (rAt outs i) B) ∧
  w.ownsRow B 36 2 vnow now.length (now.flatMap ptV)∧Since w0 w∧(now=[]→vnow=.slice none 0 0)
def LSt(w0 w:World)(g5 g6 BO:Nat)(outs:List (List Pt2))(now:List Pt2):Prop :=
 ∃ (vout vnow:Value) (us:List Value) (B:Nat),LStV w0 w g5 g6 BO outs now vout vnow us B
theorem LSt.since{w0 w w' : World}{g5 g6 BO:Nat}{outs:List (List Pt2)}{now:List Pt2}(h:LSt w0 w g5 g6 BO outs now)(k:Since w w'):LSt w0 w' g5 g6 BO outs now:=by
 obtain⟨vout,vnow,us,B,h5,h6,hne,l5,l6,m5,m6,hB,hs,ho,hr,hn,hS,hE⟩:=h
 refine⟨vout,vnow,us,B,k.blk h5,k.blk h6,hne,l5,l6,m5,m6,hB,Nat.le_trans hs k.size,own_since k ho,fun i hi=>?_,own_since k hn,hS.trans k,hE⟩
 obtain⟨u,hu,hp⟩:=hr i hi
 exact⟨u,hu,hp.keep (Nat.le_refl _) fun g cs _ hb=>k.blk hb⟩
theorem infoPt:(Tryz.prog.info? 36).map (fun i=>(i.zero,i.size,i.bytes))=some (some (.agg #[.int .i64 0,.int .i64 0]),2,16):=by kernel_rfl
theorem infoPts:(Tryz.prog.info? 23).map (fun i=>(i.zero,i.size,i.bytes))=some (some (.slice none 0 0),1,24):=by kernel_rfl
theorem own_slice{w:World}{b:Nat}{e:TypeId}{k n:Nat}{v:Value}{xs:List Value}(h:w.ownsRow b e k v n xs):∃ a c,v=.slice a n c:=by
 obtain⟨-,⟨rfl,rfl⟩ | ⟨g,cap,cur,rfl,-⟩⟩:=h
 ·exact⟨none,0,rfl⟩
 ·exact⟨some ⟨g,0,none⟩,cap,rfl⟩
theorem own_ne{w:World}{b g:Nat}{e:TypeId}{k n:Nat}{v:Value}{xs:List Value}(h:w.ownsRow b e k v n xs)(hg:g<b):some g≠v.ownBlock:=fun hk=>by
 have:=h.lt g hk.symm
 omega
theorem set_grown(w:World)(p:Addr)(u:Value):w.grownBy (w.setCell p u) (some p.block) :=
 ⟨rfl,rfl,rfl,by simp[World.setCell],fun k _ hk=>Below.heap_setCell w p u k (fun e=>hk (by rw[e]))⟩
theorem own_far{w:World}{b:Nat}{e:TypeId}{k n:Nat}{v:Value}{xs:List Value}(h:w.ownsRow b e k v n xs){p:Addr}(hp:some p.block≠v.ownBlock)(u:Value):(w.setCell p u).ownsRow b e k v n xs :=
 h.kept (set_grown w p u) (.inr (Ne.symm hp))
theorem cell2_new(w:World)(x y:Value)(t:TypeId):∀ j u,[x,y][j]? = some u→(w.alloc (.cells #[x,y] t)).cell? ((⟨w.heap.size,0,none⟩:Addr).add j)=some u:=by
 intro j u hu
 rcases j with _ | _ | j
 ·rw[← hu];exact(Blk.new w t #[x,y]).cell 0
 ·rw[← hu];exact(Blk.new w t #[x,y]).cell 1
 ·simp at hu
theorem one2(k k' : IntKind)(a b:Int):∀ u∈[Value.int k a,.int k' b],u.oneCell' = true:=by
 intro u hu
 simp only[List.mem_cons,List.not_mem_nil,or_false] at hu
 rcases hu with rfl | rfl <;> rfl
theorem Blk.new'{w:World}{g:Nat}{t:TypeId}{cs:Array Value}(h:g=w.heap.size):Blk (w.alloc (.cells cs t)) g t cs:=by subst h;exact Blk.new w t cs
theorem Blk.pair{w:World}{g:Nat}{t:TypeId}{a b x y:Value}(h:Blk w g t #[a,b]):Blk ((w.setCell ⟨g,0,none⟩ x).setCell ⟨g,1,none⟩ y) g t #[x,y]:=(h.set_ 0 x).set_ 1 y
section
variable {w0 w wA w' : World} {g5 g6 BO : Nat} {outs : List (List Pt2)} {now : List Pt2} {p : Pt2} {vout vnow v' : Value} {us : List Value} {B : Nat}
end
def endO(outs:List (List Pt2))(now:List Pt2):List (List Pt2):=if 1<now.length then outs++[now] else outs
end
section
open Go.RowKit Go.BigFrame
abbrev SegT:=Option (CutT×CutT)
def cutP(k:CutT):Pt2:=(k.2.2.1,k.2.2.2)
def lastP(l:List Pt2):Pt2:=pAt l (l.length-1)
def addP(l:List Pt2)(p:Pt2):List Pt2:=if l.length=0 then l++[p] else l
def addQ(l:List Pt2)(q:Pt2):List Pt2:=if q=lastP l then l else l++[q]
def lineS(outs:List (List Pt2))(now:List Pt2)(f:CutT):List (List Pt2)×List Pt2:=if f.1=0 then(outs,now) else(endO outs now,[])
def lineStep(outs:List (List Pt2))(now:List Pt2):SegT→List (List Pt2)×List Pt2
 | none=>(endO outs now,[])
 | some p=>if p.2.1=p.2.2.1 then((lineS outs now p.1).1,addQ (addP (lineS outs now p.1).2 (cutP p.1)) (cutP p.2)) else(endO (lineS outs now p.1).1 (addQ (addP (lineS outs now p.1).2 (cutP p.1)) (cutP p.2)),[])
def lineRun(seg:Nat→SegT):Nat→Nat→List (List Pt2)→List Pt2→List (List Pt2)×List Pt2
 | 0,_,o,n=>(o,n)
 | k+1,i,o,n=>lineRun seg k (i+1) (lineStep o n (seg i)).1 (lineStep o n (seg i)).2
end
end Go.Proofs.YtdnccjdlmepafaaGreat
