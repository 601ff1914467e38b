/-
  Plain laws of rounded chains: what a common point of two segments is; Plain laws of rounded chains: the common point of two segments, and its pixel; Plain laws of rounded chains: the hot set never grows; Plain laws of rounded chains: states of the loop; Plain laws of rounded chains: the loop ends; The fact rounds(): two crossing segments; terrmake.line, and what is left of the stream. Conditions: those that each lemma names.
-/
import Derived.Test.YtdnccjdlmepafaaGreatK14
import Derived.Test.YtdnccjdlmepafaaGreatK03
set_option linter.unusedSimpArgs false
set_option linter.unusedVariables false
set_option linter.constructorNameAsVariable false
namespace Go.Proofs.YtdnccjdlmepafaaGreat
section
theorem inv_{d:Rat}(h:d≠0):∃ i:Rat,i*d=1:=⟨d⁻¹,Rat.inv_mul_cancel d h⟩
theorem crsQ(a b c:Pt2):((crs a b c:Int):Rat)=((b.1:Rat)-a.1)*(c.2-a.2)-((b.2:Rat)-a.2)*(c.1-a.1):=by unfold crs crossV;push_cast;grind
theorem castNe{x y:Int}(h:x≠y):(x:Rat)≠y:=fun e=>h (Rat.intCast_inj.1 e)
theorem cast0{x:Int}:(x:Rat)=0↔x=0:=⟨fun e=>Rat.intCast_inj.1 (by simpa using e),fun e=>by rw[e];rfl⟩
theorem castPos{x:Int}:0<(x:Rat)↔0<x:=by
 have:=Rat.intCast_lt_intCast (a:=0) (b:=x)
 simpa using this
theorem castNeg{x:Int}:(x:Rat)<0↔x<0:=by
 have:=Rat.intCast_lt_intCast (a:=x) (b:=0)
 simpa using this
theorem sq_nonneg'(x:Rat):0≤x*x:=by
 rcases Rat.le_total (a:=0) (b:=x) with h | h
 ·exact Rat.mul_nonneg h h
 ·have:=Rat.mul_nonneg (a := -x) (b := -x) (by grind) (by grind)
  grind
theorem toQ_inj{p q:Pt2}(h:toQ p=toQ q):p=q:=by
 unfold toQ at h
 injection h with h1 h2
 exact Prod.ext (Rat.intCast_inj.1 h1) (Rat.intCast_inj.1 h2)
theorem par_line{a b c d:Pt2}(hab:a≠b){l m:Rat}(e:lerp (toQ a) (toQ b) l=lerp (toQ c) (toQ d) m)(hD:crs c d a-crs c d b=0):OneLine a b c d:=by
 have hq:((crs c d a:Int):Rat)-((crs c d b:Int):Rat)=0:=by
  have:=cast0.2 hD;push_cast at this;exact this
 rw[crsQ,crsQ] at hq
 unfold lerp toQ at e
 injection e with e1 e2
 dsimp only at e1 e2
 obtain⟨k,k1,k2⟩:∃ k:Rat,(d.1:Rat)-c.1=k*((b.1:Rat)-a.1)∧(d.2:Rat)-c.2=k*((b.2:Rat)-a.2):=by
  by_cases h1:b.1=a.1
  ·have h2:b.2≠a.2:=fun h2=>hab (Prod.ext h1.symm h2.symm)
   have hd:((b.2:Rat)-a.2)≠0:=fun k=>castNe h2 (by grind)
   obtain⟨i,hi⟩:=inv_ hd
   have hb:(b.1:Rat)=a.1:=by rw[h1]
   refine⟨((d.2:Rat)-c.2)*i,?_,by grind⟩
   have:((d.1:Rat)-c.1)*((b.2:Rat)-a.2)=0:=by grind
   rcases Rat.mul_eq_zero.1 this with h | h
   ·rw[h,hb];grind
   ·exact absurd h hd
  ·have hd:((b.1:Rat)-a.1)≠0:=fun k=>castNe h1 (by grind)
   obtain⟨i,hi⟩:=inv_ hd
   refine⟨((d.1:Rat)-c.1)*i,by grind,?_⟩
   have:(((d.2:Rat)-c.2)-((d.1:Rat)-c.1)*i*((b.2:Rat)-a.2))*((b.1:Rat)-a.1)=0:=by grind
   rcases Rat.mul_eq_zero.1 this with h | h
   ·grind
   ·exact absurd h hd
 refine⟨l-m*k,l-m*k+k,?_,?_⟩
 ·unfold lerp toQ;apply Prod.ext <;> dsimp only <;> grind
 ·unfold lerp toQ;apply Prod.ext <;> dsimp only <;> grind
theorem addS_sub{L:List Pt2}{p q r x:Pt2}(h:x∈L):x∈addS L p q r:=by
 unfold addS;split
 ·exact List.mem_append_left _ h
 ·exact h
theorem addS_self{L:List Pt2}{p q r:Pt2}(h:onV q r p=true):p∈addS L p q r:=by
 unfold addS;split
 ·simp
 ·rename_i k
  exact Classical.byContradiction fun hn=>k ⟨h,hn⟩
theorem addS_nodup{L:List Pt2}{p q r:Pt2}(h:L.Nodup):(addS L p q r).Nodup:=by
 unfold addS;split
 ·rename_i k
  rw[List.nodup_append]
  exact⟨h,by simp,fun a ha b hb e=>by rw[List.mem_singleton] at hb;rw[e,hb] at ha;exact k.2 ha⟩
 ·exact h
theorem sharedL_nodup(a b c d:Pt2):(sharedL a b c d).Nodup:=addS_nodup (addS_nodup (addS_nodup (addS_nodup List.nodup_nil)))
theorem sharedL_of{a b c d:Pt2}:(onV c d a=true→a∈sharedL a b c d)∧(onV c d b=true→b∈sharedL a b c d)∧(onV a b c=true→c∈sharedL a b c d)∧(onV a b d=true→d∈sharedL a b c d):=by
 unfold sharedL
 exact⟨fun h=>addS_sub (addS_sub (addS_sub (addS_self h))),fun h=>addS_sub (addS_sub (addS_self h)),fun h=>addS_sub (addS_self h),fun h=>addS_self h⟩
theorem onV_crs{a b p:Pt2}(ha:okP a.1 a.2=true)(hb:okP b.1 b.2=true)(hp:okP p.1 p.2=true)(h:onV a b p=true):crs a b p=0:=by
 unfold onV at h
 rw[Bool.and_eq_true,beq_iff_eq,turn_crs ha hb hp] at h
 have:=h.1
 unfold cmpI at this
 repeat' split at this
 all_goals omega
theorem onV_of{a b p:Pt2}(ha:okP a.1 a.2=true)(hb:okP b.1 b.2=true)(hp:okP p.1 p.2=true){t:Rat}(ht:I01 t)(e:toQ p=lerp (toQ a) (toQ b) t):onV a b p=true:=by
 unfold lerp toQ at e
 injection e with e1 e2
 dsimp only at e1 e2
 unfold onV
 rw[Bool.and_eq_true,beq_iff_eq,decide_eq_true_eq,turn_crs ha hb hp]
 constructor
 ·have:crs a b p=0:=cast0.1 (by rw[crsQ,e1,e2];grind)
  rw[this];rfl
 ·rw[(clamp_id ha).1,(clamp_id ha).2,(clamp_id hb).1,(clamp_id hb).2,(clamp_id hp).1,(clamp_id hp).2]
  refine Classical.byContradiction fun hn=>?_
  have hpos:=castPos.2 (show 0<dotV p.1 p.2 a.1 a.2 b.1 b.2 by omega)
  unfold dotV at hpos
  push_cast at hpos
  rw[e1,e2] at hpos
  unfold I01 at ht
  have s1:=Rat.mul_nonneg (a:=t) (b:=1-t) ht.1 (by grind)
  have q1:=sq_nonneg' ((b.1:Rat)-a.1)
  have q2:=sq_nonneg' ((b.2:Rat)-a.2)
  have r1:=Rat.mul_nonneg s1 q1
  have r2:=Rat.mul_nonneg s1 q2
  grind
end
section
theorem one_elem{α:Type}{L:List α}{e:α}(h:e∈L)(hn:L.Nodup)(k:∀ x∈L,x=e):L=[e]:=by
 rcases L with _ | ⟨x,L⟩
 ·cases h
 ·have hx:=k x (by simp)
  rcases L with _ | ⟨y,L⟩
  ·rw[hx]
  ·have hy:=k y (by simp)
   rw[List.nodup_cons] at hn
   exact absurd (by rw[hx,hy];simp) hn.1
theorem rnd_box{V D h:Int}{X:Rat}(hD:0<D)(hX:X*D=V)(hh:h=rndF V D):Box (X-h):=by
 unfold rndF at hh
 have h1:=Int.ediv_mul_le (2*V+D) (show 2*D≠0 by omega)
 have h2:=Int.lt_ediv_add_one_mul_self (2*V+D) (show 0<2*D by omega)
 rw[← hh] at h1 h2
 have q1:((h*(2*D):Int):Rat)≤((2*V+D:Int):Rat):=Rat.intCast_le_intCast.2 h1
 have q2:((2*V+D:Int):Rat)<(((h+1)*(2*D):Int):Rat):=Rat.intCast_lt_intCast.2 h2
 push_cast at q1 q2
 have hd:0<(D:Rat):=castPos.2 hD
 unfold Box
 constructor
 ·refine Classical.byContradiction fun hn=>?_
  have:X-h < -1/2:=by grind
  have:=Rat.mul_pos (a := -1/2-(X-h)) (b:=(D:Rat)) (by grind) hd
  grind
 ·refine Classical.byContradiction fun hn=>?_
  have:=Rat.mul_nonneg (a:=(X-h)-1/2) (b:=(D:Rat)) (by grind) (by grind)
  grind
theorem clamp_box{h:Int}{X:Rat}(hX : -1048576≤X∧X≤1048576)(hb:Box (X-h)):clampI h=h:=by
 unfold Box at hb
 have h1:(h:Rat)<((1048577:Int):Rat):=by push_cast;grind
 have h2:((-1048577:Int):Rat)<(h:Rat):=by push_cast;grind
 have h1:=castLt h1
 have h2:=castLt h2
 unfold clampI;omega
theorem lerp_bd{a b:Int}{l:Rat}(ha : -1048576≤a∧a≤1048576)(hb : -1048576≤b∧b≤1048576)(hl:I01 l) : -1048576≤(a:Rat)+l*((b:Rat)-a)∧(a:Rat)+l*((b:Rat)-a)≤1048576:=by
 have c1:((-1048576:Int):Rat)≤a:=Rat.intCast_le_intCast.2 ha.1
 have c2:(a:Rat)≤((1048576:Int):Rat):=Rat.intCast_le_intCast.2 ha.2
 have c3:((-1048576:Int):Rat)≤b:=Rat.intCast_le_intCast.2 hb.1
 have c4:(b:Rat)≤((1048576:Int):Rat):=Rat.intCast_le_intCast.2 hb.2
 push_cast at c1 c2 c3 c4
 unfold I01 at hl
 have m1:=Rat.mul_nonneg (a:=l) (b:=(b:Rat)+1048576) hl.1 (by grind)
 have m2:=Rat.mul_nonneg (a:=l) (b:=1048576-(b:Rat)) hl.1 (by grind)
 have m3:=Rat.mul_nonneg (a:=1-l) (b:=(a:Rat)+1048576) (by grind) (by grind)
 have m4:=Rat.mul_nonneg (a:=1-l) (b:=1048576-(a:Rat)) (by grind) (by grind)
 grind
theorem common_snap{a b c d:Pt2}(ha:okP a.1 a.2=true)(hb:okP b.1 b.2=true)(hc:okP c.1 c.2=true)(hd:okP d.1 d.2=true){l m:Rat}(hl:I01 l)(hm:I01 m)
  (e:lerp (toQ a) (toQ b) l=lerp (toQ c) (toQ d) m) (hD:crs c d a-crs c d b≠0):smeetV a b c d=1∧inP (toQ (snapV a b c d)) (lerp (toQ a) (toQ b) l):=by
 obtain⟨X,hX⟩:∃ X,X=lerp (toQ a) (toQ b) l:=⟨_,rfl⟩
 have hX2:X=lerp (toQ c) (toQ d) m:=hX.trans e
 have x1:X.1=(a.1:Rat)+l*((b.1:Rat)-a.1):=by rw[hX];rfl
 have x2:X.2=(a.2:Rat)+l*((b.2:Rat)-a.2):=by rw[hX];rfl
 have y1:X.1=(c.1:Rat)+m*((d.1:Rat)-c.1):=by rw[hX2];rfl
 have y2:X.2=(c.2:Rat)+m*((d.2:Rat)-c.2):=by rw[hX2];rfl
 have hDq:((crs c d a:Int):Rat)-((crs c d b:Int):Rat)≠0:=fun k=>hD (by have:=castNe hD;push_cast at this;exact absurd k this)
 -- the numbers
 have n1:((crs c d a:Int):Rat)=l*(((crs c d a:Int):Rat)-((crs c d b:Int):Rat)):=by
  rw[crsQ,crsQ];grind
 have n2:((crs c d b:Int):Rat)=(l-1)*(((crs c d a:Int):Rat)-((crs c d b:Int):Rat)):=by grind
 have m1:((crs a b c:Int):Rat) = -m*(((crs c d a:Int):Rat)-((crs c d b:Int):Rat)):=by
  rw[crsQ,crsQ,crsQ];grind
 have m2:((crs a b d:Int):Rat)=(1-m)*(((crs c d a:Int):Rat)-((crs c d b:Int):Rat)):=by
  rw[crsQ,crsQ,crsQ];grind
 obtain⟨D,HDD⟩:∃ D:Rat,D=((crs c d a:Int):Rat)-((crs c d b:Int):Rat):=⟨_,rfl⟩
 rw[← HDD] at n1 n2 m1 m2 hDq
 have za:crs c d a=0→toQ a=X:=fun h=>by
  have h:=cast0.2 h
  rw[n1] at h
  rcases Rat.mul_eq_zero.1 h with h | h
  ·rw[hX,h,lerp0]
  ·exact absurd h hDq
 have zb:crs c d b=0→toQ b=X:=fun h=>by
  have h:=cast0.2 h
  rw[n2] at h
  rcases Rat.mul_eq_zero.1 h with h | h
  ·rw[hX,show l=1 by grind,lerp1]
  ·exact absurd h hDq
 have zc:crs a b c=0→toQ c=X:=fun h=>by
  have h:=cast0.2 h
  rw[m1] at h
  rcases Rat.mul_eq_zero.1 h with h | h
  ·rw[hX2,show m=0 by grind,lerp0]
  ·exact absurd h hDq
 have zd:crs a b d=0→toQ d=X:=fun h=>by
  have h:=cast0.2 h
  rw[m2] at h
  rcases Rat.mul_eq_zero.1 h with h | h
  ·rw[hX2,show m=1 by grind,lerp1]
  ·exact absurd h hDq
 have all:∀ x∈sharedL a b c d,toQ x=X:=fun x hx=>by
  rcases sharedL_mem hx with⟨rfl,h⟩ | ⟨rfl,h⟩ | ⟨rfl,h⟩ | ⟨rfl,h⟩
  ·exact za (onV_crs hc hd ha h)
  ·exact zb (onV_crs hc hd hb h)
  ·exact zc (onV_crs ha hb hc h)
  ·exact zd (onV_crs ha hb hd h)
 by_cases hs:∃ x,x∈sharedL a b c d
 ·obtain⟨x,hx⟩:=hs
  have h1:=one_elem hx (sharedL_nodup a b c d) fun y hy=>toQ_inj ((all y hy).trans (all x hx).symm)
  constructor
  ·unfold smeetV
   rw[h1]
   split
   ·rfl
   ·simp only[List.length_singleton];omega
  ·unfold snapV
   rw[h1]
   simp only[List.length_singleton,if_true]
   rw[← hX,← all x hx]
   have e:pAt [x] 0=x:=rfl
   rw[e];exact in_self x
 ·have hnil:sharedL a b c d=[]:=by
   rcases h:sharedL a b c d with _ | ⟨x,r⟩
   ·rfl
   ·exact absurd ⟨x,by rw[h];simp⟩ hs
  -- no end is shared: all four numbers are not nought
  have ne1:l≠0:=fun h=>hs ⟨a,sharedL_of.1 (onV_of hc hd ha hm (by rw[← e,h,lerp0]))⟩
  have ne2:l≠1:=fun h=>hs ⟨b,sharedL_of.2.1 (onV_of hc hd hb hm (by rw[← e,h,lerp1]))⟩
  have ne3:m≠0:=fun h=>hs ⟨c,sharedL_of.2.2.1 (onV_of ha hb hc hl (by rw[e,h,lerp0]))⟩
  have ne4:m≠1:=fun h=>hs ⟨d,sharedL_of.2.2.2 (onV_of ha hb hd hl (by rw[e,h,lerp1]))⟩
  unfold I01 at hl hm
  have l0:0<l:=by grind
  have l1:0<1-l:=by grind
  have m0:0<m:=by grind
  have m1' : 0<1-m:=by grind
  have hprop:smeetV a b c d=1:=by
   unfold smeetV
   rw[turn_crs ha hb hc,turn_crs ha hb hd,turn_crs hc hd ha,turn_crs hc hd hb,if_pos]
   rcases Rat.le_total (a:=D) (b:=0) with h | h
   ·have hD0:0 < -D:=by grind
    have p1:=Rat.mul_pos l0 hD0
    have p2:=Rat.mul_pos l1 hD0
    have p3:=Rat.mul_pos m0 hD0
    have p4:=Rat.mul_pos m1' hD0
    have s1:=castNeg.1 (show((crs c d a:Int):Rat)<0 by grind)
    have s2:=castPos.1 (show 0<((crs c d b:Int):Rat) by grind)
    have s3:=castPos.1 (show 0<((crs a b c:Int):Rat) by grind)
    have s4:=castNeg.1 (show((crs a b d:Int):Rat)<0 by grind)
    unfold cmpI
    rw[if_neg (by omega),if_pos s3,if_pos s4,if_pos s1,if_neg (by omega),if_pos s2];omega
   ·have hD0:0<D:=by grind
    have p1:=Rat.mul_pos l0 hD0
    have p2:=Rat.mul_pos l1 hD0
    have p3:=Rat.mul_pos m0 hD0
    have p4:=Rat.mul_pos m1' hD0
    have s1:=castPos.1 (show 0<((crs c d a:Int):Rat) by grind)
    have s2:=castNeg.1 (show((crs c d b:Int):Rat)<0 by grind)
    have s3:=castNeg.1 (show((crs a b c:Int):Rat)<0 by grind)
    have s4:=castPos.1 (show 0<((crs a b d:Int):Rat) by grind)
    unfold cmpI
    rw[if_pos s3,if_neg (by omega),if_pos s4,if_neg (by omega),if_pos s1,if_pos s2];omega
  refine⟨hprop,?_⟩
  have hlen:(sharedL a b c d).length≠1:=by rw[hnil];simp
  have hM:=at_math ha hb hc hd hprop hlen
  have dpos:0<atD a b c d:=by have:=hM.n0;have:=hM.nd;omega
  have hr:l*((atD a b c d:Int):Rat)=((atN a b c d:Int):Rat):=by
   unfold atD atN
   split
   ·push_cast;rw[← HDD,n1];grind
   ·push_cast;rw[← HDD,n1]
  have v1:(lerp (toQ a) (toQ b) l).1*((atD a b c d:Int):Rat)=((a.1*atD a b c d+(b.1-a.1)*atN a b c d:Int):Rat):=by
   push_cast;unfold lerp toQ;dsimp only;rw[← hr];grind
  have v2:(lerp (toQ a) (toQ b) l).2*((atD a b c d:Int):Rat)=((a.2*atD a b c d+(b.2-a.2)*atN a b c d:Int):Rat):=by
   push_cast;unfold lerp toQ;dsimp only;rw[← hr];grind
  have b1:=rnd_box dpos v1 rfl
  have b2:=rnd_box dpos v2 rfl
  have oa:=okP_iff.1 ha
  have ob:=okP_iff.1 hb
  have c1:=clamp_box (lerp_bd oa.1 ob.1 hl) b1
  have c2:=clamp_box (lerp_bd oa.2 ob.2 hl) b2
  unfold snapV
  rw[if_neg hlen,c1,c2]
  exact⟨b1,b2⟩
end
section
theorem meet_cases{p q r s:Pt2}(hp:okP p.1 p.2=true)(hq:okP q.1 q.2=true)(hr:okP r.1 r.2=true)(hs:okP s.1 s.2=true)(hm:smeetV p q r s=1) :
  (snapV p q r s=p∨snapV p q r s=q∨snapV p q r s=r∨snapV p q r s=s)∨(segI (toQ p) (toQ q) (toQ r) (toQ s)∧r≠p∧r≠q∧s≠p∧s≠q):=by
 by_cases hl:(sharedL p q r s).length=1
 ·left
  have hx:pAt (sharedL p q r s) 0∈sharedL p q r s:=pAt_mem (by omega)
  unfold snapV
  rw[if_pos hl]
  rcases sharedL_mem hx with⟨e,-⟩ | ⟨e,-⟩ | ⟨e,-⟩ | ⟨e,-⟩
  ·exact .inl e
  ·exact .inr (.inl e)
  ·exact .inr (.inr (.inl e))
  ·exact .inr (.inr (.inr e))
 ·right
  have hprop:cmpI (crs p q r) 0*cmpI (crs p q s) 0<0∧cmpI (crs r s p) 0*cmpI (crs r s q) 0<0:=by
   unfold smeetV at hm
   rw[turn_crs hp hq hr,turn_crs hp hq hs,turn_crs hr hs hp,turn_crs hr hs hq] at hm
   split at hm
   ·rename_i h;exact h
   ·omega
  have h1:=cmp_mul hprop.1
  have h2:=cmp_mul hprop.2
  have z1:crs p q p=0:=by unfold crs crossV;grind
  have z2:crs p q q=0:=by unfold crs crossV;grind
  refine⟨?_,fun e=>?_,fun e=>?_,fun e=>?_,fun e=>?_⟩
  ·have hD:crs r s p-crs r s q≠0:=by omega
   have hid:crs p q r-crs p q s = -(crs r s p-crs r s q):=by unfold crs crossV;grind
   have hDq:((crs r s p:Int):Rat)-((crs r s q:Int):Rat)≠0:=fun k=>hD (by have:=castNe hD;push_cast at this;exact absurd k this)
   obtain⟨i,hi⟩:=inv_ hDq
   have e0:((crs p q r:Int):Rat)-((crs p q s:Int):Rat) = -(((crs r s p:Int):Rat)-((crs r s q:Int):Rat)):=by
    have:=congrArg (fun z:Int=>(z:Rat)) hid
    push_cast at this;exact this
   obtain⟨N,hN⟩:∃ N:Rat,N=((crs r s p:Int):Rat):=⟨_,rfl⟩
   obtain⟨K,hK⟩:∃ K:Rat,K=((crs r s q:Int):Rat):=⟨_,rfl⟩
   obtain⟨M,hM⟩:∃ M:Rat,M=((crs p q r:Int):Rat):=⟨_,rfl⟩
   obtain⟨L,hL⟩:∃ L:Rat,L=((crs p q s:Int):Rat):=⟨_,rfl⟩
   rw[← hN,← hK] at hDq hi
   rw[← hN,← hK,← hM,← hL] at e0
   have sN:(N<0∧0<K)∨(0<N∧K<0):=by
    rw[hN,hK]
    rcases h2 with h | h
    ·exact .inl ⟨castNeg.2 h.1,castPos.2 h.2⟩
    ·exact .inr ⟨castPos.2 h.1,castNeg.2 h.2⟩
   have sM:(M<0∧0<L)∨(0<M∧L<0):=by
    rw[hM,hL]
    rcases h1 with h | h
    ·exact .inl ⟨castNeg.2 h.1,castPos.2 h.2⟩
    ·exact .inr ⟨castPos.2 h.1,castNeg.2 h.2⟩
   have in01:∀ {x y j:Rat},j*(x-y)=1→((x<0∧0<y)∨(0<x∧y<0))→I01 (x*j):=fun {x y j} hj h=>by
    unfold I01
    rcases h with h | h
    ·have jn:j<0:=by
      refine Classical.byContradiction fun k=>?_
      have:=Rat.mul_nonneg (a:=j) (b:=y-x) (by grind) (by grind)
      grind
     have p1:=Rat.mul_pos (a := -x) (b := -j) (by grind) (by grind)
     have p2:=Rat.mul_pos (a:=y) (b := -j) h.2 (by grind)
     exact⟨by grind,by grind⟩
    ·have jp:0<j:=by
      refine Classical.byContradiction fun k=>?_
      have:=Rat.mul_nonneg (a := -j) (b:=x-y) (by grind) (by grind)
      grind
     have p1:=Rat.mul_pos (a:=x) (b:=j) h.1 jp
     have p2:=Rat.mul_pos (a := -y) (b:=j) (by grind) jp
     exact⟨by grind,by grind⟩
   refine⟨N*i,M * -i,in01 hi sN,in01 (by grind) sM,?_⟩
   have c1:=hN
   have c2:=hK
   have c3:=hM
   rw[crsQ] at c1 c2 c3
   unfold lerp toQ
   apply Prod.ext <;> dsimp only
   ·have:(((p.1:Rat)+N*i*((q.1:Rat)-p.1))-((r.1:Rat)+M * -i*((s.1:Rat)-r.1)))*(N-K)=0:=by
     have:(((p.1:Rat)+N*i*((q.1:Rat)-p.1))-((r.1:Rat)+M * -i*((s.1:Rat)-r.1)))*(N-K)=((p.1:Rat)-r.1)*(N-K)+(i*(N-K))*(N*((q.1:Rat)-p.1)+M*((s.1:Rat)-r.1)):=by grind
     rw[this,hi,c1,c2,c3];grind
    rcases Rat.mul_eq_zero.1 this with h | h
    ·grind
    ·exact absurd h hDq
   ·have:(((p.2:Rat)+N*i*((q.2:Rat)-p.2))-((r.2:Rat)+M * -i*((s.2:Rat)-r.2)))*(N-K)=0:=by
     have:(((p.2:Rat)+N*i*((q.2:Rat)-p.2))-((r.2:Rat)+M * -i*((s.2:Rat)-r.2)))*(N-K)=((p.2:Rat)-r.2)*(N-K)+(i*(N-K))*(N*((q.2:Rat)-p.2)+M*((s.2:Rat)-r.2)):=by grind
     rw[this,hi,c1,c2,c3];grind
    rcases Rat.mul_eq_zero.1 this with h | h
    ·grind
    ·exact absurd h hDq
  ·rw[e,z1] at h1;omega
  ·rw[e,z2] at h1;omega
  ·rw[e,z1] at h1;omega
  ·rw[e,z2] at h1;omega
theorem hot_mem{l:List Sg}{p:Pt2}:p∈hotL l↔∃ i,i<l.length∧(p=(sgAt l i).1∨p=(sgAt l i).2∨∃ j,j<i∧p∈pairS (sgAt l i) (sgAt l j)):=by
 unfold hotL
 rw[hullS_mem]
 unfold outS innS
 simp only[List.mem_flatMap,List.mem_range,List.mem_cons]
theorem sg_at{l:List Sg}{s:Sg}(h:s∈l):∃ i,i<l.length∧sgAt l i=s:=by
 obtain⟨i,hi,e⟩:=List.getElem_of_mem h
 exact⟨i,hi,by simp[sgAt,List.getD,hi,e]⟩
theorem hot_end{l:List Sg}{s:Sg}(h:s∈l):s.1∈hotL l∧s.2∈hotL l:=by
 obtain⟨i,hi,rfl⟩:=sg_at h
 exact⟨hot_mem.2 ⟨i,hi,.inl rfl⟩,hot_mem.2 ⟨i,hi,.inr (.inl rfl)⟩⟩
theorem crs_turn(a b c d:Pt2):crs a b c-crs a b d = -(crs c d a-crs c d b):=by unfold crs crossV;grind
theorem hot_core{E:List Sg}(hE:∀ s∈E,SgOk s){s t:Sg}(hs:s∈E)(ht:t∈E){l m:Rat}(hl:I01 l)(hm:I01 m)(e:lerp (toQ s.1) (toQ s.2) l=lerp (toQ t.1) (toQ t.2) m) :
  (∃ h∈hotL E,inP (toQ h) (lerp (toQ s.1) (toQ s.2) l))∨OneLine s.1 s.2 t.1 t.2:=by
 have os:=hE s hs
 have ot:=hE t ht
 by_cases hD:crs t.1 t.2 s.1-crs t.1 t.2 s.2=0
 ·exact .inr (par_line os.2.2 e hD)
 ·obtain⟨i,hi,rfl⟩:=sg_at hs
  obtain⟨j,hj,rfl⟩:=sg_at ht
  rcases Nat.lt_trichotomy i j with h | h | h
  ·have hD' : crs (sgAt E i).1 (sgAt E i).2 (sgAt E j).1-crs (sgAt E i).1 (sgAt E i).2 (sgAt E j).2≠0:=by rw[crs_turn];omega
   obtain⟨k1,k2⟩:=common_snap ot.1 ot.2.1 os.1 os.2.1 hm hl e.symm hD'
   exact .inl ⟨_,hot_mem.2 ⟨j,hj,.inr (.inr ⟨i,h,by unfold pairS;rw[if_pos k1];exact List.mem_singleton.2 rfl⟩)⟩,by rw[e];exact k2⟩
  ·subst h
   exact absurd (by unfold crs crossV;grind) hD
  ·obtain⟨k1,k2⟩:=common_snap os.1 os.2.1 ot.1 ot.2.1 hl hm e hD
   exact .inl ⟨_,hot_mem.2 ⟨i,hi,.inr (.inr ⟨j,h,by unfold pairS;rw[if_pos k1];exact List.mem_singleton.2 rfl⟩)⟩,k2⟩
theorem lerp_rev(P Q:Q2)(l:Rat):lerp P Q l=lerp Q P (1-l):=by unfold lerp;apply Prod.ext <;> dsimp only <;> grind
theorem I01_rev{l:Rat}(h:I01 l):I01 (1-l):=by unfold I01 at *;grind
theorem line_rev{a b c d:Pt2}(h:OneLine a b c d):OneLine b a c d:=by
 obtain⟨r,s,h1,h2⟩:=h
 exact⟨1-r,1-s,by rw[h1];exact lerp_rev _ _ _,by rw[h2];exact lerp_rev _ _ _⟩
theorem line_rev2{a b c d:Pt2}(h:OneLine a b c d):OneLine a b d c:=by
 obtain⟨r,s,h1,h2⟩:=h
 exact⟨s,r,h2,h1⟩
theorem hot_common{E:List Sg}(hE:∀ s∈E,SgOk s){a b c d:Pt2}(h1:(a,b)∈E∨(b,a)∈E)(h2:(c,d)∈E∨(d,c)∈E) :
  ∀ X l m,I01 l→I01 m→X=lerp (toQ a) (toQ b) l→X=lerp (toQ c) (toQ d) m→(∃ h∈hotL E,inP (toQ h) X)∨OneLine a b c d:=by
 intro X l m hl hm e1 e2
 rcases h1 with h1 | h1 <;> rcases h2 with h2 | h2
 ·have:=hot_core hE h1 h2 hl hm (e1.symm.trans e2)
  rw[e1];exact this
 ·have:=hot_core hE h1 h2 hl (I01_rev hm) (e1.symm.trans (e2.trans (lerp_rev _ _ _)))
  rw[e1];exact this.imp id line_rev2
 ·have:=hot_core hE h1 h2 (I01_rev hl) hm ((lerp_rev _ _ _).symm.trans (e1.symm.trans e2))
  rw[e1,lerp_rev];exact this.imp id line_rev
 ·have:=hot_core hE h1 h2 (I01_rev hl) (I01_rev hm) ((lerp_rev _ _ _).symm.trans (e1.symm.trans (e2.trans (lerp_rev _ _ _))))
  rw[e1,lerp_rev];exact this.imp id fun h=>line_rev (line_rev2 h)
end
section
theorem snocG_mem{acc:List Sg}{p q:Sg}:q∈snocG acc p↔q∈acc∨q=p:=by
 unfold snocG
 split
 ·rename_i h
  rw[List.length_eq_zero_iff.1 h];simp
 ·rename_i h0
  split
  ·rename_i h
   constructor
   ·exact .inl
   ·rintro(k | k)
    ·exact k
    ·rw[k,h];exact sgAt_mem (by omega)
  ·simp
theorem cmpG_mem{l:List Sg}{q:Sg}:q∈cmpG l↔q∈l:=by
 have key:∀ (l acc:List Sg),q∈l.foldl snocG acc↔q∈acc∨q∈l:=by
  intro l
  induction l with
  | nil=>intro acc;simp
  | cons p l ih=>intro acc;rw[List.foldl_cons,ih,snocG_mem];simp[or_assoc]
 unfold cmpG
 rw[key];simp
theorem srtG_mem{l:List Sg}{q:Sg}:q∈srtG l↔q∈l:=by unfold srtG;exact List.mem_mergeSort
theorem ch_mem{cs:List (List Pt2)}{C:List Pt2}:C∈cs↔∃ i,i<cs.length∧chAt cs i=C:=by
 constructor
 ·intro h
  obtain⟨i,hi,e⟩:=List.getElem_of_mem h
  exact⟨i,hi,by simp[chAt,List.getD,hi,e]⟩
 ·rintro⟨i,hi,rfl⟩
  have e:chAt cs i=cs[i]:=by simp[chAt,List.getD,hi]
  rw[e];exact List.getElem_mem hi
theorem adj_iff{C:List Pt2}{p q:Pt2}:Adj C p q↔∃ j,j+1<C.length∧pAt C j=p∧pAt C (j+1)=q:=by
 constructor
 ·rintro⟨u,v,rfl⟩
  refine⟨u.length,by simp,?_,?_⟩
  ·simp[pAt,List.getD]
  ·simp[pAt,List.getD]
 ·rintro⟨j,hj,rfl,rfl⟩;exact adj_at hj
theorem edg_mem{cs:List (List Pt2)}{s:Sg}:s∈edgL cs↔∃ C∈cs,∃ p q,Adj C p q∧s=ordE p q:=by
 unfold edgL edgA edgC
 rw[cmpG_mem,srtG_mem,List.mem_flatMap]
 constructor
 ·rintro⟨i,hi,h⟩
  rw[List.mem_range] at hi
  obtain⟨j,hj,rfl⟩:=List.mem_map.1 h
  rw[List.mem_range] at hj
  exact⟨chAt cs i,ch_mem.2 ⟨i,hi,rfl⟩,_,_,adj_at (by omega),rfl⟩
 ·rintro⟨C,hC,p,q,h,rfl⟩
  obtain⟨i,hi,rfl⟩:=ch_mem.1 hC
  obtain⟨j,hj,rfl,rfl⟩:=adj_iff.1 h
  exact⟨i,List.mem_range.2 hi,List.mem_map.2 ⟨j,List.mem_range.2 (by omega),rfl⟩⟩
theorem ordE_cases(p q:Pt2):ordE p q=(p,q)∨ordE p q=(q,p):=by
 unfold ordE;split
 ·exact .inr rfl
 ·exact .inl rfl
structure Inv(cs:List (List Pt2)):Prop where
 ok:∀ C∈cs,∀ p∈C,okP p.1 p.2=true
 two:∀ C∈cs,2≤C.length
 adj:∀ C∈cs,∀ p q,Adj C p q→p≠q
theorem Inv.eok{cs:List (List Pt2)}(h:Inv cs):∀ s∈edgL cs,SgOk s:=by
 intro s hs
 obtain⟨C,hC,p,q,k,rfl⟩:=edg_mem.1 hs
 obtain⟨mp,mq⟩:=adj_mem k
 have a1:=h.ok C hC p mp
 have a2:=h.ok C hC q mq
 have a3:=h.adj C hC p q k
 rcases ordE_cases p q with e | e <;> rw[e]
 ·exact⟨a1,a2,a3⟩
 ·exact⟨a2,a1,a3.symm⟩
theorem pairS_ok{s t:Sg}(hs:SgOk s)(ht:SgOk t){p:Pt2}(h:p∈pairS s t):okP p.1 p.2=true:=by
 unfold pairS at h
 split at h
 ·rw[List.mem_singleton] at h;rw[h];exact snapV_ok hs.1 hs.2.1 ht.1 ht.2.1
 ·cases h
theorem hot_ok{l:List Sg}(h:∀ s∈l,SgOk s):HotOk (hotL l):=by
 refine⟨fun p hp=>?_,by unfold hotL;exact srt_nodup (hullS_srt _)⟩
 obtain⟨i,hi,k | k | ⟨j,hj,k⟩⟩:=hot_mem.1 hp
 ·rw[k];exact(h _ (sgAt_mem hi)).1
 ·rw[k];exact(h _ (sgAt_mem hi)).2.1
 ·exact pairS_ok (h _ (sgAt_mem hi)) (h _ (sgAt_mem (by omega))) k
theorem mem_adj{C:List Pt2}(h2:2≤C.length){p:Pt2}(hp:p∈C):∃ a b,Adj C a b∧(p=a∨p=b):=by
 obtain⟨i,hi,rfl⟩:=mem_pAt hp
 rcases Nat.lt_or_ge (i+1) C.length with h | h
 ·exact⟨_,_,adj_at h,.inl rfl⟩
 ·obtain⟨j,rfl⟩:∃ j,i=j+1:=⟨i-1,by omega⟩
  exact⟨_,_,adj_at hi,.inr rfl⟩
theorem Inv.chain{cs:List (List Pt2)}(h:Inv cs){C:List Pt2}(hC:C∈cs):ChainOk (hotL (edgL cs)) C:=by
 refine⟨fun e=>by have:=h.two C hC;rw[e] at this;simp at this,fun p hp=>?_,h.adj C hC⟩
 obtain⟨a,b,k,e⟩:=mem_adj (h.two C hC) hp
 have hm:=hot_end (edg_mem.2 ⟨C,hC,a,b,k,rfl⟩)
 rcases ordE_cases a b with o | o <;> rw[o] at hm <;> rcases e with rfl | rfl
 ·exact hm.1
 ·exact hm.2
 ·exact hm.2
 ·exact hm.1
theorem Inv.step{cs:List (List Pt2)}(h:Inv cs):Inv (stepC cs):=by
 have hH:=hot_ok h.eok
 refine⟨fun C' hC' => ?_,fun C' hC' => ?_,fun C' hC' => ?_⟩ <;> (obtain⟨C,hC,rfl⟩:=List.mem_map.1 hC')
 ·exact fun p hp=>hH.ok p (next_mem hH (h.chain hC) p hp)
 ·exact Nat.le_trans (h.two C hC) (next_len hH (h.chain hC))
 ·exact(next_ok hH (h.chain hC)).adj
theorem segI_rev{P Q R S:Q2}(h:segI P Q R S):segI Q P R S:=by
 obtain⟨l,m,hl,hm,e⟩:=h
 exact⟨1-l,m,I01_rev hl,hm,by rw[← lerp_rev];exact e⟩
theorem segI_rev2{P Q R S:Q2}(h:segI P Q R S):segI P Q S R:=by
 obtain⟨l,m,hl,hm,e⟩:=h
 exact⟨l,1-m,hl,I01_rev hm,by rw[← lerp_rev];exact e⟩
theorem hot_sub{cs:List (List Pt2)}(h:Inv cs){x:Pt2}(hx:x∈hotL (edgL (stepC cs))):x∈hotL (edgL cs):=by
 have hH:=hot_ok h.eok
 have hI:=h.step
 -- where an edge of the new state comes from
 have org:∀ s∈edgL (stepC cs),∃ p q a b,(s=(p,q)∨s=(q,p))∧Adj (thrL a b (hotL (edgL cs))) p q∧((a,b)∈edgL cs∨(b,a)∈edgL cs)∧okP a.1 a.2=true∧okP b.1 b.2=true∧a≠b:=by
  intro s hs
  obtain⟨C',hC',p,q,k,rfl⟩:=edg_mem.1 hs
  obtain⟨C,hC,rfl⟩:=List.mem_map.1 hC'
  obtain⟨a,b,k1,k2⟩:=adj_next hH (h.chain hC) p q k
  have he:=edg_mem.2 ⟨C,hC,a,b,k1,rfl⟩
  refine⟨p,q,a,b,ordE_cases p q,k2,?_,h.ok C hC a (adj_mem k1).1,h.ok C hC b (adj_mem k1).2,h.adj C hC a b k1⟩
  rcases ordE_cases a b with e | e <;> rw[e] at he
  ·exact .inl he
  ·exact .inr he
 have ends:∀ s∈edgL (stepC cs),s.1∈hotL (edgL cs)∧s.2∈hotL (edgL cs):=by
  intro s hs
  obtain⟨p,q,a,b,e,k,-,oa,ob,-⟩:=org s hs
  have hm:=(adj_met hH oa ob k).1
  rcases e with rfl | rfl
  ·exact⟨hm.1,hm.2.1⟩
  ·exact⟨hm.2.1,hm.1⟩
 obtain⟨i,hi,k | k | ⟨j,hj,k⟩⟩:=hot_mem.1 hx
 ·rw[k];exact(ends _ (sgAt_mem hi)).1
 ·rw[k];exact(ends _ (sgAt_mem hi)).2
 ·have hs:=sgAt_mem hi
  have ht:=sgAt_mem (l:=edgL (stepC cs)) (i:=j) (by omega)
  obtain⟨s,hse⟩:∃ s,s=sgAt (edgL (stepC cs)) i:=⟨_,rfl⟩
  obtain⟨t,hte⟩:∃ t,t=sgAt (edgL (stepC cs)) j:=⟨_,rfl⟩
  rw[← hse] at hs k
  rw[← hte] at ht k
  have os:=hI.eok s hs
  have ot:=hI.eok t ht
  unfold pairS at k
  split at k
  ·rename_i hm
   rw[List.mem_singleton] at k
   rcases meet_cases os.1 os.2.1 ot.1 ot.2.1 hm with h4 | ⟨hseg,n1,n2,n3,n4⟩
   ·rcases h4 with e | e | e | e <;> rw[k,e]
    ·exact(ends s hs).1
    ·exact(ends s hs).2
    ·exact(ends t ht).1
    ·exact(ends t ht).2
   ·exfalso
    obtain⟨p,q,a,b,e1,k1,m1,oa,ob,nab⟩:=org s hs
    obtain⟨r,u,c,d,e2,k2,m2,oc,od,ncd⟩:=org t ht
    have hX:=hot_common h.eok m1 m2
    rcases e1 with rfl | rfl <;> rcases e2 with rfl | rfl
    ·exact pieces_apart hH oa ob oc od nab k1 k2 n1 n2 n3 n4 hX hseg
    ·exact pieces_apart hH oa ob oc od nab k1 k2 n3 n4 n1 n2 hX (segI_rev2 hseg)
    ·exact pieces_apart hH oa ob oc od nab k1 k2 n2 n1 n4 n3 hX (segI_rev hseg)
    ·exact pieces_apart hH oa ob oc od nab k1 k2 n4 n3 n2 n1 hX (segI_rev2 (segI_rev hseg))
  ·cases k
end
section
theorem least_of{P:Nat→Prop}(h:∃ n,P n):∃ n,P n∧∀ m,m<n→¬ P m:=by
 obtain⟨n,hn⟩:=h
 induction n using Nat.strongRecOn with
 | _ n ih =>
  by_cases k:∃ m,m<n∧P m
  ·obtain⟨m,h1,h2⟩:=k
   exact ih m h1 h2
  ·exact⟨n,hn,fun m h1 h2=>k ⟨m,h1,h2⟩⟩
def Ways(cs:List (List Pt2)):Prop:=∀ C∈cs,∃ sx sy:Int,(sx=1∨sx = -1)∧(sy=1∨sy = -1)∧MonoC sx sy C
theorem Ways.step{cs:List (List Pt2)}(h:Inv cs)(k:Ways cs):Ways (stepC cs):=by
 intro C' hC'
 obtain⟨C,hC,rfl⟩:=List.mem_map.1 hC'
 obtain⟨sx,sy,hx,hy,hm⟩:=k C hC
 exact⟨sx,sy,hx,hy,mono_next (hot_ok h.eok) (h.chain hC) hx hy hm⟩
theorem ways_len{cs:List (List Pt2)}(h:Inv cs)(k:Ways cs):∀ C∈cs,C.length≤(hotL (edgL cs)).length:=fun C hC=>by
 obtain⟨sx,sy,hx,hy,hm⟩:=k C hC
 exact mono_len (h.chain hC) hx hy hm
theorem hot_len_step{cs:List (List Pt2)}(h:Inv cs):(hotL (edgL (stepC cs))).length≤(hotL (edgL cs)).length :=
 len_le_of_sub (hot_ok h.step.eok).nd fun x hx=>hot_sub h hx
theorem cs0_inv{l:List Sg}(h:∀ s∈l,SgOk s):Inv (cs0 l)∧Ways (cs0 l):=by
 have key:∀ s:Sg,∀ p q,Adj [s.1,s.2] p q→p=s.1∧q=s.2:=fun s p q ⟨u,v,e⟩=>by
  rcases u with _ | ⟨x,_ | ⟨y,u⟩⟩
  ·simp at e;exact⟨e.1.symm,e.2.1.symm⟩
  ·simp at e
  ·have:=congrArg List.length e;simp at this
 refine⟨⟨fun C hC=>?_,fun C hC=>?_,fun C hC=>?_⟩,fun C hC=>?_⟩ <;> (obtain⟨s,hs,rfl⟩:=List.mem_map.1 hC;have os:=h s hs)
 ·intro p hp
  simp at hp
  rcases hp with rfl | rfl
  ·exact os.1
  ·exact os.2.1
 ·simp
 ·intro p q k
  obtain⟨rfl,rfl⟩:=key s p q k
  exact os.2.2
 ·have sg:∀ x:Int,∃ z:Int,(z=1∨z = -1)∧0≤z*x:=fun x=>by
   by_cases hx:0≤x
   ·exact⟨1,.inl rfl,by omega⟩
   ·exact⟨-1,.inr rfl,by omega⟩
  obtain⟨sx,hx,x0⟩:=sg (s.2.1-s.1.1)
  obtain⟨sy,hy,y0⟩:=sg (s.2.2-s.1.2)
  refine⟨sx,sy,hx,hy,fun p q k=>?_⟩
  obtain⟨rfl,rfl⟩:=key s p q k
  exact⟨x0,y0,os.2.2⟩
theorem iter_inv{cs:List (List Pt2)}(h:Inv cs)(k:Ways cs):∀ n,Inv (iterC n cs)∧Ways (iterC n cs)∧(hotL (edgL (iterC n cs))).length≤(hotL (edgL cs)).length
 | 0=>⟨h,k,Nat.le_refl _⟩
 | n+1=>by
  have ih:=iter_inv h k n
  exact⟨ih.1.step,Ways.step ih.1 ih.2.1,Nat.le_trans (hot_len_step ih.1) ih.2.2⟩
theorem step_okE{cs:List (List Pt2)}(h:Inv cs)(k:Ways cs)(hne:cs≠[])(hn:cs.length≤1000)(hel:(edgL cs).length≤100000)(hcap:(hotL (edgL cs)).length≤1000):StepOk cs:=by
 have hH:=hot_ok h.eok
 have hlen:∀ i,i<cs.length→2≤(chAt cs i).length∧(chAt cs i).length≤1000:=fun i hi=>by
  have hm:=ch_mem.2 ⟨i,hi,rfl⟩
  exact⟨h.two _ hm,Nat.le_trans (ways_len h k _ hm) hcap⟩
 have ends:∀ i,i<cs.length→∀ j,j+1<(chAt cs i).length→∃ m,thrL (pAt (chAt cs i) j) (pAt (chAt cs i) (j+1)) (hotL (edgL cs))=pAt (chAt cs i) j :: (m++[pAt (chAt cs i) (j+1)]):=fun i hi j hj=>by
  have hC:=h.chain (ch_mem.2 ⟨i,hi,rfl⟩)
  have ha:=hC.mem _ (adj_mem (adj_at hj)).1
  have hb:=hC.mem _ (adj_mem (adj_at hj)).2
  exact thr_ends (hH.ok _ ha) (hH.ok _ hb) hH.ok hH.nd ha hb (hC.adj _ _ (adj_at hj))
 refine⟨hne,by omega,fun i hi=>⟨(hlen i hi).1,by have:=(hlen i hi).2;omega⟩,fun i hi=>h.ok _ (ch_mem.2 ⟨i,hi,rfl⟩),?_,?_,h.eok,hcap,hH.ok,fun i hi j hj=>?_,fun i hi j hj l hl=>?_,fun i hi j hj=>?_⟩
 ·exact hel
 ·obtain⟨C,hC⟩:=List.exists_mem_of_ne_nil cs hne
  have h2:=h.two C hC
  exact List.ne_nil_of_mem (edg_mem.2 ⟨C,hC,_,_,adj_at (k:=0) (by omega),rfl⟩)
 ·obtain⟨m,e⟩:=ends i hi j hj
  rw[e];simp
 ·have hC:=h.chain (ch_mem.2 ⟨i,hi,rfl⟩)
  exact thru_one (hH.ok _ (hC.mem _ (adj_mem (adj_at hj)).1)) (hH.ok _ (hC.mem _ (adj_mem (adj_at hj)).2)) hH.ok hH.nd hl
 ·have hm:=ch_mem.2 ⟨i,hi,rfl⟩
  obtain⟨sx,sy,hx,hy,hw⟩:=k _ hm
  have h1:=mono_len (next_ok hH (h.chain hm)) hx hy (mono_next hH (h.chain hm) hx hy hw)
  have h2:=nextG_mono (hotL (edgL cs)) (chAt cs i) (show j≤(chAt cs i).length-1 by omega)
  have h3:(nextC (hotL (edgL cs)) (chAt cs i)).length=(nextG (hotL (edgL cs)) (chAt cs i) ((chAt cs i).length-1)).length+1:=by unfold nextC;simp
  omega
theorem step_ok{cs:List (List Pt2)}(h:Inv cs)(k:Ways cs)(hne:cs≠[])(hn:cs.length≤100)(hcap:(hotL (edgL cs)).length≤1000):StepOk cs:=by
 refine step_okE h k hne (by omega) ?_ hcap
 have hlen:∀ i,i<cs.length→2≤(chAt cs i).length∧(chAt cs i).length≤1000:=fun i hi=>by
  have hm:=ch_mem.2 ⟨i,hi,rfl⟩
  exact⟨h.two _ hm,Nat.le_trans (ways_len h k _ hm) hcap⟩
 unfold edgL
 have h1:=cmpG_le (srtG (edgA cs cs.length))
 have h2:(srtG (edgA cs cs.length)).length=(edgA cs cs.length).length:=by unfold srtG;simp
 have h3:=edgA_len (M:=999) (fun i hi=>(hlen i hi).2) cs.length (Nat.le_refl _)
 have h4:=Nat.mul_le_mul_right 999 hn
 omega
theorem sum_le{f g:List Pt2→Nat}:∀ (cs:List (List Pt2)),(∀ C∈cs,f C≤g C)→(cs.map f).sum≤(cs.map g).sum∧((cs.map f).sum=(cs.map g).sum→cs.map f=cs.map g)
 | [],_=>⟨Nat.le_refl _,fun _=>rfl⟩
 | C :: cs,h=>by
  have h1:=h C (by simp)
  have ⟨h2,h3⟩:=sum_le cs (fun C hC=>h C (by simp[hC]))
  simp only[List.map_cons,List.sum_cons]
  refine⟨by omega,fun e=>?_⟩
  rw[h3 (by omega),show f C=g C by omega]
theorem sum_bd:∀ (cs:List (List Pt2)),(∀ C∈cs,C.length≤1000)→(lensC cs).sum≤1000*cs.length
 | [],_=>by simp[lensC]
 | C :: cs,h=>by
  have h1:=h C (by simp)
  have h2:=sum_bd cs (fun C hC=>h C (by simp[hC]))
  unfold lensC at *
  simp only[List.map_cons,List.sum_cons,List.length_cons] at *;omega
theorem run_ex{l:List Sg}(hne:l≠[])(hn:l.length≤100)(hok:∀ s∈l,SgOk s)(hcap:(hotL (edgL (cs0 l))).length≤1000):∃ N,RunC (cs0 l) N:=by
 obtain⟨hI,hW⟩:=cs0_inv hok
 have all:=iter_inv hI hW
 have len0:(cs0 l).length=l.length:=by simp[cs0]
 have bd:∀ k,(lensC (iterC k (cs0 l))).sum≤1000*l.length:=fun k=>by
  have:=sum_bd (iterC k (cs0 l)) (fun C hC=>Nat.le_trans (ways_len (all k).1 (all k).2.1 C hC) (Nat.le_trans (all k).2.2 hcap))
  rwa[iterC_len,len0] at this
 have up:∀ k,(lensC (iterC k (cs0 l))).sum≤(lensC (iterC (k+1) (cs0 l))).sum∧(lensC (iterC (k+1) (cs0 l))≠lensC (iterC k (cs0 l))→(lensC (iterC k (cs0 l))).sum<(lensC (iterC (k+1) (cs0 l))).sum):=fun k=>by
  have hH:=hot_ok (all k).1.eok
  have e:lensC (iterC (k+1) (cs0 l))=(iterC k (cs0 l)).map fun C=>(nextC (hotL (edgL (iterC k (cs0 l)))) C).length:=by
   show lensC (stepC _)=_
   unfold lensC stepC;rw[List.map_map];rfl
  have h:=sum_le (f:=List.length) (g:=fun C=>(nextC (hotL (edgL (iterC k (cs0 l)))) C).length) (iterC k (cs0 l)) (fun C hC=>next_len hH ((all k).1.chain hC))
  rw[e]
  refine⟨h.1,fun hd=>?_⟩
  have:(lensC (iterC k (cs0 l))).sum≠((iterC k (cs0 l)).map fun C=>(nextC (hotL (edgL (iterC k (cs0 l)))) C).length).sum:=fun e=>hd (h.2 e).symm
  have:=h.1
  unfold lensC at *;omega
 have ex:∃ k,lensC (iterC (k+1) (cs0 l))=lensC (iterC k (cs0 l)):=by
  refine Classical.byContradiction fun hno=>?_
  have grow:∀ k,k≤(lensC (iterC k (cs0 l))).sum:=by
   intro k
   induction k with
   | zero=>exact Nat.zero_le _
   | succ k ih=>have:=(up k).2 (fun e=>hno ⟨k,e⟩);omega
  have:=grow (1000*l.length+1)
  have:=bd (1000*l.length+1)
  omega
 obtain⟨N,h1,h2⟩:=least_of ex
 refine⟨N,fun k _=>step_ok (all k).1 (all k).2.1 (fun e=>?_) (by rw[iterC_len,len0];exact hn) (Nat.le_trans (all k).2.2 hcap),h2,h1⟩
 have:=iterC_len (cs0 l) k
 rw[e,len0] at this
 exact hne (List.length_eq_zero_iff.1 this.symm)
end
section
theorem srtG_eq{l X:List Sg}(hp:X.Perm l)(hs:X.Pairwise fun x y=>lxG y x=false):srtG l=X:=by
 have h:=List.pairwise_mergeSort (le:=fun x y => !lxG y x) (fun x y z h1 h2=>by
  simp only[Bool.not_eq_true'] at *
  have:=cmpS_swo.ntrans z y x (by rw[cmpS_lt];exact h2) (by rw[cmpS_lt];exact h1)
  rwa[cmpS_lt] at this) (fun x y=>by
  simp only[Bool.or_eq_true,Bool.not_eq_true']
  rcases lxG_tri x y with k | k | k
  ·left
   rw[Bool.eq_false_iff];intro e
   have:=lxG_trans k e;rw[lxG_irr] at this;cases this
  ·left;rw[k];exact lxG_irr _
  ·right
   rw[Bool.eq_false_iff];intro e
   have:=lxG_trans k e;rw[lxG_irr] at this;cases this) l
 refine List.Perm.eq_of_pairwise (le:=fun x y=>lxG y x=false) (fun x y _ _ h1 h2=>?_) (h.imp fun {x y} k=>by simpa using k) hs ((List.mergeSort_perm _ _).trans hp.symm)
 rcases lxG_tri x y with k | k | k
 ·rw[k] at h2;cases h2
 ·exact k
 ·rw[k] at h1;cases h1
theorem srtL_eq{l X:List Pt2}(hp:X.Perm l)(hs:X.Pairwise fun x y=>¬ lx y x):srtL l=X:=by
 refine List.Perm.eq_of_pairwise (le:=fun x y=>¬ lx y x) (fun x y _ _ h1 h2=>?_) (srtL_pw l) hs ((List.mergeSort_perm _ _).trans hp.symm)
 rcases lx_tri x y with k | k | k
 ·exact absurd k h2
 ·exact k
 ·exact absurd k h1
theorem thrL_eq{a b:Pt2}{H X:List Pt2}(hp:X.Perm (H.filter (metB a b)))(hs:X.Pairwise fun x y=>dirV a b x y<0):thrL a b H=X:=by
 refine List.Perm.eq_of_pairwise (le:=fun x y=>0≤dirV a b y x) (fun x y hx hy h1 h2=>?_) (thr_thru (a:=a) (b:=b) (H:=H)).2 (hs.imp fun {x y} k=>by have:=dir_neg a b x y;omega) (thr_thru.1.trans hp.symm)
 have hy' : x∈X:=(thr_thru.1.trans hp.symm).mem_iff.1 hx
 refine Classical.byContradiction fun hne=>?_
 obtain⟨u,v,e⟩:=List.append_of_mem hy
 have hs2:=hs
 rw[e] at hs2 hy'
 rw[List.pairwise_append,List.pairwise_cons] at hs2
 have e1:=dir_neg a b x y
 rcases List.mem_append.1 hy' with k | k
 ·have:=hs2.2.2 x k y (by simp);omega
 ·rcases List.mem_cons.1 k with k | k
  ·exact hne k
  ·have:=hs2.2.1.1 x k
   omega
def fact2:List Sg:=[((0,0),(2,2)),((0,2),(2,0))]
def factH:List Pt2:=[(0,0),(0,2),(1,1),(2,0),(2,2)]
def factC:List (List Pt2):=[[(0,0),(1,1),(2,2)],[(0,2),(1,1),(2,0)]]
def factE:List Sg:=[((0,0),(1,1)),((0,2),(1,1)),((1,1),(2,0)),((1,1),(2,2))]
instance (x y:Pt2):Decidable (lx x y):=by unfold lx;infer_instance
theorem fE0:edgL (cs0 fact2)=fact2:=by
 unfold edgL
 rw[srtG_eq (X:=fact2) (by decide) (by decide)]
 kernel_rfl
theorem fH0:hotL fact2=factH:=by
 unfold hotL hullS
 rw[srtL_eq (X:=factH) (by decide) (by decide)]
 kernel_rfl
theorem fE1:edgL factC=factE:=by
 unfold edgL
 rw[srtG_eq (X:=factE) (by decide) (by decide)]
 kernel_rfl
theorem fH1:hotL factE=factH:=by
 refine Eq.trans ?_ fH0
 unfold hotL
 exact hullS_ext fun q=>⟨fun h=>(by decide:∀ q∈outS factE factE.length,q∈outS fact2 fact2.length) q h,fun h=>(by decide:∀ q∈outS fact2 fact2.length,q∈outS factE factE.length) q h⟩
theorem fN{H:List Pt2}{a b:Pt2}:nextC H [a,b]=a :: (thrL a b H).tail:=by simp[nextC,nextG,pAt]
theorem fN3{H:List Pt2}{a b c:Pt2}:nextC H [a,b,c]=a :: ((thrL a b H).tail++(thrL b c H).tail):=by
 unfold nextC
 rw[show [a,b,c].length-1=1+1 from rfl,nextG_succ,show(1:Nat)=0+1 from rfl,nextG_succ]
 simp[nextG,pAt]
theorem fC1:iterC 1 (cs0 fact2)=factC:=by
 show stepC (cs0 fact2)=_
 unfold stepC
 rw[fE0,fH0]
 show [nextC factH [(0,0),(2,2)],nextC factH [(0,2),(2,0)]]=_
 rw[fN,fN,thrL_eq (X:=[(0,0),(1,1),(2,2)]) (of_decide_eq_true (by kernel_rfl)) (by decide),thrL_eq (X:=[(0,2),(1,1),(2,0)]) (of_decide_eq_true (by kernel_rfl)) (by decide)]
 rfl
theorem fC2:iterC 2 (cs0 fact2)=factC:=by
 show stepC (iterC 1 (cs0 fact2))=_
 rw[fC1]
 unfold stepC
 rw[fE1,fH1]
 show [nextC factH [(0,0),(1,1),(2,2)],nextC factH [(0,2),(1,1),(2,0)]]=_
 rw[fN3,fN3,thrL_eq (X:=[(0,0),(1,1)]) (of_decide_eq_true (by kernel_rfl)) (by decide),thrL_eq (X:=[(1,1),(2,2)]) (of_decide_eq_true (by kernel_rfl)) (by decide),thrL_eq (X:=[(0,2),(1,1)]) (of_decide_eq_true (by kernel_rfl)) (by decide),thrL_eq (X:=[(1,1),(2,0)]) (of_decide_eq_true (by kernel_rfl)) (by decide)]
 rfl
theorem fOk:∀ s∈fact2,SgOk s:=by
 intro s hs
 simp only[fact2,List.mem_cons,List.not_mem_nil,or_false] at hs
 rcases hs with rfl | rfl <;> exact⟨by decide,by decide,by decide⟩
theorem fRun:RunC (cs0 fact2) 1:=by
 obtain⟨hI,hW⟩:=cs0_inv fOk
 have all:=iter_inv hI hW
 have hc:(hotL (edgL (cs0 fact2))).length≤1000:=by rw[fE0,fH0];decide
 refine⟨fun k _=>step_ok (all k).1 (all k).2.1 (fun e=>?_) (by rw[iterC_len];decide) (Nat.le_trans (all k).2.2 hc),fun k hk=>?_,?_⟩
 ·have:=iterC_len (cs0 fact2) k
  rw[e] at this;simp[cs0,fact2] at this
 ·obtain rfl:k=0:=by omega
  rw[fC1];decide
 ·rw[fC2,fC1]
theorem fOk2:StepOk (iterC 2 (cs0 fact2)):=by
 obtain⟨hI,hW⟩:=cs0_inv fOk
 have all:=iter_inv hI hW
 have hc:(hotL (edgL (cs0 fact2))).length≤1000:=by rw[fE0,fH0];decide
 exact step_ok (all 2).1 (all 2).2.1 (by rw[fC2];decide) (by rw[iterC_len];decide) (Nat.le_trans (all 2).2.2 hc)
theorem fLen:(edgL (iterC 2 (cs0 fact2))).length=4:=by rw[fC2,fE1];rfl
end
section
open Go.RowKit Go.BigFrame
attribute [local go_sem ↓] eqPt neqPt
def dropP:Nat→List Int→List Int
 | 0,l=>l
 | k+1,l=>(ptOf (dropP k l)).2
set_option maxRecDepth 100000 in
set_option maxHeartbeats 4000000 in
theorem line_str(gs B:Nat)(l:List Int)(N:Nat)(w:World)(h1:1≤N)(h2:N≤1000)(h:Strm w gs B l) :
  Calls Tryz.prog 62 #[.pointer (some ⟨gs,0,none⟩),.int .i64 N] w fun e w' => ∃ v,e=.returned v∧PtsS w' v (mlineGo (N-1) (ptOf l).2 [(ptOf l).1])∧Strm w' gs B (dropP (N-1) (ptOf l).2)∧Only gs w w' := by
 have bp:=ptOf_bd l
 have hgs:gs<w.heap.size:=by obtain⟨v,hb,-⟩:=h;exact hb.lt
 have H:=Lib.hid h
 clear h
 go_enter Tryz.func62,Tryz.ntmps62
 go_wp2_with fail
 refine(Sp_any gs B l _ H.out).mono ?_
 rintro e w1 ⟨rfl,hs,ho⟩
 have hsz:=ho.size
 have HR0:=Lib.hid ((Blk.new w1 36 #[.int .i64 (ptOf l).1.1,.int .i64 (ptOf l).1.2]).row (size:=2) (n:=1) (cap:=1) (xs:=[(ptOf l).1].flatMap ptV) hsz (Nat.le_refl _) (by unfold maxLen;omega) rfl rfl)
 have HS0:=Lib.hid (hs.since ((Since.rfl_ w1).alloc (.cells #[.int .i64 (ptOf l).1.1,.int .i64 (ptOf l).1.2] 36)))
 have HO0:=Lib.hid (ho.alloc (.cells #[.int .i64 (ptOf l).1.1,.int .i64 (ptOf l).1.2] 36))
 clear hs ho
 go_wp2_with fail
 go_loopw [5] (fun v wr=>∃ (out:List Pt2) (l' : List Int),1≤out.length∧out.length≤N∧Hid (mlineGo (N-out.length) l' out=mlineGo (N-1) (ptOf l).2 [(ptOf l).1])∧Hid (l' = dropP (out.length-1) (ptOf l).2)∧Hid (Strm wr gs B l')∧Hid (wr.ownsRow w.heap.size 36 2 v out.length (out.flatMap ptV))∧Hid (Only gs w wr)) (fun v _=>N-(match v with | .slice _ n _=>n | _=>0))
 case atStart=>exact⟨[(ptOf l).1],(ptOf l).2,by simp,by simpa using h1,(by show _=_;rfl),(by show _=_;rfl),HS0,HR0,HO0⟩
 case round =>
  clear HS0 HR0 HO0 H
  obtain⟨out,l',ho1,ho2,HM,HDP,HS,HR,HO⟩:=hrel
  obtain⟨m,hm⟩:∃ m,out.length=m+1:=⟨out.length-1,by omega⟩
  have HDN:Hid ((ptOf l').2=dropP out.length (ptOf l).2):=by
   have h:=HDP.out
   rw[hm,Nat.add_sub_cancel] at h
   show _=_
   rw[hm,h];rfl
  obtain⟨g,c,rfl,hgb,z0,z1⟩:=own_last' HR.out hm
  have zl:g<wr.heap.size:=World.block_lt_of_cell? wr _ z0
  rcases Nat.lt_or_ge out.length N with hlt | hge
  ·have hz:decide ((out.length:Int)<(N:Int))=true:=by rw[decide_eq_true_eq];omega
   have hng:g≠gs:=by omega
   have hng2:¬ gs=g:=by omega
   have mw:IntKind.i64.wrap ((out.length:Int)-1)=(m:Int):=by
    rw[i64w,show(out.length:Int)-1=m by omega]
    exact wrap_id (by omega)
   have i1:(0:Int)≤(m:Int):=by omega
   have i2:(m:Int)<(out.length:Int):=by omega
   have i3:m<out.length:=by omega
   have HM1:=Lib.hid hm
   have gn1:¬ wr.heap.size=gs:=by have:=HS.out;obtain⟨v,hb,-⟩:=this;have:=hb.lt;omega
   have gn2:¬ wr.heap.size+1=gs:=by have:=HS.out;obtain⟨v,hb,-⟩:=this;have:=hb.lt;omega
   have gn3:¬ wr.heap.size=g:=by omega
   have gn4:¬ wr.heap.size+1=g:=by omega
   clear hm
   have gsl:gs<wr.heap.size:=by obtain⟨v,hb,-⟩:=HS.out;exact hb.lt
   go_upto_region 3 with fail
   go_cut [6,7] from 11 to 33 (fun v6 v7 w' => ∃ g6 g7:Nat,v6=.pointer (some ⟨g6,0,none⟩)∧v7=.pointer (some ⟨g7,0,none⟩)∧Blk w' g6 36 #[.int .i64 (ptOf l').1.1,.int .i64 (ptOf l').1.2]∧Blk w' g7 36 #[.int .i64 (lastP out).1,.int .i64 (lastP out).2]∧g6≠g7∧wr.heap.size≤g6∧wr.heap.size≤g7∧Strm w' gs B (ptOf l').2∧Only gs wr w')
   case first =>
    as_aux_lemma =>
    go_region_held3 (fun w' => w'.cell? ⟨g,m*2,none⟩=some (.int .i64 (lastP out).1)∧w'.cell? ⟨g,m*2+1,none⟩=some (.int .i64 (lastP out).2)) ((simp (maxDischargeDepth:=9) [*,World.cell?_alloc_some,cSetO,cellDrew])) (first
     | (go_at_call 43;(with_reducible refine(Sp_any gs B l' _ (HS.out.since (by first | exact(Since.rfl_ _).drew | exact((Since.rfl_ _).alloc _).drew | exact(((Since.rfl_ _).alloc _).alloc _).drew))).mono ?_);rintro e w2 ⟨rfl,hs,ho⟩;have kk:=fun(p:Addr) (hp:p.block<_) (hn:¬ p.block=gs)=>World.cell?_of_block (ho.block p.block hp (fun e=>hn (by injection e)));have kf:=fun(p:Addr) (hp:p.block<_) (hn:¬ p.block=gs)=>World.frozen?_of_block (ho.block p.block hp (fun e=>hn (by injection e)));have kq:=fun(b:Nat) (hb:b<_)=>Nat.lt_of_lt_of_le hb ho.size;have k0:=keepOC ho;have kb:=fun(k:Nat) (t:TypeId) (cs:Array Value) (hk:Blk _ k t cs) (hne:k≠gs)=>ho.blk hk hne;have kz:=ho.size;have HS2:=Lib.hid hs;have HO2:=Lib.hid (Only.trans (Since.only (a:=wr) (by first | exact(Since.rfl_ _).drew | exact((Since.rfl_ _).alloc _).drew | exact(((Since.rfl_ _).alloc _).alloc _).drew) gs) ho);clear hs ho))
    all_goals
     have kz2:=kz
     simp at kz2
     go_wp2_with fail
     go_meet
     refine⟨_,_,rfl,rfl,?_,?_,?_,?_,?_,?_,?_⟩
     all_goals
      first
       | omega
       | (with_reducible (repeat (first | exact HS2.out | refine Strm.far ?_ (by dsimp only;omega) _ | refine Strm.since ?_ ((Since.rfl_ _).alloc _)));done)
       | (with_reducible (repeat (first | exact HO2.out | refine Only.setCell ?_ (.inr (by dsimp only;omega)) _ | refine Only.alloc ?_ _));done)
       | with_reducible exact(Blk.new' rfl).alloc _
       | ((with_reducible refine Blk.new' ?_);simp[sizeSet];done)
       | ((with_reducible refine(Blk.pair (kb _ _ _ (Blk.new' ?_).drew ?_)).alloc _) <;> first | rfl | (simp;done) | (dsimp only;omega) | omega)
       | ((with_reducible refine((Blk.pair (kb _ _ _ ((Blk.new' ?_).alloc _).drew ?_)).far ?_ _).far ?_ _) <;> first | rfl | (simp;done) | (dsimp only;omega) | omega)
       | ((with_reducible refine((Blk.pair (kb _ _ _ (Blk.new' ?_).drew ?_)).far ?_ _).far ?_ _) <;> first | rfl | (simp;done) | (dsimp only;omega) | omega)
       | ((with_reducible refine Blk.pair (((kb _ _ _ ((Blk.new' ?_).alloc _).drew ?_).far ?_ _).far ?_ _)) <;> first | rfl | (simp;done) | (dsimp only;omega) | omega)
       | ((with_reducible refine Blk.pair (((kb _ _ _ (Blk.new' ?_).drew ?_).far ?_ _).far ?_ _)) <;> first | rfl | (simp;done) | (dsimp only;omega) | omega)
   case rest =>
    clear gn1 gn2 gn3 gn4 z0 z1 hng hng2 mw i1 i2 i3
    obtain⟨g6,g7,rfl,rfl,h6,h7,hne,l6,l7,hst,hon⟩:=hcut
    obtain⟨w3,rfl⟩:∃ w3,w3=wc:=⟨_,rfl⟩
    have bq:=ptOf_bd l'
    have HR3:=Lib.hid (own_only HR.out hon hgs)
    have HS3:=Lib.hid hst
    have HO3:=Lib.hid (HO.out.trans hon)
    have hw:=HO.out.size
    have p_0:=h6.cell 0
    have p_1:=h6.cell 1
    have p_f0:=h6.frozen 0
    have p_f1:=h6.frozen 1
    simp only[List.getElem?_toArray,List.getElem?_cons_zero,List.getElem?_cons_succ] at p_0 p_1
    have q_0:=h7.cell 0
    have q_1:=h7.cell 1
    have q_f0:=h7.frozen 0
    have q_f1:=h7.frozen 1
    simp only[List.getElem?_toArray,List.getElem?_cons_zero,List.getElem?_cons_succ] at q_0 q_1
    have H6:=Lib.hid h6
    have k6:=h6.lt
    clear h6 h7 hst hon HS HR HO
    have HQ:=Lib.hid (show mNext out (ptOf l').1=if (((ptOf l').1.1 == (lastP out).1 && (ptOf l').1.2 == (lastP out).2))=true then((ptOf l').1.1+1,(ptOf l').1.2) else(ptOf l').1 from by
     unfold mNext
     by_cases h:(ptOf l').1=lastP out
     ·rw[if_pos h,if_pos (by rw[h];simp)]
     ·rw[if_neg h,if_neg (by
       intro k
       rw[Bool.and_eq_true,beq_iff_eq,beq_iff_eq] at k
       exact h (Prod.ext k.1 k.2))])
    obtain⟨nx,HNX⟩:∃ nx:Pt2,Hid (nx=mNext out (ptOf l').1):=⟨_,rfl⟩
    go_upto_if 25 with fail
    go_cut [] from 11 to 33 (fun w' => Blk w' g6 36 #[.int .i64 nx.1,.int .i64 nx.2]∧Strm w' gs B (ptOf l').2∧w'.ownsRow w.heap.size 36 2 (.slice (some ⟨g,0,none⟩) out.length c) out.length (out.flatMap ptV)∧Only gs w w')
    case first =>
     cases hx:((ptOf l').1.1 == (lastP out).1) <;> cases hy:((ptOf l').1.2 == (lastP out).2)
     case true.true =>
      have E:Hid (nx=((ptOf l').1.1+1,(ptOf l').1.2)):=by show _=_;rw[HNX.out,HQ.out,hx,hy];rfl
      go_wp2_with fail
      go_meet
      rw[E.out]
      exact⟨H6.out.set_ 0 _,HS3.out.far (by dsimp only;omega) _,own_far HR3.out (fun h=>by simp[Value.ownBlock] at h;omega) _,HO3.out.setCell (.inr (by dsimp only;omega)) _⟩
     all_goals
      have E:Hid (nx=(ptOf l').1):=by show _=_;rw[HNX.out,HQ.out,hx,hy];rfl
      go_wp2_with fail
      go_meet
      rw[E.out]
      exact⟨H6.out,HS3.out,HR3.out,HO3.out⟩
    case rest =>
     clear H6 HS3 HR3 HO3 p_0 p_1 p_f0 p_f1 q_0 q_1 q_f0 q_f1
     obtain⟨h6,hst,hr,hon⟩:=hcut
     obtain⟨w4,rfl⟩:∃ w4,w4=wc:=⟨_,rfl⟩
     have p0:w4.cell? ⟨g6,0,none⟩=some (.int .i64 nx.1):=h6.cell 0
     have p1:w4.cell? ⟨g6,1,none⟩=some (.int .i64 nx.2):=h6.cell 1
     have hw4:=hon.size
     have HR4:=Lib.hid hr
     have HS4:=Lib.hid hst
     have HO4:=Lib.hid hon
     have HM2:Hid (mlineGo (N-(out.length+1)) (ptOf l').2 (out++[nx])=mlineGo (N-1) (ptOf l).2 [(ptOf l).1]):=by
      show _=_
      rw[← HM.out,show N-out.length=(N-(out.length+1))+1 by omega,mlineGo,HNX.out]
     clear h6 hst hr hon HM
     obtain⟨i0,hi,hz0,hz1,hz2⟩:=info_parts infoPt
     have HI:=Lib.hid hi
     have HZ:=Lib.hid (And.intro hz0 (And.intro hz1 hz2))
     clear hi hz0 hz1 hz2
     obtain⟨B2,HB2⟩:∃ B2,Hid (B2=w.heap.size):=⟨_,rfl⟩
     go_wp2_with (at_builtin;refine wpList_append_own _ rfl _ _ 23 rfl w.heap.size 36 i0 _ 2 16 Tryz.underlying23 HI.out HZ.out.1 HZ.out.2.1 HZ.out.2.2 rfl (by decide) _ _ _ rfl (own_since ((Since.rfl_ w4).alloc _) HR4.out) _ _ _ [.int .i64 nx.1,.int .i64 nx.2] rfl rfl (cell2_new _ _ _ _) (one2 _ _ _ _) (by unfold maxLen;omega) (by omega) (by simp only[World.size_alloc];omega) ?_)
     intro v' w' hown hgrow _
     obtain⟨ao',co',rfl⟩:=own_slice hown
     have hA:=(Since.rfl_ w4).alloc (.cells #[.int .i64 nx.1,.int .i64 nx.2] 36)
     have hoA:=own_since hA HR4.out
     have HS5:Hid (Strm w' gs B (ptOf l').2):=by
      obtain⟨v,hb,hi,hB⟩:=HS4.out.since hA
      exact⟨v,hb.grown hgrow (own_ne hoA hgs),hi.keep (fun q x hq hc=>by
       have hl:=World.block_lt_of_cell? _ q hc
       rw[World.cell?_of_block (hgrow.block q.block hl (own_ne hoA (by omega)))];exact hc),hB⟩
     have HO5:Hid (Only gs w w'):=by
      refine⟨hgrow.os.trans (HO4.out.alloc _).os,hgrow.tape.trans (HO4.out.alloc _).tape,hgrow.output.trans (HO4.out.alloc _).output,Nat.le_trans (HO4.out.alloc _).size hgrow.size,fun i hi hne=>?_⟩
      have h1:=(HO4.out.alloc (.cells #[.int .i64 nx.1,.int .i64 nx.2] 36)).block i hi hne
      refine(hgrow.block i (Nat.lt_of_lt_of_le hi (HO4.out.alloc _).size) (own_ne hoA hi)).trans h1
     have HR5:=Lib.hid (own_snoc (f:=ptV) (x:=nx) hown)
     clear hA hoA hown hgrow
     go_wp2_with fail
     go_roundw
     case rel=>exact⟨out++[nx],(ptOf l').2,by simp,by simp;omega,by simpa using HM2,(by show _=_;rw[HDN.out];simp),HS5,by simpa using HR5,HO5⟩
     case measure=>simp;omega
  ·obtain rfl:out.length=N:=by omega
   have hE:mlineGo (out.length-out.length) l' out=out:=by rw[Nat.sub_self,mlineGo]
   have hz:decide ((out.length:Int)<(out.length:Int))=false:=by rw[decide_eq_false_iff_not];omega
   have HM2:Hid (out=mlineGo (out.length-1) (ptOf l).2 [(ptOf l).1]):=by
    show _=_
    have:=HM.out
    rwa[hE] at this
   clear hE HM
   go_wp2
   go_ret
   exact⟨_,rfl,by rw[← HM2.out];exact(own_pts HR.out (Nat.le_refl _)).pts,by rw[← HDP.out];exact HS.out,HO.out⟩
end
end Go.Proofs.YtdnccjdlmepafaaGreat
