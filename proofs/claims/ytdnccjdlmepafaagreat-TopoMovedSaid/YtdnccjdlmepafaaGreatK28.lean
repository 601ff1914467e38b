/-
  Plain: what arr builds is determined by the segments; The walk of arr's Build: the subdivision of segments; The walk of arr's Build for no segments. Conditions: those that each lemma names.
-/
import Derived.Test.YtdnccjdlmepafaaGreatK23
import Derived.Test.YtdnccjdlmepafaaGreatK17
import Derived.Test.YtdnccjdlmepafaaGreatK27
set_option linter.unusedSimpArgs false
set_option linter.unusedVariables false
set_option linter.constructorNameAsVariable false
namespace Go.Proofs.YtdnccjdlmepafaaGreat
section
open Go.RowKit Go.BigFrame
theorem sorted_uniq{α:Type}{le:α→α→Prop}:∀ {l m:List α},l.Perm m→(∀ x∈l,∀ y∈l,le x y→le y x→x=y)→l.Pairwise le→m.Pairwise le→l=m
 | [],m,h,_,_,_=>by rw[List.nil_perm.1 h]
 | a :: l,[],h,_,_,_=>by have:=h.length_eq;simp at this
 | a :: l,b :: m,h,ha,h1,h2=>by
  have hab:a=b:=by
   have m1:a∈b :: m:=h.mem_iff.1 (List.mem_cons_self ..)
   have m2:b∈a :: l:=h.mem_iff.2 (List.mem_cons_self ..)
   rcases List.mem_cons.1 m1 with e | m1
   ·exact e
   rcases List.mem_cons.1 m2 with e | m2
   ·exact e.symm
   exact ha a (List.mem_cons_self ..) b (List.mem_cons_of_mem _ m2) ((List.pairwise_cons.1 h1).1 b m2) ((List.pairwise_cons.1 h2).1 a m1)
  subst hab
  rw[sorted_uniq (List.Perm.cons_inv h) (fun x hx y hy=>ha x (List.mem_cons_of_mem _ hx) y (List.mem_cons_of_mem _ hy)) (List.pairwise_cons.1 h1).2 (List.pairwise_cons.1 h2).2]
theorem inc_uniq{l m:List Int}(h:∀ x,x∈l↔x∈m)(h1:l.Pairwise (· < ·))(h2:m.Pairwise (· < ·)):l=m:=by
 have n1:l.Nodup:=h1.imp fun k e=>by omega
 have n2:m.Nodup:=h2.imp fun k e=>by omega
 refine sorted_uniq (le:=fun a b:Int=>a<b) ((List.perm_ext_iff_of_nodup n1 n2).2 h) (fun x _ y _ a b=>by omega) h1 h2
theorem dir_same{d e:Pt2}(hd:d≠(0,0))(he:e≠(0,0))(h1:¬ arV d e<0)(h2:¬ arV e d<0):d.1*e.2-d.2*e.1=0∧0<d.1*e.1+d.2*e.2:=by
 rw[ar_neg] at h1 h2
 obtain⟨dx,dy⟩:=d
 obtain⟨ex,ey⟩:=e
 have c1:=low_cases hd
 have c2:=low_cases he
 dsimp only at *
 have hl:lowV (dx,dy)=lowV (ex,ey):=by omega
 have hc:ex*dy=dx*ey:=by omega
 have hcomm:dy*ex=ex*dy:=Int.mul_comm _ _
 refine⟨by omega,?_⟩
 have pos:∀ {x y z w:Int},z*y=x*w→(0<y∨(y=0∧0<x))→(0<w∨(w=0∧0<z))→0<x*z+y*w:=by
  intro x y z w h hy hw
  rcases hy with hy | ⟨hy,hx⟩
  ·rcases hw with hw | ⟨hw,hz⟩
   ·have e:w*(x*z+y*w)=y*(z*z+w*w):=by grind
    have p1:0≤z*z:=by
     rcases Int.le_total 0 z with k | k
     ·exact Int.mul_nonneg k k
     ·exact Int.mul_nonneg_of_nonpos_of_nonpos k k
    have p2:0<w*w:=Int.mul_pos hw hw
    have p3:0<y*(z*z+w*w):=Int.mul_pos hy (by omega)
    rw[← e] at p3
    rcases Int.lt_or_le 0 (x*z+y*w) with k | k
    ·exact k
    ·have:=Int.mul_nonneg (Int.le_of_lt hw) (show 0 ≤ -(x*z+y*w) by omega)
     rw[Int.mul_neg] at this
     omega
   ·rw[hw,Int.mul_zero] at h
    have:0<z*y:=Int.mul_pos hz hy
    omega
  ·rcases hw with hw | ⟨hw,hz⟩
   ·rw[hy,Int.mul_zero] at h
    have:0<x*w:=Int.mul_pos hx hw
    omega
   ·rw[hy,hw]
    have:0<x*z:=Int.mul_pos hx hz
    omega
 rcases c1 with⟨k1,k2⟩ | ⟨k1,k2⟩ <;> rcases c2 with⟨k3,k4⟩ | ⟨k3,k4⟩
 ·exact pos hc k2 k4
 ·omega
 ·omega
 ·have:=pos (x := -dx) (y := -dy) (z := -ex) (w := -ey) (by rw[Int.neg_mul_neg,Int.neg_mul_neg];exact hc) (by omega) (by omega)
  rw[Int.neg_mul_neg,Int.neg_mul_neg] at this
  exact this
theorem onV_mk{a b p:Pt2}(ha:okP a.1 a.2=true)(hb:okP b.1 b.2=true)(hp:okP p.1 p.2=true)(h1:crs a b p=0)(h2:(a.1-p.1)*(b.1-p.1)+(a.2-p.2)*(b.2-p.2)≤0):onV a b p=true:=by
 unfold onV
 rw[Bool.and_eq_true,decide_eq_true_eq,beq_iff_eq,turn_crs ha hb hp,(clamp_id ha).1,(clamp_id ha).2,(clamp_id hb).1,(clamp_id hb).2,(clamp_id hp).1,(clamp_id hp).2]
 refine⟨?_,h2⟩
 rw[h1];rfl
theorem crs_swp(r s q:Pt2):crs s r q = - crs r s q:=by unfold crs crossV;grind
theorem onV_end{a b:Pt2}(ha:okP a.1 a.2=true)(hb:okP b.1 b.2=true):onV a b a=true∧onV a b b=true:=by
 refine⟨onV_mk ha hb ha (crs_self a b).2.1 ?_,onV_mk ha hb hb (crs_self a b).1 ?_⟩
 ·rw[Int.sub_self,Int.sub_self,Int.zero_mul,Int.zero_mul];omega
 ·rw[Int.sub_self,Int.sub_self,Int.mul_zero,Int.mul_zero];omega
theorem meet_same{a b c d p x y:Pt2}(oa:okP a.1 a.2=true)(ob:okP b.1 b.2=true)(oc:okP c.1 c.2=true)(od:okP d.1 d.2=true)(hs:(a=p∧b=x)∨(a=x∧b=p))(ht:(c=p∧d=y)∨(c=y∧d=p))(hx:x≠p)(hy:y≠p)
  (hcr:(x.1-p.1)*(y.2-p.2)-(x.2-p.2)*(y.1-p.1)=0) (hdot:0<(x.1-p.1)*(y.1-p.1)+(x.2-p.2)*(y.2-p.2)):smeetV a b c d=2:=by
 have op:okP p.1 p.2=true:=by rcases hs with⟨rfl,-⟩ | ⟨-,rfl⟩ <;> assumption
 have ox:okP x.1 x.2=true:=by rcases hs with⟨-,rfl⟩ | ⟨rfl,-⟩ <;> assumption
 have oy:okP y.1 y.2=true:=by rcases ht with⟨-,rfl⟩ | ⟨rfl,-⟩ <;> assumption
 have key:onV p x y=true∨onV p y x=true:=by
  obtain⟨px,py⟩:=p
  obtain⟨x1,x2⟩:=x
  obtain⟨y1,y2⟩:=y
  dsimp only at *
  obtain⟨u1,hu1⟩:∃ u1,u1=x1-px:=⟨_,rfl⟩
  obtain⟨u2,hu2⟩:∃ u2,u2=x2-py:=⟨_,rfl⟩
  obtain⟨v1,hv1⟩:∃ v1,v1=y1-px:=⟨_,rfl⟩
  obtain⟨v2,hv2⟩:∃ v2,v2=y2-py:=⟨_,rfl⟩
  rw[← hu1,← hu2,← hv1,← hv2] at hcr hdot
  have id:(u1*v1+u2*v2)*(u1*v1+u2*v2)=(u1*u1+u2*u2)*(v1*v1+v2*v2):=by grind
  rcases Int.lt_or_le (u1*v1+u2*v2) (v1*v1+v2*v2) with k1 | k1
  ·right
   have k2:u1*u1+u2*u2≤u1*v1+u2*v2:=by
    rcases Int.lt_or_le (u1*v1+u2*v2) (u1*u1+u2*u2) with k2 | k2
    ·exfalso
     have s1:(u1*v1+u2*v2)*(u1*v1+u2*v2)<(u1*u1+u2*u2)*(u1*v1+u2*v2):=Int.mul_lt_mul_of_pos_right k2 hdot
     have s2:(u1*u1+u2*u2)*(u1*v1+u2*v2)<(u1*u1+u2*u2)*(v1*v1+v2*v2):=Int.mul_lt_mul_of_pos_left k1 (by omega)
     omega
    ·exact k2
   refine onV_mk op oy ox ?_ ?_
   ·show(y1-px)*(x2-py)-(y2-py)*(x1-px)=0
    rw[← hu1,← hu2,← hv1,← hv2]
    have:=Int.mul_comm u1 v2
    have:=Int.mul_comm u2 v1
    omega
   ·dsimp only
    have e1:px-x1 = -u1:=by omega
    have e2:py-x2 = -u2:=by omega
    have e3:y1-x1=v1-u1:=by omega
    have e4:y2-x2=v2-u2:=by omega
    rw[e1,e2,e3,e4]
    have : -u1*(v1-u1) + -u2*(v2-u2)=(u1*u1+u2*u2)-(u1*v1+u2*v2):=by grind
    omega
  ·left
   refine onV_mk op ox oy ?_ ?_
   ·show(x1-px)*(y2-py)-(x2-py)*(y1-px)=0
    rw[← hu1,← hu2,← hv1,← hv2]
    exact hcr
   ·dsimp only
    have e1:px-y1 = -v1:=by omega
    have e2:py-y2 = -v2:=by omega
    have e3:x1-y1=u1-v1:=by omega
    have e4:x2-y2=u2-v2:=by omega
    rw[e1,e2,e3,e4]
    have : -v1*(u1-v1) + -v2*(u2-v2)=(v1*v1+v2*v2)-(u1*v1+u2*v2):=by grind
    omega
 have sym:∀ {r s q:Pt2},okP r.1 r.2=true→okP s.1 s.2=true→okP q.1 q.2=true→onV r s q=true→onV s r q=true:=by
  intro r s q o1 o2 o3 h
  obtain⟨h1,h2⟩:=onV_ok o1 o2 o3 h
  refine onV_mk o2 o1 o3 ?_ ?_
  ·rw[crs_swp,h1];rfl
  ·rw[Int.mul_comm (s.1-q.1),Int.mul_comm (s.2-q.2)];exact h2
 obtain⟨e1,e2⟩:=onV_end (a:=p) (b:=x) op ox
 obtain⟨e3,e4⟩:=onV_end (a:=p) (b:=y) op oy
 have mem:p∈sharedL a b c d∧(x∈sharedL a b c d∨y∈sharedL a b c d):=by
  obtain⟨s1,s2,s3,s4⟩:=sharedL_of (a:=a) (b:=b) (c:=c) (d:=d)
  have hab:∀ q,okP q.1 q.2=true→onV p x q=true→onV a b q=true:=fun q oq h=>by
   rcases hs with⟨rfl,rfl⟩ | ⟨rfl,rfl⟩
   ·exact h
   ·exact sym op ox oq h
  have hcd:∀ q,okP q.1 q.2=true→onV p y q=true→onV c d q=true:=fun q oq h=>by
   rcases ht with⟨rfl,rfl⟩ | ⟨rfl,rfl⟩
   ·exact h
   ·exact sym op oy oq h
  refine⟨?_,?_⟩
  ·have h:=hab p op e1
   rcases ht with⟨rfl,rfl⟩ | ⟨rfl,rfl⟩
   ·exact s3 h
   ·exact s4 h
  ·rcases key with k | k
   ·right
    have h:=hab y oy k
    rcases ht with⟨rfl,rfl⟩ | ⟨rfl,rfl⟩
    ·exact s4 h
    ·exact s3 h
   ·left
    have h:=hcd x ox k
    rcases hs with⟨rfl,rfl⟩ | ⟨rfl,rfl⟩
    ·exact s2 h
    ·exact s1 h
 have two:2≤(sharedL a b c d).length:=by
  have hn:=sharedL_nodup a b c d
  have:∀ q,q≠p→q∈sharedL a b c d→2≤(sharedL a b c d).length:=fun q hq hm=>by
   have h2:[p,q].Nodup:=by simp[Ne.symm hq]
   have:=len_le_of_sub h2 (m:=sharedL a b c d) (fun z hz=>by
    simp only[List.mem_cons,List.not_mem_nil,or_false] at hz
    rcases hz with rfl | rfl
    ·exact mem.1
    ·exact hm)
   simpa using this
  rcases mem.2 with k | k
  ·exact this x hx k
  ·exact this y hy k
 unfold smeetV
 rw[if_neg,Int.min_eq_left (by omega)]
 rintro⟨k,-⟩
 have z:∀ q,q=p→turnV a.1 a.2 b.1 b.2 q.1 q.2=0:=fun q hq=>by
  subst hq
  rw[turn_crs oa ob op]
  have:crs a b q=0:=by
   rcases hs with⟨rfl,rfl⟩ | ⟨rfl,rfl⟩
   ·exact(crs_self _ _).2.1
   ·exact(crs_self _ _).1
  rw[this];rfl
 rcases ht with⟨e,-⟩ | ⟨-,e⟩
 ·rw[z c e,Int.zero_mul] at k;omega
 ·rw[z d e,Int.mul_zero] at k;omega
theorem Cyc.total{N:Nat}{nx:Nat→Nat}{cr:Nat→Int}{C I T:List Int}(h:Cyc N nx cr N C I T){g:Nat}(hg:g<N):∃ c:Nat,iAt C g=c∧c<I.length:=by
 have h1:=h.done g hg hg
 rcases h.rng g hg with k | ⟨-,k⟩
 ·omega
 ·exact⟨(iAt C g).toNat,by omega,by omega⟩
theorem Cyc.it{N:Nat}{nx:Nat→Nat}{cr:Nat→Int}{h:Nat}{C I T:List Int}(hc:Cyc N nx cr h C I T)(hp:PermN N nx){g:Nat}(hg:g<N):∀ i,iAt C (itN nx g i)=iAt C g
 | 0=>rfl
 | i+1=>by
  show iAt C (nx (itN nx g i))=_
  rw[hc.cls _ (it_lt hp hg i),hc.it hp hg i]
theorem Cyc.least{N:Nat}{nx:Nat→Nat}{cr:Nat→Int}{C I T:List Int}(hc:Cyc N nx cr N C I T)(hp:PermN N nx){g:Nat}(hg:g<N):∃ r:Nat,iAt I (iAt C g).toNat=r∧r<N∧(∃ i,itN nx r i=g)∧∀ k,k<N→(∃ i,itN nx k i=g)→r≤k:=by
 obtain⟨c,e,hcl⟩:=hc.total hg
 obtain⟨r,e1,-,h2,h3,h4⟩:=hc.fst c hcl
 obtain⟨i,hi⟩:=hc.one g hg (by omega)
 rw[e,Int.toNat_natCast,e1] at hi ⊢
 refine⟨r,rfl,h2,⟨i,by simpa using hi⟩,fun k hk ⟨j,hj⟩=>h4 k hk ?_⟩
 rw[← hc.it hp hk j,hj,e]
theorem Cyc.uniq{N:Nat}{nx:Nat→Nat}{cr:Nat→Int}{C I T C' I' T' : List Int}(hp:PermN N nx)(h:Cyc N nx cr N C I T)(h' : Cyc N nx cr N C' I' T'):C=C' ∧ I=I' ∧ T=T' := by
 have rep:∀ g,g<N→iAt I (iAt C g).toNat=iAt I' (iAt C' g).toNat:=fun g hg=>by
  obtain⟨r,e,h1,h2,h3⟩:=h.least hp hg
  obtain⟨r',e',h1',h2',h3'⟩:=h'.least hp hg
  rw[e,e']
  have:=h3 r' h1' h2'
  have:=h3' r h1 h2
  omega
 have inc:∀ {C I T:List Int},Cyc N nx cr N C I T→I.Pairwise (· < ·):=fun {C I T} h=>by
  rw[List.pairwise_iff_getElem]
  intro i j hi hj hij
  have:=h.inc i j hij hj
  simpa[iAt,List.getD,hi,hj] using this
 have mem:∀ {C I T C' I' T' : List Int},Cyc N nx cr N C I T→Cyc N nx cr N C' I' T' → (∀ g,g<N→iAt I (iAt C g).toNat=iAt I' (iAt C' g).toNat)→∀ x,x∈I→x∈I' := fun {C I T C' I' T'} h h' hr x hx=>by
  obtain⟨c,hc,rfl⟩:=List.mem_iff_getElem.1 hx
  obtain⟨g,e,-,hg,eg,-⟩:=h.fst c hc
  have:=hr g hg
  rw[eg,Int.toNat_natCast] at this
  have e2:iAt I c=I[c]:=by simp[iAt,List.getD,hc]
  rw[← e2,this]
  obtain⟨c',e',hc'⟩:=h'.total hg
  rw[e',Int.toNat_natCast]
  exact iAt_mem hc'
 have eI:I=I' := inc_uniq (fun x=>⟨mem h h' rep x,mem h' h (fun g hg=>(rep g hg).symm) x⟩) (inc h) (inc h')
 subst eI
 have eC:C=C' := by
  apply List.ext_getElem (by rw[h.lenC,h'.lenC])
  intro g h1 h2
  have hg:g<N:=by rw[← h.lenC];exact h1
  obtain⟨c,e,hc⟩:=h.total hg
  obtain⟨c',e',hc'⟩:=h'.total hg
  have:=rep g hg
  rw[e,e',Int.toNat_natCast,Int.toNat_natCast] at this
  have e2:iAt C g=C[g]:=by simp[iAt,List.getD,h1]
  have e3:iAt C' g=C'[g]:=by simp[iAt,List.getD,h2]
  rw[← e2,← e3,e,e']
  rcases Nat.lt_trichotomy c c' with k | k | k
  ·have:=h.inc c c' k hc';omega
  ·rw[k]
  ·have:=h.inc c' c k hc;omega
 subst eC
 refine⟨rfl,rfl,?_⟩
 apply List.ext_getElem (by rw[h.lenT,h'.lenT])
 intro c h1 h2
 have e2:iAt T c=T[c]:=by simp[iAt,List.getD,h1]
 have e3:iAt T' c=T'[c]:=by simp[iAt,List.getD,h2]
 rw[← e2,← e3,h.sum c (by rw[← h.lenT];exact h1),h'.sum c (by rw[← h'.lenT];exact h2)]
section
variable {E : List Sg} {P : List Pt2} {n : Nat}
theorem sg_inj(hE:RndOk E){i j:Nat}(hi:i<E.length)(hj:j<E.length)(e:sgAt E i=sgAt E j):i=j:=by
 have hs:=hE.srt
 unfold SrtG at hs
 rw[List.pairwise_iff_getElem] at hs
 have e1:sgAt E i=E[i]:=by simp[sgAt,List.getD,hi]
 have e2:sgAt E j=E[j]:=by simp[sgAt,List.getD,hj]
 rcases Nat.lt_trichotomy i j with k | k | k
 ·have:=hs i j hi hj k
  rw[← e1,← e2,e] at this
  rw[lxG_irr] at this;cases this
 ·exact k
 ·have:=hs j i hj hi k
  rw[← e1,← e2,e] at this
  rw[lxG_irr] at this;cases this
theorem dir_apart(hE:RndOk E)(hn:n=E.length)(hP:∀ h,h<2*n→endH E h∈P){g h:Nat}(hg:g<2*n)(hh:h<2*n)(hv:frH E P g=frH E P h)(h1:¬ arV (dirI P (hfK E P (2*n)) g) (dirI P (hfK E P (2*n)) h)<0)(h2:¬ arV (dirI P (hfK E P (2*n)) h) (dirI P (hfK E P (2*n)) g)<0):g=h:=by
 apply Classical.byContradiction
 intro hne
 have hend:endH E g=endH E h:=by
  have e1:=(idP_at (hP g hg)).2
  have e2:=(idP_at (hP h hh)).2
  unfold frH at hv
  rw[← e1,← e2,hv]
 have htg:twN g<2*n:=twN_lt hg (by omega)
 have hth:twN h<2*n:=twN_lt hh (by omega)
 have hi:g/2<E.length:=by omega
 have hj:h/2<E.length:=by omega
 have hij:g/2≠h/2:=fun e=>by
  have hgt:h=twN g:=by unfold twN;split <;> omega
  have:=endH_tw hE hg hn
  rw[← hgt] at this
  exact this hend.symm
 have hsne:sgAt E (g/2)≠sgAt E (h/2):=fun e=>hij (sg_inj hE hi hj e)
 have hm:=(hE.meet _ (sgAt_mem hi) _ (sgAt_mem hj) hsne).1
 rw[dirI_fr hg hP,dirI_fr hh hP] at h1 h2
 have n1:=endH_tw hE hg hn
 have n2:=endH_tw hE hh hn
 have z1:(((endH E (twN g)).1-(endH E g).1,(endH E (twN g)).2-(endH E g).2):Pt2)≠(0,0):=fun e=>by
  injection e with e1 e2
  exact n1 (Prod.ext (by omega) (by omega))
 have z2:(((endH E (twN h)).1-(endH E h).1,(endH E (twN h)).2-(endH E h).2):Pt2)≠(0,0):=fun e=>by
  injection e with e1 e2
  exact n2 (Prod.ext (by omega) (by omega))
 obtain⟨d1,d2⟩:=dir_same z1 z2 h1 h2
 dsimp only at d1 d2
 rw[← hend] at d1 d2 n2
 have ends:∀ k,((sgAt E (k/2)).1=endH E k∧(sgAt E (k/2)).2=endH E (twN k))∨((sgAt E (k/2)).1=endH E (twN k)∧(sgAt E (k/2)).2=endH E k):=fun k=>by
  unfold endH twN
  by_cases q:k % 2=0
  ·left
   have e1:(k+1)/2=k/2:=by omega
   have e2:¬ (k+1) % 2=0:=by omega
   simp only[if_pos q,if_neg e2,e1]
   exact⟨trivial,trivial⟩
  ·right
   have e1:(k-1)/2=k/2:=by omega
   have e2:(k-1) % 2=0:=by omega
   simp only[if_neg q,if_pos e2,e1]
   exact⟨trivial,trivial⟩
 have o1:=hE.ok _ (sgAt_mem hi)
 have o2:=hE.ok _ (sgAt_mem hj)
 have eh:=ends h
 rw[← hend] at eh
 have:=meet_same o1.1 o1.2.1 o2.1 o2.2.1 (ends g) eh n1 n2 d1 d2
 omega
theorem SrtO.uniq(hE:RndOk E)(hn:n=E.length)(hP:∀ h,h<2*n→endH E h∈P){v:Nat}{l l' : List Int}(h:SrtO P (hfK E P (2*n)) (outK E P (2*n) v) l)(h' : SrtO P (hfK E P (2*n)) (outK E P (2*n) v) l'):l=l' := by
 refine sorted_uniq (h.1.trans h'.1.symm) (fun x hx y hy k1 k2=>?_) h.2 h'.2
 obtain⟨a,rfl,ha,ea⟩:=outK_mem.1 (h.1.mem_iff.1 hx)
 obtain⟨b,rfl,hb,eb⟩:=outK_mem.1 (h.1.mem_iff.1 hy)
 have:=dir_apart hE hn hP ha hb (by rw[ea,eb]) k2 k1
 rw[this]
end
end
section
open Go.RowKit Go.BigFrame
attribute [local go_sem ↓] eqPt neqPt
def teK(E:List Sg)(P:List Pt2)(x:Int):Nat:=frH E P (twN x.toNat)
def BldR(E:List Sg)(P:List Pt2)(H:List Hf)(F:List Int):Prop :=
 ∃ (O:List (Value×List Int)) (C I T:List Int),P=hullS (ptsK E E.length)∧O.length=P.length∧(∀ v,v<P.length→SrtO P (hfK E P (2*E.length)) (outK E P (2*E.length) v) (O.getD v (nilV,[])).2) ∧
  Cyc (2*E.length) (nxN (frH E P) (rowO O)) (crI P (frH E P)) (2*E.length) C I T ∧
  H=mkH (2*E.length) (frH E P) (fun g=>nxN (frH E P) (rowO O) g) (fun h=>iAt (fac2 P (frH E P) (nxN (frH E P) (rowO O)) I T (prtK (teK E P) (rowO O) P.length P.length) I.length) (iAt C h).toNat) ∧
  F=fac3 (fac2 P (frH E P) (nxN (frH E P) (rowO O)) I T (prtK (teK E P) (rowO O) P.length P.length) I.length) C (fac1 I T I.length).2 (2*E.length)
theorem end_pts{E:List Sg}{n:Nat}(hn:n=E.length):∀ h,h<2*n→endH E h∈hullS (ptsK E n):=fun h hh=>hullS_mem.2 (endH_mem hh hn)
theorem BldR.uniq{E:List Sg}(hE:RndOk E)(hl:E.length≤3000){P P' : List Pt2}{H H' : List Hf}{F F' : List Int}(h:BldR E P H F)(h' : BldR E P' H' F'):P=P' ∧ H=H' ∧ F=F' := by
 obtain⟨O,C,I,T,hP,hOl,hO,hC,hH,hF⟩:=h
 obtain⟨O',C',I',T',hP',hOl',hO',hC',hH',hF'⟩:=h'
 have eP:P=P' := by rw[hP,hP']
 subst eP
 have eR:rowO O=rowO O' := by
  funext v
  unfold rowO
  rcases Nat.lt_or_ge v P.length with k | k
  ·exact SrtO.uniq hE rfl (by rw[hP];exact end_pts rfl) (hO v k) (hO' v k)
  ·have z:∀ O:List (Value×List Int),O.length≤v→O.getD v (nilV,[])=(nilV,[]):=fun O h=>by simp[List.getD,List.getElem?_eq_none h]
   rw[z O (by omega),z O' (by omega)]
 rw[← eR] at hC' hH' hF'
 rcases Nat.eq_zero_or_pos E.length with e0 | hpos
 ·have z:PermN (2*E.length) (nxN (frH E P) (rowO O)):=⟨fun g hg=>by omega,fun g h hg=>by omega⟩
  obtain⟨rfl,rfl,rfl⟩:=Cyc.uniq z hC hC'
  exact⟨rfl,by rw[hH,hH'],by rw[hF,hF']⟩
 ·have K:Net (2*E.length) P.length P (frH E P) (rowO O):=net_begin hE rfl hl hpos hP rfl hO
  obtain⟨rfl,rfl,rfl⟩:=Cyc.uniq K.perm hC hC'
  exact⟨rfl,by rw[hH,hH'],by rw[hF,hF']⟩
theorem Rws.mono{w:World}{B B' : Nat}{L:List Rw}(h:Rws w B L)(hB:B' ≤ B):Rws w B' L:=⟨fun i r hi=>(h.ok i r hi).mono hB,h.ap⟩
def MapS(w:World)(B:Nat)(vP vH vF:Value)(P:List Pt2)(H:List Hf)(F:List Int):Prop :=
 Rws w B [⟨vP,36,2,P.length,P.flatMap ptV⟩,⟨vH,33,4,H.length,H.flatMap hfV⟩,rI vF F]
theorem Mk.map{w:World}{G:Nat}{s:St}(h:Mk w G s):MapS w (G+1) s.vP s.vH s.vF s.P s.H s.F:=by
 have h2:=h.rows
 unfold St.rows at h2
 exact Rws.init (M:=(rI s.vC s.C) :: (rI s.vI s.I) :: (rI s.vT s.T) :: (rI s.vA s.A) :: _) h2
def BldS(w:World)(G:Nat)(E:List Sg):Prop:=∃ (vP vH vF:Value) (P:List Pt2) (H:List Hf) (F:List Int) (vs:List Value),Blk w G 94 (vP :: vH :: vF :: vs).toArray∧MapS w (G+1) vP vH vF P H F∧BldR E P H F
set_option maxRecDepth 100000 in
set_option maxHeartbeats 4000000 in
theorem Steps_any(a:Option Addr)(c G:Nat)(E:List Sg)(w0 w:World)(hs0:Since w0 w)(hG:w0.heap.size≤G)(hM:Mk w G St.nil)(hv:SegsN w0 (.slice a E.length c) E)(hE:RndOk E)(hl:E.length≤3000)(hpos:0<E.length) :
  Calls Tryz.prog 64 #[.pointer (some ⟨G,0,none⟩),.slice a E.length c] w fun e1 w1=>e1=.returned (.tuple #[])∧Since w0 w1 ∧
  Calls Tryz.prog 65 #[.pointer (some ⟨G,0,none⟩)] w1 fun e2 w2=>e2=.returned (.tuple #[])∧Since w0 w2 ∧
  Calls Tryz.prog 66 #[.pointer (some ⟨G,0,none⟩)] w2 fun e3 w3=>e3=.returned (.tuple #[])∧Since w0 w3 ∧
  Calls Tryz.prog 67 #[.pointer (some ⟨G,0,none⟩)] w3 fun e4 w4=>e4=.returned (.tuple #[])∧Since w0 w4 ∧
   BldS w4 G E:=by
 refine(Begin_any a c G E w0 w hs0 hG hM hv hE hl hpos).mono ?_
 rintro e1 w1 ⟨rfl,hs1,gP,cP,gO,gH,cH,V,n,P,O,hn,hP,hV,hM1,hOl,hO⟩
 refine⟨rfl,hs1,?_⟩
 subst hn
 have K:Net (2*E.length) V P (frH E P) (rowO O):=net_begin hE rfl hl hpos hP hV hO
 have hM1' : Mk w1 G (stL gP cP gH cH gO V P (mkH (2*E.length) (frH E P) (fun _=>0) (fun _=>0)) O nilV nilV nilV [] [] []):=hM1
 refine(Link_any G gP cP gO gH cH V (2*E.length) P (frH E P) O w0 w1 hs1 hG hM1' hOl K).mono ?_
 rintro e2 w2 ⟨rfl,hs2,gC,vI,vT,C,I,T,hM2,hC⟩
 refine⟨rfl,hs2,?_⟩
 rw[mkH_congr (nx' := fun g=>((nxN (frH E P) (rowO O) g:Nat):Int)) (fc' := fun _=>0) (fun i hi=>(K.nx hi).1) (fun _ _=>rfl)] at hM2
 have hVp:0<V:=by
  have:=K.fr_lt 0 (by omega)
  omega
 have hT:∀ v,v<V→∀ x∈rowO O v,∃ h:Nat,x=h∧twN h<(mkH (2*E.length) (frH E P) (fun g=>((nxN (frH E P) (rowO O) g:Nat):Int)) (fun _=>0)).length∧(hAt (mkH (2*E.length) (frH E P) (fun g=>((nxN (frH E P) (rowO O) g:Nat):Int)) (fun _=>0)) (twN h)).1=(teK E P x:Int)∧teK E P x<V:=fun v hv x hx=>by
  obtain⟨h,rfl,hh,-⟩:=(K.mem v hv x).1 hx
  have ht:=K.tw_lt hh
  refine⟨h,rfl,by rw[mkH_len];exact ht,?_,?_⟩
  ·rw[mkH_at ht];unfold teK;rw[Int.toNat_natCast]
  ·unfold teK;rw[Int.toNat_natCast];exact K.fr_lt _ ht
 have hRl:∀ v,v<V→(rowO O v).length≤6000:=fun v hv=>by
  have:=len_le_of_sub (K.nd v hv) (m:=(List.range (2*E.length)).map (fun i:Nat=>(i:Int))) (fun x hx=>by
   obtain⟨h,rfl,hh,-⟩:=(K.mem v hv x).1 hx
   exact List.mem_map.2 ⟨h,List.mem_range.2 hh,rfl⟩)
  simp at this
  omega
 refine(Parts_any G gP cP gO gH cH V P _ O _ vI vT C I T (teK E P) w0 w2 hs2 hG hM2 hOl K.len.symm hVp K.vle (by rw[mkH_len];have:=K.le;omega) hT hRl).mono ?_
 rintro e3 w3 ⟨rfl,hs3,gA,hM3⟩
 refine⟨rfl,hs3,?_⟩
 have hIp:0<I.length:=by
  obtain⟨c,-,hc⟩:=hC.total (g:=0) (by omega)
  omega
 obtain⟨gI,cI,hvI⟩:=hM3.rows.some_ (i:=4) rfl (show 0<I.length from hIp)
 obtain⟨gT,cT,hvT⟩:=hM3.rows.some_ (i:=5) rfl (show 0<T.length by rw[hC.lenT];exact hIp)
 have hvI2:vI=.slice (some ⟨gI,0,none⟩) I.length cI:=hvI
 have hvT2:vT=.slice (some ⟨gT,0,none⟩) T.length cT:=hvT
 rw[hC.lenT] at hvT2
 subst hvI2 hvT2
 have hWY:Way (2*E.length) V P (frH E P) (nxN (frH E P) (rowO O)):=⟨K.le,K.vle,K.len,K.perm,K.fr_lt,fun g hg=>K.tw_lt hg⟩
 have hRV:∀ v,v<V→∀ x∈rowO O v,teK E P x<V:=fun v hv x hx=>by obtain⟨h,-,-,-,k⟩:=hT v hv x hx;exact k
 refine(Faces_any G gP cP gO gH cH gC gI cI gT cT gA (2*E.length) V I.length P (frH E P) (nxN (frH E P) (rowO O)) O C I T (prtK (teK E P) (rowO O) V V) w0 w3 hs3 hG hWY rfl hIp ?_ hC.lenT hC.lenC (prtK_len hRV V (Nat.le_refl _)) ?_ (fun g hg=>hC.total hg) hM3).mono ?_
 ·have:=hC.le;omega
 ·intro c hc
  obtain⟨g,e,-,hg,-⟩:=hC.fst c hc
  exact⟨g,e,hg⟩
 rintro e4 w4 ⟨rfl,hs4,vF,hM4⟩
 refine⟨rfl,hs4,_,_,vF,P,_,_,_,hM4.blk,hM4.map,O,C,I,T,hP,by rw[hOl,hV],?_,hC,?_,?_⟩
 ·intro v hv
  exact hO v (by rw[hV];exact hv)
 ·rw[← K.len];rfl
 ·rw[← K.len];rfl
set_option maxRecDepth 100000 in
set_option maxHeartbeats 4000000 in
theorem BuildS_any(a:Option Addr)(c:Nat)(E:List Sg)(w:World)(hv:SegsN w (.slice a E.length c) E)(hE:RndOk E)(hl:E.length≤3000)
  (hst:∀ (G:Nat) (w0 w' : World),Since w0 w' → w0.heap.size≤G→Mk w' G St.nil→SegsN w0 (.slice a E.length c) E → 
   Calls Tryz.prog 64 #[.pointer (some ⟨G,0,none⟩),.slice a E.length c] w' fun e1 w1=>e1=.returned (.tuple #[])∧Since w0 w1 ∧
   Calls Tryz.prog 65 #[.pointer (some ⟨G,0,none⟩)] w1 fun e2 w2=>e2=.returned (.tuple #[])∧Since w0 w2 ∧
   Calls Tryz.prog 66 #[.pointer (some ⟨G,0,none⟩)] w2 fun e3 w3=>e3=.returned (.tuple #[])∧Since w0 w3 ∧
   Calls Tryz.prog 67 #[.pointer (some ⟨G,0,none⟩)] w3 fun e4 w4=>e4=.returned (.tuple #[])∧Since w0 w4∧BldS w4 G E) :
  Calls Tryz.prog 40 #[.slice a E.length c] w fun e w' => ∃ (vP vH vF:Value) (P:List Pt2) (H:List Hf) (F:List Int),e=.returned (.tuple #[.agg #[vP,vH,vF],.int .i64 0])∧Since w w' ∧ MapS w' w.heap.size vP vH vF P H F∧BldR E P H F:=by
 have HST:=Lib.hid hst
 have HV:=Lib.hid hv
 have HCK:=Lib.hid (fun w' (k:Since w w')=>ArrCheck_any (.slice a E.length c) E w' (hv.since k) hE hl)
 clear hst hv hE
 obtain⟨n,HN⟩:∃ n,Hid (n=E.length):=⟨_,rfl⟩
 rw[← HN.out] at HST HV HCK ⊢
 obtain⟨B,HB⟩:∃ B,Hid (B=w.heap.size):=⟨_,rfl⟩
 go_enter Tryz.func40,Tryz.ntmps40
 go_upto_region 1 with fail
 rw[← HB.out]
 refine atW (fun w' => Hid (Since w w' ∧ Blk w' B 26 #[nilV,nilV,nilV])) ⟨(Since.rfl_ w).alloc _,Blk.new' HB.out⟩ ?_
 rintro w1 HW1
 go_upto_region 4 with(go_at_call 63;refine(HCK.out _ HW1.out.1).mono ?_;rintro e w2 ⟨rfl,hs2⟩;have HS2:=Lib.hid hs2;clear hs2 HCK)
 have HW2:=Lib.hid (And.intro (HW1.out.1.trans HS2.out) (HS2.out.blk HW1.out.2))
 clear HS2 HW1
 obtain⟨G,HG⟩:∃ G,Hid (G=w2.heap.size):=⟨_,rfl⟩
 go_upto_region 5 with fail
 rw[← HG.out]
 have hr0:Rws (w2.alloc (.cells #[nilV,nilV,nilV,nilV,nilV,nilV,nilV,nilV] 94)) (G+1) St.nil.rows :=
  Rws.more (L:=[]) ⟨fun i r hi=>(by simp at hi),fun i j r s _ hi=>(by simp at hi)⟩ St.nil.rows (fun r hr=>by
   simp only[St.rows,St.nil,rI,List.mem_cons,List.not_mem_nil,or_false,List.map_nil,List.append_nil,List.length_nil,List.flatMap_nil] at hr
   rcases hr with rfl | rfl | rfl | rfl | rfl | rfl | rfl | rfl <;> exact⟨rfl,rfl,rfl⟩)
 have HC5:=Lib.hid (HST.out G w2 (w2.alloc (.cells #[nilV,nilV,nilV,nilV,nilV,nilV,nilV,nilV] 94)) ((Since.rfl_ w2).alloc _) (by rw[HG.out];exact Nat.le_refl _) ⟨Blk.new' HG.out,hr0⟩ (HV.out.since HW2.out.1))
 clear hr0 HST
 go_upto_region 6 with(go_at_call 64;refine HC5.out.mono ?_;rintro e w3 ⟨rfl,-,hc6⟩;have HC6:=Lib.hid hc6;clear hc6)
 go_upto_region 7 with(go_at_call 65;refine HC6.out.mono ?_;rintro e w4 ⟨rfl,-,hc7⟩;have HC7:=Lib.hid hc7;clear hc7)
 go_upto_region 8 with(go_at_call 66;refine HC7.out.mono ?_;rintro e w5 ⟨rfl,-,hc8⟩;have HC8:=Lib.hid hc8;clear hc8)
 go_upto_region 9 with(go_at_call 67;refine HC8.out.mono ?_;rintro e w6 ⟨rfl,hs6,vP,vH,vF,P,H,F,vs,hb,hm,hbl⟩;have HS6:=Lib.hid hs6;have HB6:=Lib.hid hb;have HM6:=Lib.hid hm;have HBL:=Lib.hid hbl;clear hs6 hb hm hbl)
 obtain⟨aP,cP,hvP⟩:∃ a c,vP=.slice a P.length c:=Rws.slice HM6.out (i:=0) rfl
 obtain⟨aH,cH,hvH⟩:∃ a c,vH=.slice a H.length c:=Rws.slice HM6.out (i:=1) rfl
 obtain⟨aF,cF,hvF⟩:∃ a c,vF=.slice a F.length c:=Rws.slice HM6.out (i:=2) rfl
 subst hvP hvH hvF
 have c0:w6.cell? ⟨G,0,none⟩=some (.slice aP P.length cP):=HB6.out.cell 0
 have c1:w6.cell? ⟨G,1,none⟩=some (.slice aH H.length cH):=HB6.out.cell 1
 have c2:w6.cell? ⟨G,2,none⟩=some (.slice aF F.length cF):=HB6.out.cell 2
 have HBB:=Lib.hid (HS6.out.blk HW2.out.2)
 have b0:=HBB.out.cell 0
 have b1:=HBB.out.cell 1
 have b2:=HBB.out.cell 2
 have d0:=HBB.out.frozen 0
 have d1:=HBB.out.frozen 1
 have d2:=HBB.out.frozen 2
 simp only[List.getElem?_toArray,List.getElem?_cons_zero,List.getElem?_cons_succ] at b0 b1 b2
 have hBw:w.heap.size≤B:=by rw[HB.out];exact Nat.le_refl _
 have hBG:B<G:=by rw[HG.out];exact HW2.out.2.lt
 have HSF:=Lib.hid ((((HW2.out.1.trans HS6.out).setCell (p:=⟨B,0,none⟩) hBw (.slice aP P.length cP)).setCell (p:=⟨B,1,none⟩) hBw (.slice aH H.length cH)).setCell (p:=⟨B,2,none⟩) hBw (.slice aF F.length cF))
 have HMF:Hid (MapS (((w6.setCell ⟨B,0,none⟩ (.slice aP P.length cP)).setCell ⟨B,1,none⟩ (.slice aH H.length cH)).setCell ⟨B,2,none⟩ (.slice aF F.length cF)) w.heap.size (.slice aP P.length cP) (.slice aH H.length cH) (.slice aF F.length cF) P H F) :=
  Rws.mono (((Rws.low HM6.out (p:=⟨B,0,none⟩) (by dsimp only;omega) _).low (p:=⟨B,1,none⟩) (by dsimp only;omega) _).low (p:=⟨B,2,none⟩) (by dsimp only;omega) _) (by omega)
 clear HS6 HB6 HM6 HBB HW2 HC5 HC6 HC7 HC8 HV
 go_wp2_with fail
 refine bodyPost_ret (v:=.tuple #[.agg #[.slice aP P.length cP,.slice aH H.length cH,.slice aF F.length cF],.int .i64 0]) (by simp[results,Tryz.results40,go_sem,cSetS,cSetO,cellDrew,b0,b1,b2,d0,d1,d2]) rfl ⟨_,_,_,P,H,F,rfl,HSF.out,HMF.out,HBL.out⟩
theorem Build_some(a:Option Addr)(c:Nat)(E:List Sg)(w:World)(hv:SegsN w (.slice a E.length c) E)(hE:RndOk E)(hl:E.length≤3000)(hpos:0<E.length) :
  Calls Tryz.prog 40 #[.slice a E.length c] w fun e w' => ∃ (vP vH vF:Value) (P:List Pt2) (H:List Hf) (F:List Int),e=.returned (.tuple #[.agg #[vP,vH,vF],.int .i64 0])∧Since w w' ∧ MapS w' w.heap.size vP vH vF P H F∧BldR E P H F :=
 BuildS_any a c E w hv hE hl fun G w0 w' hs hG hM hv' => Steps_any a c G E w0 w' hs hG hM hv' hE hl hpos
end
section
open Go.RowKit Go.BigFrame Go.Shelf Go.Lib Go.Proofs Go.Maps
attribute [local go_sem ↓] eqPt neqPt
theorem pts_none(p:Option Addr)(cap:Nat)(fv:Value)(w:World):Calls Tryz.prog 86 #[.slice p 0 cap,fv] w fun e w' => e=.returned (.tuple #[])∧w' = w :=
 AnyF.slices_SortFunc_none (P:=Tryz.prog) (ρ:=sortPt_ren) { sortPt with } p cap fv w
set_option maxRecDepth 100000 in
theorem compact_none(w:World):Calls Tryz.prog 87 #[.slice none 0 0] w fun e w' => e=.returned (.slice none 0 0)∧w' = w:=by
 go_enter Tryz.func87,Tryz.ntmps87
 go_wp2_with fail
 go_ret
 exact⟨rfl,rfl⟩
set_option maxRecDepth 100000 in
set_option maxHeartbeats 1000000 in
theorem repeat_none{w:World}{g:Nat}{x:Int}(hg:Blk w g 3 #[.int .i64 x]) :
  Calls Tryz.prog 93 #[.slice (some ⟨g,0,none⟩) 1 1,.int .i64 0] w fun e w' => ∃ g',e=.returned (.slice (some ⟨g',0,none⟩) 0 0)∧Since w w' := by
 have HG:=Lib.hid hg
 have HM:=Lib.hid (fun w=>MulB 1 0 (by omega) (by omega) (by omega) w)
 rw[Nat.mul_zero] at HM
 obtain⟨i2,hi2,hy0,hy1,hy3⟩:=info_parts infoI
 have HI2:=Lib.hid (And.intro hi2 (And.intro hy0 (And.intro hy1 hy3)))
 have HSZ:Hid ((Tryz.prog.info? 3).map (·.size)=some 1):=by show _=_;rw[hi2];show some i2.size=_;rw[hy1]
 clear hi2 hy0 hy1 hy3
 obtain⟨B,HB⟩:∃ B,Hid (B=w.heap.size):=⟨_,rfl⟩
 clear hg
 go_enter Tryz.func93,Tryz.ntmps93
 go_upto_region 6 with(go_at_call 108;refine(HM.out _).mono ?_;rintro e w' ⟨rfl,rfl⟩)
 go_upto_region 7 with(at_make;refine wpList_make_full _ rfl _ _ 22 rfl w.heap.size 3 i2 _ 1 Tryz.underlying22 HI2.out.1 HI2.out.2.1 HI2.out.2.2.1 .i64 .i64 _ _ 0 rfl rfl rfl rfl (by rw[HI2.out.2.2.2];omega) (by unfold maxLen;omega) (Nat.le_refl _) ?_;intro w2 hown hgrow)
 rw[← HB.out] at hown ⊢
 have hs2:Since w w2:=⟨hgrow.os,hgrow.tape,hgrow.output,hgrow.size,fun i hi=>hgrow.block i hi (by simp)⟩
 have hcp0:=run_copy_cells (P:=Tryz.prog) w2 22 22 3 3 B 0 0 0 ⟨g,0,none⟩ 1 1 [] Tryz.underlying22 HSZ.out rfl (fun j v hv=>by simp at hv) (fun j hj=>by simp at hj) (fun j hj=>by simp at hj) (fun v hv=>by simp at hv)
 have hcp:(Builtin.copy_ #[22,22] 3 #[.slice (some ⟨B,0,none⟩) 0 0,.slice (some ⟨g,0,none⟩) 1 1]).run Tryz.prog w2=.ok (.int .i64 0) w2:=hcp0
 have HS2:=Lib.hid hs2
 clear hcp0 hown hgrow hs2
 go_wp2_with fail
 clear hcp
 go_loopw [8] (fun v wr=>v=.int .i64 0∧Hid (Since w wr)) (fun _ _=>0)
 case atStart=>exact⟨by go_num,HS2⟩
 case round =>
  clear HS2
  obtain⟨rfl,HS⟩:=hrel
  go_wp2_with fail
  go_ret
  exact⟨B,rfl,HS.out⟩
def Mk0(w:World)(G:Nat)(vF vC vA vO:Value):Prop:=Blk w G 94 #[nilV,nilV,vF,vC,nilV,nilV,vA,vO]
set_option maxRecDepth 100000 in
set_option maxHeartbeats 4000000 in
theorem Begin_nil(a:Option Addr)(c G:Nat)(w0 w:World)(hs0:Since w0 w)(hG:w0.heap.size≤G)(hM:Mk0 w G nilV nilV nilV nilV) :
  Calls Tryz.prog 64 #[.pointer (some ⟨G,0,none⟩),.slice a 0 c] w fun e w' => e=.returned (.tuple #[])∧Since w0 w' ∧ ∃ g,Mk0 w' G nilV nilV nilV (.slice (some ⟨g,0,none⟩) 0 0):=by
 obtain⟨i2,hi2,hy0,hy1,hy3⟩:=info_parts infoIs
 have HI2:=Lib.hid (And.intro hi2 (And.intro hy0 (And.intro hy1 hy3)))
 clear hi2 hy0 hy1 hy3
 have hGw:G<w.heap.size:=Blk.lt hM
 go_enter Tryz.func64,Tryz.ntmps64
 go_upto_region 2 with fail
 obtain⟨Gb,HGb⟩:∃ Gb,Gb=w.heap.size:=⟨_,rfl⟩
 rw[← HGb]
 refine atW (fun w' => Hid (Since w0 w')∧Hid (Blk w' Gb 91 #[.pointer (some ⟨G,0,none⟩)])∧Hid (Mk0 w' G nilV nilV nilV nilV)) ⟨hs0.alloc _,Blk.new' HGb,Blk.alloc hM _⟩ ?_
 have hGb:G<Gb:=by omega
 clear hs0 hM HGb hGw
 rintro w1 ⟨HS1,HB1,HM1⟩
 go_loopw [16] (fun v wr=>v=.int .i64 0∧Hid (Since w0 wr)∧Hid (Blk wr Gb 91 #[.pointer (some ⟨G,0,none⟩)])∧Hid (Mk0 wr G nilV nilV nilV nilV)) (fun _ _=>0)
 case atStart=>exact⟨by go_num,HS1,HB1,HM1⟩
 case round =>
  clear HS1 HB1 HM1
  obtain⟨rfl,HS,HB,HM⟩:=hrel
  obtain⟨w2,rfl⟩:∃ w2,w2=wr:=⟨_,rfl⟩
  have b0:w2.cell? ⟨Gb,0,none⟩=some (.pointer (some ⟨G,0,none⟩)):=HB.out.cell 0
  have m0:w2.cell? ⟨G,0,none⟩=some (.slice none 0 0):=Blk.cell HM.out 0
  have f0:=Blk.frozen HM.out 0
  have HSP:=Lib.hid (fun fv w' => pts_none none 0 fv w')
  go_upto_region 7 with(go_at_call 86;refine(HSP.out _ _).mono ?_;rintro e w2' ⟨rfl,rfl⟩)
  clear HSP
  have KF:=Lib.hid (fun w' (k:Since w2' w')=>(show w'.cell? ⟨Gb,0,none⟩=some (.pointer (some ⟨G,0,none⟩))∧w'.cell? ⟨G,0,none⟩=some (.slice none 0 0) from⟨keepC k _ _ b0,keepC k _ _ m0⟩))
  clear b0 m0
  apply region_facts 10 (fun w' => Since w2' w')
  case hm=>kernel_rfl
  case hB=>kernel_rfl
  case hS=>exact(Since.rfl_ w2').drew
  case h =>
  simp only[List.take_succ_cons,List.take_zero,List.drop_succ_cons,List.drop_zero]
  iterate 6 (apply wpO_det;(case hw=>rfl);(case h=>intro hFm wx hS_ hF_ K hK;go_big_quiet_op;first | exact hK _ rfl | (apply Exists.intro;refine⟨fun _=>?_,?_⟩;(focus (first | (intro hC;have hC:=KF.out _ hC.out.1;(try simp only[hC,Result.andThen]);first | exact⟨True.intro,rfl⟩ | exact⟨rfl,rfl⟩ | rfl)));exact hK _ rfl));(case' k=>simp only[Act.put,List.setIfInBounds_toArray,List.set_cons_succ,List.set_cons_zero,List.cons_append,List.nil_append]))
  (apply wpO_det;(case hw=>rfl);(case h=>intro hFm wx hS_ hF_ K hK;go_big_quiet_op;first | exact hK _ rfl | (apply Exists.intro;refine⟨fun _=>?_,?_⟩;(focus (first | (intro hC;go_at_call 87;refine(compact_none _).mono ?_;rintro e w' ⟨rfl,rfl⟩;exact⟨rfl,hC⟩)));exact hK _ rfl));(case' k=>simp only[Act.put,List.setIfInBounds_toArray,List.set_cons_succ,List.set_cons_zero,List.cons_append,List.nil_append]))
  iterate 3 (apply wpO_det;(case hw=>rfl);(case h=>intro hFm wx hS_ hF_ K hK;go_big_quiet_op;first | exact hK _ rfl | (apply Exists.intro;refine⟨fun _=>?_,?_⟩;(focus (first | (intro hC;have hC:=KF.out _ hC.out.1;(try simp only[hC,Result.andThen]);first | exact⟨True.intro,rfl⟩ | exact⟨rfl,rfl⟩ | rfl)));exact hK _ rfl));(case' k=>simp only[Act.put,List.setIfInBounds_toArray,List.set_cons_succ,List.set_cons_zero,List.cons_append,List.nil_append]))
  refine wpO_nil ?_
  intro w3 hS hF hB
  (try simp[allF] at hF)
  (try simp[List.pairwise_cons] at hB)
  clear hF hB KF
  have HS3:=HS.out.trans hS
  have HB3:=hS.blk HB.out
  have HM3:Mk0 w3 G nilV nilV nilV nilV:=hS.blk HM.out
  have m0:w3.cell? ⟨G,0,none⟩=some (.slice none 0 0):=Blk.cell HM3 0
  have f0:=Blk.frozen HM3 0
  have HW3:Hid (Since w0 (w3.setCell ⟨G,0,none⟩ nilV))∧Hid (Blk (w3.setCell ⟨G,0,none⟩ nilV) Gb 91 #[.pointer (some ⟨G,0,none⟩)])∧Hid (Mk0 (w3.setCell ⟨G,0,none⟩ nilV) G nilV nilV nilV nilV) :=
   ⟨HS3.setCell hG nilV,HB3.far (by dsimp only;omega) nilV,Blk.set_ HM3 0 nilV⟩
  clear HS HB HM hS HS3 HB3 HM3
  go_upto_region 8 with fail
  refine atW (fun w' => Hid (Since w0 w')∧Hid (Blk w' Gb 91 #[.pointer (some ⟨G,0,none⟩)])∧Hid (Mk0 w' G nilV nilV nilV nilV)) HW3 ?_
  clear HW3 m0 f0
  rintro w4 ⟨HS4,HB4,HM4⟩
  have hmm := @run_makeMap Tryz.prog
  go_upto_region 9 with fail
  clear hmm
  refine atW (fun w' => Hid (Since w0 w')∧Hid (Blk w' Gb 91 #[.pointer (some ⟨G,0,none⟩)])∧Hid (Mk0 w' G nilV nilV nilV nilV)) ⟨HS4.out.alloc _,HB4.out.alloc _,Blk.alloc HM4.out _⟩ ?_
  clear HS4 HB4 HM4
  rintro w5 ⟨HS5,HB5,HM5⟩
  have b0:w5.cell? ⟨Gb,0,none⟩=some (.pointer (some ⟨G,0,none⟩)):=HB5.out.cell 0
  have m0:w5.cell? ⟨G,0,none⟩=some (.slice none 0 0):=Blk.cell HM5.out 0
  go_wp2_with fail
  clear b0 m0
  go_loopw [59] (fun v wr=>v=.int .i64 0∧Hid (Since w0 wr)∧Hid (Blk wr Gb 91 #[.pointer (some ⟨G,0,none⟩)])∧Hid (Mk0 wr G nilV nilV nilV nilV)) (fun _ _=>0)
  case atStart=>exact⟨by go_num,HS5,HB5,HM5⟩
  case round =>
   clear HS5 HB5 HM5
   obtain⟨rfl,HS,HB,HM⟩:=hrel
   obtain⟨w6,rfl⟩:∃ w6,w6=wr:=⟨_,rfl⟩
   go_upto_region 14 with fail
   letI RG:RegG:=sinceRG
   have KF:=Lib.hid (fun w' (h:SinceG w6 w')=>(show w'.cell? ⟨Gb,0,none⟩=some (.pointer (some ⟨G,0,none⟩))∧w'.cell? ⟨G,0,none⟩=some (.slice none 0 0) from⟨keepC h _ _ (HB.out.cell 0),keepC h _ _ (Blk.cell HM.out 0)⟩))
   apply region_factsG 8 (fun w' => SinceG w6 w')
   case hm=>kernel_rfl
   case hB=>kernel_rfl
   case hS=>exact(SinceG.rfl_ w6).drew
   case hmono=>exact(fun _ _ h k=>h.trans k)
   case hTb=>exact(fun g hg=>Nat.zero_le _)
   case h =>
   simp only[List.take_succ_cons,List.take_zero,List.drop_succ_cons,List.drop_zero]
   iterate 7 (apply wpO_detG;(case hw=>rfl);(case h=>intro hFm wx hS_ hF_ K hK;go_big_quiet_op;first | exact hK _ rfl | (apply Exists.intro;refine⟨fun _=>?_,?_⟩;(focus (first | (intro hC;have hC:=KF.out _ hC.out.1;(try simp only[hC,Result.andThen]);first | exact⟨True.intro,rfl⟩ | exact⟨rfl,rfl⟩ | rfl)));exact hK _ rfl));(case' k=>simp only[Act.put,List.setIfInBounds_toArray,List.set_cons_succ,List.set_cons_zero,List.cons_append,List.nil_append]))
   apply wpO_anyG (R:=(MadeR w6.heap.size 22 1 0 (madeCells (Value.slice none 0 0).cells (0*1)).toList))
   case hR=>exact(fun v' w' w'' h k=>by obtain⟨g,e,ho⟩:=h;exact⟨g,e,own_since k ho⟩)
   case hw=>rfl
   case h =>
    intro wx hS_ hF_
    obtain⟨w',h1,h2,h3⟩:=run_make_full (P:=Tryz.prog) wx w6.heap.size 92 22 i2 _ 1 Tryz.underlying92 HI2.out.1 HI2.out.2.1 HI2.out.2.2.1 .i64 .i64 0 (by rw[HI2.out.2.2.2];omega) (by unfold maxLen;omega) (SinceG.size hS_)
    have h1:(Instr.makeSlice 92 (.int .i64 0) (.int .i64 0)).run Tryz.prog wx=.ok (.slice (some ⟨wx.heap.size,0,none⟩) 0 0) w' := h1
    exact runVG_make _ _ _ rfl rfl rfl ⟨w',h1,⟨_,rfl,h2⟩,⟨h3.os,h3.tape,h3.output,h3.size,fun i hi=>h3.block i hi (by simp)⟩⟩
   case k =>
   intro v0
   simp only[Act.put,List.setIfInBounds_toArray,List.set_cons_succ,List.set_cons_zero,List.cons_append,List.nil_append]
   refine wpO_nilG ?_
   intro w7 hS hF hB
   (try simp[allF] at hF)
   (try simp[List.pairwise_cons] at hB)
   obtain⟨gO,rfl,ho⟩:=hF
   replace hS:Since w6 w7:=hS
   have HM7:Mk0 w7 G nilV nilV nilV nilV:=hS.blk HM.out
   have HMo:w7.cell? ⟨G,7,none⟩=some (.slice none 0 0):=Blk.cell HM7 7
   have HMf:=Blk.frozen HM7 7
   have HW7:Hid (Since w0 (w7.setCell ⟨G,7,none⟩ (.slice (some ⟨gO,0,none⟩) 0 0)))∧Hid (Blk (w7.setCell ⟨G,7,none⟩ (.slice (some ⟨gO,0,none⟩) 0 0)) Gb 91 #[.pointer (some ⟨G,0,none⟩)])∧Hid (Mk0 (w7.setCell ⟨G,7,none⟩ (.slice (some ⟨gO,0,none⟩) 0 0)) G nilV nilV nilV (.slice (some ⟨gO,0,none⟩) 0 0)) :=
    ⟨(HS.out.trans hS).setCell hG _,(hS.blk HB.out).far (by dsimp only;omega) _,Blk.set_ HM7 7 _⟩
   clear ho hS hB KF RG HS HB HM HM7
   go_upto_region 15 with fail
   refine atW (fun w' => Hid (Since w0 w')∧Hid (Blk w' Gb 91 #[.pointer (some ⟨G,0,none⟩)])∧Hid (Mk0 w' G nilV nilV nilV (.slice (some ⟨gO,0,none⟩) 0 0))) HW7 ?_
   clear HW7 HMo HMf
   rintro w8 ⟨HS8,HB8,HM8⟩
   go_upto_region 16 with fail
   go_loopw [80] (fun v wr=>v=.int .i64 0∧Hid (Since w0 wr)∧Hid (Blk wr Gb 91 #[.pointer (some ⟨G,0,none⟩)])∧Hid (Mk0 wr G nilV nilV nilV (.slice (some ⟨gO,0,none⟩) 0 0))) (fun _ _=>0)
   case atStart=>exact⟨by go_num,HS8,HB8,HM8⟩
   case round =>
    clear HS8 HB8 HM8
    obtain⟨rfl,HS,HB,HM⟩:=hrel
    obtain⟨w9,rfl⟩:∃ w9,w9=wr:=⟨_,rfl⟩
    have b0:w9.cell? ⟨Gb,0,none⟩=some (.pointer (some ⟨G,0,none⟩)):=HB.out.cell 0
    have m7:w9.cell? ⟨G,7,none⟩=some (.slice (some ⟨gO,0,none⟩) 0 0):=Blk.cell HM.out 7
    go_wp2_with fail
    clear b0 m7
    go_loopw [137] (fun v wr=>v=.int .i64 0∧Hid (Since w0 wr)∧Hid (Blk wr Gb 91 #[.pointer (some ⟨G,0,none⟩)])∧Hid (Mk0 wr G nilV nilV nilV (.slice (some ⟨gO,0,none⟩) 0 0))) (fun _ _=>0)
    case atStart=>exact⟨by go_num,HS,HB,HM⟩
    case round =>
     clear HS HB HM
     obtain⟨rfl,HS,HB,HM⟩:=hrel
     go_wp2_with fail
     go_end0
     exact⟨rfl,HS.out,gO,HM.out⟩
set_option maxRecDepth 100000 in
set_option maxHeartbeats 4000000 in
theorem Link_nil(G gO:Nat)(w0 w:World)(hs0:Since w0 w)(hG:w0.heap.size≤G)(hM:Mk0 w G nilV nilV nilV (.slice (some ⟨gO,0,none⟩) 0 0)) :
  Calls Tryz.prog 65 #[.pointer (some ⟨G,0,none⟩)] w fun e w' => e=.returned (.tuple #[])∧Since w0 w' ∧ ∃ gC,Mk0 w' G nilV (.slice (some ⟨gC,0,none⟩) 0 0) nilV (.slice (some ⟨gO,0,none⟩) 0 0):=by
 have HS0:=Lib.hid hs0
 have HM0:=Lib.hid hM
 have c1:w.cell? ⟨G,1,none⟩=some (.slice none 0 0):=Blk.cell hM 1
 clear hs0 hM
 go_enter Tryz.func65,Tryz.ntmps65
 go_wp2_with fail
 clear c1
 go_loopw [16] (fun v wr=>v=.int .i64 0∧Hid (Since w0 wr)∧Hid (Mk0 wr G nilV nilV nilV (.slice (some ⟨gO,0,none⟩) 0 0))) (fun _ _=>0)
 case atStart=>exact⟨by go_num,HS0,HM0⟩
 case round =>
  clear HS0 HM0
  obtain⟨rfl,HS,HM⟩:=hrel
  obtain⟨w1,rfl⟩:∃ w1,w1=wr:=⟨_,rfl⟩
  have c1:w1.cell? ⟨G,1,none⟩=some (.slice none 0 0):=Blk.cell HM.out 1
  have c11:=keepC ((Since.rfl_ w1).alloc (.cells #[.int .i64 (-1)] 3)) _ _ c1
  have HRP:Hid (∀ w',Blk w' w1.heap.size 3 #[.int .i64 (-1)]→Calls Tryz.prog 93 #[.slice (some ⟨w1.heap.size,0,none⟩) 1 1,.int .i64 0] w' fun e w'' => ∃ g',e=.returned (.slice (some ⟨g',0,none⟩) 0 0)∧Since w' w''):=fun w' hb=>repeat_none hb
  have HBL:Hid (Blk (w1.alloc (.cells #[.int .i64 (-1)] 3)) w1.heap.size 3 #[.int .i64 (-1)]):=Blk.new w1 _ _
  have HM1:Hid (Mk0 (w1.alloc (.cells #[.int .i64 (-1)] 3)) G nilV nilV nilV (.slice (some ⟨gO,0,none⟩) 0 0)):=Blk.alloc HM.out _
  have HS1:Hid (Since w0 (w1.alloc (.cells #[.int .i64 (-1)] 3))):=HS.out.alloc _
  clear HS HM c1
  go_upto_region 8 with(go_at_call 93;refine(HRP.out _ HBL.out).mono ?_;rintro e w8 ⟨gC,rfl,hs8⟩;have HW8:=Lib.hid hs8;have hm8:=hs8.blk HM1.out;have HM8:=Lib.hid hm8;have c3:=hm8.cell 3;have f3:=hm8.frozen 3;simp only[List.getElem?_toArray,List.getElem?_cons_zero,List.getElem?_cons_succ] at c3;clear hs8 hm8 c11)
  have HW9:Hid (Since w0 (w8.setCell ⟨G,3,none⟩ (.slice (some ⟨gC,0,none⟩) 0 0)))∧Hid (Mk0 (w8.setCell ⟨G,3,none⟩ (.slice (some ⟨gC,0,none⟩) 0 0)) G nilV (.slice (some ⟨gC,0,none⟩) 0 0) nilV (.slice (some ⟨gO,0,none⟩) 0 0)):=⟨(HS1.out.trans HW8.out).setCell hG _,Blk.set_ HM8.out 3 _⟩
  refine atW (fun w' => Hid (Since w0 w')∧Hid (Mk0 w' G nilV (.slice (some ⟨gC,0,none⟩) 0 0) nilV (.slice (some ⟨gO,0,none⟩) 0 0))) HW9 ?_
  clear HW9 HW8 HM8 HS1 HM1 HRP HBL c3 f3
  rintro w9 ⟨HS9,HM9⟩
  have c1:w9.cell? ⟨G,1,none⟩=some (.slice none 0 0):=Blk.cell HM9.out 1
  go_wp2_with fail
  clear c1
  go_loopw [69] (fun v wr=>v=.int .i64 0∧Hid (Since w0 wr)∧Hid (Mk0 wr G nilV (.slice (some ⟨gC,0,none⟩) 0 0) nilV (.slice (some ⟨gO,0,none⟩) 0 0))) (fun _ _=>0)
  case atStart=>exact⟨by go_num,HS9,HM9⟩
  case round =>
   clear HS9 HM9
   obtain⟨rfl,HS,HM⟩:=hrel
   go_wp2_with fail
   go_end0
   exact⟨rfl,HS.out,gC,HM.out⟩
set_option maxRecDepth 100000 in
set_option maxHeartbeats 4000000 in
theorem Parts_nil(G gO gC:Nat)(w0 w:World)(hs0:Since w0 w)(hG:w0.heap.size≤G)(hM:Mk0 w G nilV (.slice (some ⟨gC,0,none⟩) 0 0) nilV (.slice (some ⟨gO,0,none⟩) 0 0)) :
  Calls Tryz.prog 66 #[.pointer (some ⟨G,0,none⟩)] w fun e w' => e=.returned (.tuple #[])∧Since w0 w' ∧ ∃ gA,Mk0 w' G nilV (.slice (some ⟨gC,0,none⟩) 0 0) (.slice (some ⟨gA,0,none⟩) 0 0) (.slice (some ⟨gO,0,none⟩) 0 0):=by
 have c0:w.cell? ⟨G,0,none⟩=some (.slice none 0 0):=Blk.cell hM 0
 have c01:=keepC ((Since.rfl_ w).alloc (.cells #[.int .i64 (-1)] 3)) _ _ c0
 have HRP:Hid (∀ w',Blk w' w.heap.size 3 #[.int .i64 (-1)]→Calls Tryz.prog 93 #[.slice (some ⟨w.heap.size,0,none⟩) 1 1,.int .i64 0] w' fun e w'' => ∃ g',e=.returned (.slice (some ⟨g',0,none⟩) 0 0)∧Since w' w''):=fun w' hb=>repeat_none hb
 have HBL:Hid (Blk (w.alloc (.cells #[.int .i64 (-1)] 3)) w.heap.size 3 #[.int .i64 (-1)]):=Blk.new w _ _
 have HM1:Hid (Mk0 (w.alloc (.cells #[.int .i64 (-1)] 3)) G nilV (.slice (some ⟨gC,0,none⟩) 0 0) nilV (.slice (some ⟨gO,0,none⟩) 0 0)):=Blk.alloc hM _
 have HS1:Hid (Since w0 (w.alloc (.cells #[.int .i64 (-1)] 3))):=hs0.alloc _
 clear hs0 hM c0
 go_enter Tryz.func66,Tryz.ntmps66
 go_upto_region 1 with(go_at_call 93;refine(HRP.out _ HBL.out).mono ?_;rintro e w8 ⟨gA,rfl,hs8⟩;have HW8:=Lib.hid hs8;have hm8:=hs8.blk HM1.out;have HM8:=Lib.hid hm8;have c6:=hm8.cell 6;have f6:=hm8.frozen 6;simp only[List.getElem?_toArray,List.getElem?_cons_zero,List.getElem?_cons_succ] at c6;clear hs8 hm8 c01)
 have HW9:Hid (Since w0 (w8.setCell ⟨G,6,none⟩ (.slice (some ⟨gA,0,none⟩) 0 0)))∧Hid (Mk0 (w8.setCell ⟨G,6,none⟩ (.slice (some ⟨gA,0,none⟩) 0 0)) G nilV (.slice (some ⟨gC,0,none⟩) 0 0) (.slice (some ⟨gA,0,none⟩) 0 0) (.slice (some ⟨gO,0,none⟩) 0 0)):=⟨(HS1.out.trans HW8.out).setCell hG _,Blk.set_ HM8.out 6 _⟩
 refine atW (fun w' => Hid (Since w0 w')∧Hid (Mk0 w' G nilV (.slice (some ⟨gC,0,none⟩) 0 0) (.slice (some ⟨gA,0,none⟩) 0 0) (.slice (some ⟨gO,0,none⟩) 0 0))) HW9 ?_
 clear HW9 HW8 HM8 HS1 HM1 HRP HBL c6 f6
 rintro w9 ⟨HS9,HM9⟩
 have c6:w9.cell? ⟨G,6,none⟩=some (.slice (some ⟨gA,0,none⟩) 0 0):=Blk.cell HM9.out 6
 go_wp2_with fail
 clear c6
 go_loopw [23] (fun v wr=>v=.int .i64 0∧Hid (Since w0 wr)∧Hid (Mk0 wr G nilV (.slice (some ⟨gC,0,none⟩) 0 0) (.slice (some ⟨gA,0,none⟩) 0 0) (.slice (some ⟨gO,0,none⟩) 0 0))) (fun _ _=>0)
 case atStart=>exact⟨by go_num,HS9,HM9⟩
 case round =>
  clear HS9 HM9
  obtain⟨rfl,HS,HM⟩:=hrel
  go_wp2_with fail
  go_end0
  exact⟨rfl,HS.out,gA,HM.out⟩
set_option maxRecDepth 100000 in
set_option maxHeartbeats 4000000 in
theorem Faces_nil(G gO gC gA:Nat)(w0 w:World)(hs0:Since w0 w)(hG:w0.heap.size≤G)(hM:Mk0 w G nilV (.slice (some ⟨gC,0,none⟩) 0 0) (.slice (some ⟨gA,0,none⟩) 0 0) (.slice (some ⟨gO,0,none⟩) 0 0)) :
  Calls Tryz.prog 67 #[.pointer (some ⟨G,0,none⟩)] w fun e w' => e=.returned (.tuple #[])∧Since w0 w' ∧ ∃ gF,Mk0 w' G (.slice (some ⟨gF,0,none⟩) 1 1) (.slice (some ⟨gC,0,none⟩) 0 0) (.slice (some ⟨gA,0,none⟩) 0 0) (.slice (some ⟨gO,0,none⟩) 0 0)∧G<gF∧Blk w' gF 3 #[.int .i64 (-1)]:=by
 obtain⟨i2,hi2,hy0,hy1,hy3⟩:=info_parts infoI
 have HI2:=Lib.hid (And.intro hi2 (And.intro hy0 (And.intro hy1 hy3)))
 have hGw:G<w.heap.size:=Blk.lt hM
 have HM0:=Lib.hid hM
 have HS0:=Lib.hid hs0
 have c2:(w.alloc (.cells #[.int .i64 (-1)] 3)).cell? ⟨G,2,none⟩=some (.slice none 0 0):=Blk.cell (Blk.alloc hM _) 2
 have f2:=Blk.frozen (Blk.alloc hM (.cells #[.int .i64 (-1)] 3)) 2
 have c2w:w.cell? ⟨G,2,none⟩=some (.slice none 0 0):=Blk.cell hM 2
 have f2w:=Blk.frozen hM 2
 clear hi2 hy0 hy1 hy3 hs0 hM
 obtain⟨gF,HGF⟩:∃ gF,Hid (gF=w.heap.size):=⟨_,rfl⟩
 go_enter Tryz.func67,Tryz.ntmps67
 go_upto_region 1 with fail
 rw[← HGF.out]
 have hGF:G<gF:=by rw[HGF.out];exact hGw
 refine atW (fun w' => Hid (Since w0 w')∧Hid (Mk0 w' G (.slice (some ⟨gF,0,none⟩) 1 1) (.slice (some ⟨gC,0,none⟩) 0 0) (.slice (some ⟨gA,0,none⟩) 0 0) (.slice (some ⟨gO,0,none⟩) 0 0))∧Hid (Blk w' gF 3 #[.int .i64 (-1)])) (by
  first
   | exact⟨(HS0.out.setCell (p:=⟨G,2,none⟩) hG _).alloc _,Blk.alloc (Blk.set_ HM0.out 2 _) _,Blk.new' (by simp[HGF.out])⟩
   | exact⟨(HS0.out.alloc _).setCell (p:=⟨G,2,none⟩) hG _,Blk.set_ (Blk.alloc HM0.out _) 2 _,(Blk.new' HGF.out).far (by dsimp only;omega) _⟩) ?_
 clear HM0 HS0 c2 f2 c2w f2w
 rintro w1 ⟨HS1,HM1,HF1⟩
 have c4:w1.cell? ⟨G,4,none⟩=some (.slice none 0 0):=Blk.cell HM1.out 4
 go_upto_region 2 with(at_make;refine wpList_make_full _ rfl _ _ 22 rfl w1.heap.size 3 i2 _ 1 Tryz.underlying22 HI2.out.1 HI2.out.2.1 HI2.out.2.2.1 .i64 .i64 _ _ 0 rfl rfl rfl rfl (by rw[HI2.out.2.2.2];omega) (by unfold maxLen;omega) (Nat.le_refl _) ?_;intro w2 hown hgrow)
 have hs12:Since w1 w2:=⟨hgrow.os,hgrow.tape,hgrow.output,hgrow.size,fun i hi=>hgrow.block i hi (by simp)⟩
 have HW2:Hid (Since w0 w2)∧Hid (Mk0 w2 G (.slice (some ⟨gF,0,none⟩) 1 1) (.slice (some ⟨gC,0,none⟩) 0 0) (.slice (some ⟨gA,0,none⟩) 0 0) (.slice (some ⟨gO,0,none⟩) 0 0))∧Hid (Blk w2 gF 3 #[.int .i64 (-1)]):=⟨HS1.out.trans hs12,hs12.blk HM1.out,hs12.blk HF1.out⟩
 obtain⟨HS2,HM2,HF2⟩:=HW2
 have c4:w2.cell? ⟨G,4,none⟩=some (.slice none 0 0):=Blk.cell HM2.out 4
 clear hs12 hgrow hown HS1 HM1 HF1
 go_wp2_with fail
 clear c4
 go_loopw [27] (fun v wr=>v=.int .i64 0∧Hid (Since w0 wr)∧Hid (Mk0 wr G (.slice (some ⟨gF,0,none⟩) 1 1) (.slice (some ⟨gC,0,none⟩) 0 0) (.slice (some ⟨gA,0,none⟩) 0 0) (.slice (some ⟨gO,0,none⟩) 0 0))∧Hid (Blk wr gF 3 #[.int .i64 (-1)])) (fun _ _=>0)
 case atStart=>exact⟨by go_num,HS2,HM2,HF2⟩
 case round =>
  clear HS2 HM2 HF2
  obtain⟨rfl,HS,HM,HF⟩:=hrel
  obtain⟨w3,rfl⟩:∃ w3,w3=wr:=⟨_,rfl⟩
  have c4:w3.cell? ⟨G,4,none⟩=some (.slice none 0 0):=Blk.cell HM.out 4
  go_wp2_with fail
  clear c4
  go_loopw [71] (fun v wr=>v=.int .i64 0∧Hid (Since w0 wr)∧Hid (Mk0 wr G (.slice (some ⟨gF,0,none⟩) 1 1) (.slice (some ⟨gC,0,none⟩) 0 0) (.slice (some ⟨gA,0,none⟩) 0 0) (.slice (some ⟨gO,0,none⟩) 0 0))∧Hid (Blk wr gF 3 #[.int .i64 (-1)])) (fun _ _=>0)
  case atStart=>exact⟨by go_num,HS,HM,HF⟩
  case round =>
   clear HS HM HF
   obtain⟨rfl,HS,HM,HF⟩:=hrel
   obtain⟨w4,rfl⟩:∃ w4,w4=wr:=⟨_,rfl⟩
   have c1:w4.cell? ⟨G,1,none⟩=some (.slice none 0 0):=Blk.cell HM.out 1
   go_wp2_with fail
   clear c1
   go_loopw [197] (fun v wr=>v=.int .i64 0∧Hid (Since w0 wr)∧Hid (Mk0 wr G (.slice (some ⟨gF,0,none⟩) 1 1) (.slice (some ⟨gC,0,none⟩) 0 0) (.slice (some ⟨gA,0,none⟩) 0 0) (.slice (some ⟨gO,0,none⟩) 0 0))∧Hid (Blk wr gF 3 #[.int .i64 (-1)])) (fun _ _=>0)
   case atStart=>exact⟨by go_num,HS,HM,HF⟩
   case round =>
    clear HS HM HF
    obtain⟨rfl,HS,HM,HF⟩:=hrel
    go_wp2_with fail
    go_end0
    exact⟨rfl,HS.out,gF,HM.out,hGF,HF.out⟩
theorem BldR.none:BldR [] [] [] [-1]:=by
 refine⟨[],[],[],[],(List.eq_nil_iff_forall_not_mem.2 fun x hx=>by have:=hullS_mem.1 hx;simp[ptsK] at this).symm,rfl,fun v hv=>absurd hv (Nat.not_lt_zero _),⟨rfl,rfl,Nat.le_refl _,fun g hg=>absurd hg (Nat.not_lt_zero _),fun g hg=>absurd hg (Nat.not_lt_zero _),fun g hg=>absurd hg (Nat.not_lt_zero _),fun c hc=>absurd hc (Nat.not_lt_zero _),fun c d _ hd=>absurd hd (Nat.not_lt_zero _),fun c hc=>absurd hc (Nat.not_lt_zero _),fun g hg=>absurd hg (Nat.not_lt_zero _)⟩,rfl,rfl⟩
theorem Build_nil(a:Option Addr)(c:Nat)(w:World)(hv:SegsN w (.slice a 0 c) []) :
  Calls Tryz.prog 40 #[.slice a 0 c] w fun e w' => ∃ (vP vH vF:Value) (P:List Pt2) (H:List Hf) (F:List Int),e=.returned (.tuple #[.agg #[vP,vH,vF],.int .i64 0])∧Since w w' ∧ MapS w' w.heap.size vP vH vF P H F∧BldR [] P H F :=
 BuildS_any a c [] w hv ⟨by simp,by unfold SrtG;simp,by simp,by simp⟩ (by simp) fun G w0 w' hs hG hM hv' => by
  refine(Begin_nil a c G w0 w' hs hG hM.blk).mono ?_
  rintro e1 w1 ⟨rfl,hs1,gO,hM1⟩
  refine⟨rfl,hs1,(Link_nil G gO w0 w1 hs1 hG hM1).mono ?_⟩
  rintro e2 w2 ⟨rfl,hs2,gC,hM2⟩
  refine⟨rfl,hs2,(Parts_nil G gO gC w0 w2 hs2 hG hM2).mono ?_⟩
  rintro e3 w3 ⟨rfl,hs3,gA,hM3⟩
  refine⟨rfl,hs3,(Faces_nil G gO gC gA w0 w3 hs3 hG hM3).mono ?_⟩
  rintro e4 w4 ⟨rfl,hs4,gF,hM4,hGF,hF4⟩
  refine⟨rfl,hs4,nilV,nilV,.slice (some ⟨gF,0,none⟩) 1 1,[],[],[-1],_,hM4,?_,BldR.none⟩
  have h0:Rws w4 (G+1) [⟨nilV,36,2,0,[]⟩,⟨nilV,33,4,0,[]⟩,⟨nilV,3,1,0,[]⟩] :=
   Rws.more (L:=[]) ⟨fun i r hi=>(by simp at hi),fun i j r s _ hi=>(by simp at hi)⟩ _ (fun r hr=>by
    simp only[List.mem_cons,List.not_mem_nil,or_false] at hr
    rcases hr with rfl | rfl | rfl <;> exact⟨rfl,rfl,rfl⟩)
  have ho:w4.ownsRow (G+1) 3 1 (.slice (some ⟨gF,0,none⟩) 1 1) 1 ([(-1:Int)].map iV):=⟨rfl,.inr ⟨gF,1,_,rfl,hGF,hF4,Nat.le_refl _,by unfold maxLen;omega,rfl,rfl⟩⟩
  refine⟨fun i r hi=>?_,fun i j r s hij hi hj=>?_⟩
  ·rcases i with _ | _ | _ | i
   ·exact h0.ok 0 r hi
   ·exact h0.ok 1 r hi
   ·injection hi with hi;rw[← hi];exact ho
   ·simp at hi
  ·rcases i with _ | _ | _ | i <;> rcases j with _ | _ | _ | j <;> first
    | (simp at hij;done)
    | (simp at hi;done)
    | (simp at hj;done)
    | (injection hi with hi;rw[← hi];intro g h1 _;cases h1;done)
    | (injection hj with hj;rw[← hj];intro g _ h1;cases h1;done)
theorem Build_any(v:Value)(E:List Sg)(w:World)(hv:SegsN w v E)(hE:RndOk E)(hl:E.length≤3000) :
  Calls Tryz.prog 40 #[v] w fun e w' => ∃ (vP vH vF:Value) (P:List Pt2) (H:List Hf) (F:List Int),e=.returned (.tuple #[.agg #[vP,vH,vF],.int .i64 0])∧Since w w' ∧ MapS w' w.heap.size vP vH vF P H F∧BldR E P H F:=by
 obtain⟨a,c,rfl⟩:=hv.slice
 rcases Nat.eq_zero_or_pos E.length with h | h
 ·have e:E=[]:=List.eq_nil_of_length_eq_zero h
  subst e
  exact Build_nil a c w hv
 ·exact Build_some a c E w hv hE hl h
end
end Go.Proofs.YtdnccjdlmepafaaGreat
