/-
  Plain: what arr builds is determined by the segments; The walk of arr's Build: the subdivision of segments; What reads as a subdivision; the walk of arr's Lines; slices.Equal over half-edges and over ints, of a list and itself; half.Same. Conditions: those that each lemma names.
-/
import Derived.Test.YtdnccjdlmepafaaGreatK22
import Derived.Test.YtdnccjdlmepafaaGreatK17
import Derived.Test.YtdnccjdlmepafaaGreatK26
import Derived.Test.YtdnccjdlmepafaaGreatK02
set_option linter.unusedSimpArgs false
set_option linter.unusedVariables false
set_option linter.constructorNameAsVariable false
namespace Go.Proofs.YtdnccjdlmepafaaGreat
section
open Go.RowKit Go.BigFrame
theorem sorted_uniq {α:Type} {le:α→α→Prop}:∀ {l m:List α},l.Perm m→(∀ x∈l,∀ y∈l,le x y→le y x→x=y)→l.Pairwise le→m.Pairwise le→l=m
 | [],m,h,_,_,_=>by rw [List.nil_perm.1 h]
 | a :: l,[],h,_,_,_=>by have:=h.length_eq;simp at this
 | a :: l,b :: m,h,ha,h1,h2=>by
  have hab:a=b:=by
   have m1:a∈b :: m:=h.mem_iff.1 (List.mem_cons_self ..)
   have m2:b∈a :: l:=h.mem_iff.2 (List.mem_cons_self ..)
   rcases List.mem_cons.1 m1 with e | m1
   ·exact e
   rcases List.mem_cons.1 m2 with e | m2
   ·exact e.symm
   exact ha a (List.mem_cons_self ..) b (List.mem_cons_of_mem _ m2) ((List.pairwise_cons.1 h1).1 b m2) ((List.pairwise_cons.1 h2).1 a m1)
  subst hab
  rw [sorted_uniq (List.Perm.cons_inv h) (fun x hx y hy=>ha x (List.mem_cons_of_mem _ hx) y (List.mem_cons_of_mem _ hy)) (List.pairwise_cons.1 h1).2 (List.pairwise_cons.1 h2).2]
theorem inc_uniq {l m:List Int} (h:∀ x,x∈l↔x∈m) (h1:l.Pairwise (· < ·)) (h2:m.Pairwise (· < ·)):l=m:=by
 have n1:l.Nodup:=h1.imp fun k e=>by omega
 have n2:m.Nodup:=h2.imp fun k e=>by omega
 refine sorted_uniq (le:=fun a b:Int=>a<b) ((List.perm_ext_iff_of_nodup n1 n2).2 h) (fun x _ y _ a b=>by omega) h1 h2
theorem dir_same {d e:Pt2} (hd:d≠(0,0)) (he:e≠(0,0)) (h1:¬ arV d e<0) (h2:¬ arV e d<0):d.1*e.2-d.2*e.1=0∧0<d.1*e.1+d.2*e.2:=by
 rw [ar_neg] at h1 h2
 obtain ⟨dx,dy⟩:=d
 obtain ⟨ex,ey⟩:=e
 have c1:=low_cases hd
 have c2:=low_cases he
 dsimp only at *
 have hl:lowV (dx,dy)=lowV (ex,ey):=by omega
 have hc:ex*dy=dx*ey:=by omega
 have hcomm:dy*ex=ex*dy:=Int.mul_comm _ _
 refine ⟨by omega,?_⟩
 have pos:∀ {x y z w:Int},z*y=x*w→(0<y∨(y=0∧0<x))→(0<w∨(w=0∧0<z))→0<x*z+y*w:=by
  intro x y z w h hy hw
  rcases hy with hy | ⟨hy,hx⟩
  ·rcases hw with hw | ⟨hw,hz⟩
   ·have e:w*(x*z+y*w)=y*(z*z+w*w):=by grind
    have p1:0≤z*z:=by
     rcases Int.le_total 0 z with k | k
     ·exact Int.mul_nonneg k k
     ·exact Int.mul_nonneg_of_nonpos_of_nonpos k k
    have p2:0<w*w:=Int.mul_pos hw hw
    have p3:0<y*(z*z+w*w):=Int.mul_pos hy (by omega)
    rw [← e] at p3
    rcases Int.lt_or_le 0 (x*z+y*w) with k | k
    ·exact k
    ·have:=Int.mul_nonneg (Int.le_of_lt hw) (show 0 ≤ -(x*z+y*w) by omega)
     rw [Int.mul_neg] at this
     omega
   ·rw [hw,Int.mul_zero] at h
    have:0<z*y:=Int.mul_pos hz hy
    omega
  ·rcases hw with hw | ⟨hw,hz⟩
   ·rw [hy,Int.mul_zero] at h
    have:0<x*w:=Int.mul_pos hx hw
    omega
   ·rw [hy,hw]
    have:0<x*z:=Int.mul_pos hx hz
    omega
 rcases c1 with ⟨k1,k2⟩ | ⟨k1,k2⟩ <;> rcases c2 with ⟨k3,k4⟩ | ⟨k3,k4⟩
 ·exact pos hc k2 k4
 ·omega
 ·omega
 ·have:=pos (x := -dx) (y := -dy) (z := -ex) (w := -ey) (by rw [Int.neg_mul_neg,Int.neg_mul_neg];exact hc) (by omega) (by omega)
  rw [Int.neg_mul_neg,Int.neg_mul_neg] at this
  exact this
theorem onV_mk {a b p:Pt2} (ha:okP a.1 a.2=true) (hb:okP b.1 b.2=true) (hp:okP p.1 p.2=true) (h1:crs a b p=0) (h2:(a.1-p.1)*(b.1-p.1)+(a.2-p.2)*(b.2-p.2)≤0):onV a b p=true:=by
 unfold onV
 rw [Bool.and_eq_true,decide_eq_true_eq,beq_iff_eq,turn_crs ha hb hp,(clamp_id ha).1,(clamp_id ha).2,(clamp_id hb).1,(clamp_id hb).2,(clamp_id hp).1,(clamp_id hp).2]
 refine ⟨?_,h2⟩
 rw [h1];rfl
theorem crs_swp (r s q:Pt2):crs s r q = - crs r s q:=by unfold crs crossV;grind
theorem onV_end {a b:Pt2} (ha:okP a.1 a.2=true) (hb:okP b.1 b.2=true):onV a b a=true∧onV a b b=true:=by
 refine ⟨onV_mk ha hb ha (crs_self a b).2.1 ?_,onV_mk ha hb hb (crs_self a b).1 ?_⟩
 ·rw [Int.sub_self,Int.sub_self,Int.zero_mul,Int.zero_mul];omega
 ·rw [Int.sub_self,Int.sub_self,Int.mul_zero,Int.mul_zero];omega
theorem meet_same {a b c d p x y:Pt2} (oa:okP a.1 a.2=true) (ob:okP b.1 b.2=true) (oc:okP c.1 c.2=true) (od:okP d.1 d.2=true) (hs:(a=p∧b=x)∨(a=x∧b=p)) (ht:(c=p∧d=y)∨(c=y∧d=p)) (hx:x≠p) (hy:y≠p)
  (hcr:(x.1-p.1)*(y.2-p.2)-(x.2-p.2)*(y.1-p.1)=0) (hdot:0<(x.1-p.1)*(y.1-p.1)+(x.2-p.2)*(y.2-p.2)):smeetV a b c d=2:=by
 have op:okP p.1 p.2=true:=by rcases hs with ⟨rfl,-⟩ | ⟨-,rfl⟩ <;> assumption
 have ox:okP x.1 x.2=true:=by rcases hs with ⟨-,rfl⟩ | ⟨rfl,-⟩ <;> assumption
 have oy:okP y.1 y.2=true:=by rcases ht with ⟨-,rfl⟩ | ⟨rfl,-⟩ <;> assumption
 have key:onV p x y=true∨onV p y x=true:=by
  obtain ⟨px,py⟩:=p
  obtain ⟨x1,x2⟩:=x
  obtain ⟨y1,y2⟩:=y
  dsimp only at *
  obtain ⟨u1,hu1⟩:∃ u1,u1=x1-px:=⟨_,rfl⟩
  obtain ⟨u2,hu2⟩:∃ u2,u2=x2-py:=⟨_,rfl⟩
  obtain ⟨v1,hv1⟩:∃ v1,v1=y1-px:=⟨_,rfl⟩
  obtain ⟨v2,hv2⟩:∃ v2,v2=y2-py:=⟨_,rfl⟩
  rw [← hu1,← hu2,← hv1,← hv2] at hcr hdot
  have id:(u1*v1+u2*v2)*(u1*v1+u2*v2)=(u1*u1+u2*u2)*(v1*v1+v2*v2):=by grind
  rcases Int.lt_or_le (u1*v1+u2*v2) (v1*v1+v2*v2) with k1 | k1
  ·right
   have k2:u1*u1+u2*u2≤u1*v1+u2*v2:=by
    rcases Int.lt_or_le (u1*v1+u2*v2) (u1*u1+u2*u2) with k2 | k2
    ·exfalso
     have s1:(u1*v1+u2*v2)*(u1*v1+u2*v2)<(u1*u1+u2*u2)*(u1*v1+u2*v2):=Int.mul_lt_mul_of_pos_right k2 hdot
     have s2:(u1*u1+u2*u2)*(u1*v1+u2*v2)<(u1*u1+u2*u2)*(v1*v1+v2*v2):=Int.mul_lt_mul_of_pos_left k1 (by omega)
     omega
    ·exact k2
   refine onV_mk op oy ox ?_ ?_
   ·show (y1-px)*(x2-py)-(y2-py)*(x1-px)=0
    rw [← hu1,← hu2,← hv1,← hv2]
    have:=Int.mul_comm u1 v2
    have:=Int.mul_comm u2 v1
    omega
   ·dsimp only
    have e1:px-x1 = -u1:=by omega
    have e2:py-x2 = -u2:=by omega
    have e3:y1-x1=v1-u1:=by omega
    have e4:y2-x2=v2-u2:=by omega
    rw [e1,e2,e3,e4]
    have : -u1*(v1-u1) + -u2*(v2-u2)=(u1*u1+u2*u2)-(u1*v1+u2*v2):=by grind
    omega
  ·left
   refine onV_mk op ox oy ?_ ?_
   ·show (x1-px)*(y2-py)-(x2-py)*(y1-px)=0
    rw [← hu1,← hu2,← hv1,← hv2]
    exact hcr
   ·dsimp only
    have e1:px-y1 = -v1:=by omega
    have e2:py-y2 = -v2:=by omega
    have e3:x1-y1=u1-v1:=by omega
    have e4:x2-y2=u2-v2:=by omega
    rw [e1,e2,e3,e4]
    have : -v1*(u1-v1) + -v2*(u2-v2)=(v1*v1+v2*v2)-(u1*v1+u2*v2):=by grind
    omega
 have sym:∀ {r s q:Pt2},okP r.1 r.2=true→okP s.1 s.2=true→okP q.1 q.2=true→onV r s q=true→onV s r q=true:=by
  intro r s q o1 o2 o3 h
  obtain ⟨h1,h2⟩:=onV_ok o1 o2 o3 h
  refine onV_mk o2 o1 o3 ?_ ?_
  ·rw [crs_swp,h1];rfl
  ·rw [Int.mul_comm (s.1-q.1),Int.mul_comm (s.2-q.2)];exact h2
 obtain ⟨e1,e2⟩:=onV_end (a:=p) (b:=x) op ox
 obtain ⟨e3,e4⟩:=onV_end (a:=p) (b:=y) op oy
 have mem:p∈sharedL a b c d∧(x∈sharedL a b c d∨y∈sharedL a b c d):=by
  obtain ⟨s1,s2,s3,s4⟩:=sharedL_of (a:=a) (b:=b) (c:=c) (d:=d)
  have hab:∀ q,okP q.1 q.2=true→onV p x q=true→onV a b q=true:=fun q oq h=>by
   rcases hs with ⟨rfl,rfl⟩ | ⟨rfl,rfl⟩
   ·exact h
   ·exact sym op ox oq h
  have hcd:∀ q,okP q.1 q.2=true→onV p y q=true→onV c d q=true:=fun q oq h=>by
   rcases ht with ⟨rfl,rfl⟩ | ⟨rfl,rfl⟩
   ·exact h
   ·exact sym op oy oq h
  refine ⟨?_,?_⟩
  ·have h:=hab p op e1
   rcases ht with ⟨rfl,rfl⟩ | ⟨rfl,rfl⟩
   ·exact s3 h
   ·exact s4 h
  ·rcases key with k | k
   ·right
    have h:=hab y oy k
    rcases ht with ⟨rfl,rfl⟩ | ⟨rfl,rfl⟩
    ·exact s4 h
    ·exact s3 h
   ·left
    have h:=hcd x ox k
    rcases hs with ⟨rfl,rfl⟩ | ⟨rfl,rfl⟩
    ·exact s2 h
    ·exact s1 h
 have two:2≤(sharedL a b c d).length:=by
  have hn:=sharedL_nodup a b c d
  have:∀ q,q≠p→q∈sharedL a b c d→2≤(sharedL a b c d).length:=fun q hq hm=>by
   have h2:[p,q].Nodup:=by simp [Ne.symm hq]
   have:=len_le_of_sub h2 (m:=sharedL a b c d) (fun z hz=>by
    simp only [List.mem_cons,List.not_mem_nil,or_false] at hz
    rcases hz with rfl | rfl
    ·exact mem.1
    ·exact hm)
   simpa using this
  rcases mem.2 with k | k
  ·exact this x hx k
  ·exact this y hy k
 unfold smeetV
 rw [if_neg,Int.min_eq_left (by omega)]
 rintro ⟨k,-⟩
 have z:∀ q,q=p→turnV a.1 a.2 b.1 b.2 q.1 q.2=0:=fun q hq=>by
  subst hq
  rw [turn_crs oa ob op]
  have:crs a b q=0:=by
   rcases hs with ⟨rfl,rfl⟩ | ⟨rfl,rfl⟩
   ·exact (crs_self _ _).2.1
   ·exact (crs_self _ _).1
  rw [this];rfl
 rcases ht with ⟨e,-⟩ | ⟨-,e⟩
 ·rw [z c e,Int.zero_mul] at k;omega
 ·rw [z d e,Int.mul_zero] at k;omega
theorem Cyc.total {N:Nat} {nx:Nat→Nat} {cr:Nat→Int} {C I T:List Int} (h:Cyc N nx cr N C I T) {g:Nat} (hg:g<N):∃ c:Nat,iAt C g=c∧c<I.length:=by
 have h1:=h.done g hg hg
 rcases h.rng g hg with k | ⟨-,k⟩
 ·omega
 ·exact ⟨(iAt C g).toNat,by omega,by omega⟩
theorem Cyc.it {N:Nat} {nx:Nat→Nat} {cr:Nat→Int} {h:Nat} {C I T:List Int} (hc:Cyc N nx cr h C I T) (hp:PermN N nx) {g:Nat} (hg:g<N):∀ i,iAt C (itN nx g i)=iAt C g
 | 0=>rfl
 | i+1=>by
  show iAt C (nx (itN nx g i))=_
  rw [hc.cls _ (it_lt hp hg i),hc.it hp hg i]
theorem Cyc.least {N:Nat} {nx:Nat→Nat} {cr:Nat→Int} {C I T:List Int} (hc:Cyc N nx cr N C I T) (hp:PermN N nx) {g:Nat} (hg:g<N):∃ r:Nat,iAt I (iAt C g).toNat=r∧r<N∧(∃ i,itN nx r i=g)∧∀ k,k<N→(∃ i,itN nx k i=g)→r≤k:=by
 obtain ⟨c,e,hcl⟩:=hc.total hg
 obtain ⟨r,e1,-,h2,h3,h4⟩:=hc.fst c hcl
 obtain ⟨i,hi⟩:=hc.one g hg (by omega)
 rw [e,Int.toNat_natCast,e1] at hi ⊢
 refine ⟨r,rfl,h2,⟨i,by simpa using hi⟩,fun k hk ⟨j,hj⟩=>h4 k hk ?_⟩
 rw [← hc.it hp hk j,hj,e]
theorem Cyc.uniq {N:Nat} {nx:Nat→Nat} {cr:Nat→Int} {C I T C' I' T' : List Int} (hp:PermN N nx) (h:Cyc N nx cr N C I T) (h' : Cyc N nx cr N C' I' T'):C=C' ∧ I=I' ∧ T=T' := by
 have rep:∀ g,g<N→iAt I (iAt C g).toNat=iAt I' (iAt C' g).toNat:=fun g hg=>by
  obtain ⟨r,e,h1,h2,h3⟩:=h.least hp hg
  obtain ⟨r',e',h1',h2',h3'⟩:=h'.least hp hg
  rw [e,e']
  have:=h3 r' h1' h2'
  have:=h3' r h1 h2
  omega
 have inc:∀ {C I T:List Int},Cyc N nx cr N C I T→I.Pairwise (· < ·):=fun {C I T} h=>by
  rw [List.pairwise_iff_getElem]
  intro i j hi hj hij
  have:=h.inc i j hij hj
  simpa [iAt,List.getD,hi,hj] using this
 have mem:∀ {C I T C' I' T' : List Int},Cyc N nx cr N C I T→Cyc N nx cr N C' I' T' → (∀ g,g<N→iAt I (iAt C g).toNat=iAt I' (iAt C' g).toNat)→∀ x,x∈I→x∈I' := fun {C I T C' I' T'} h h' hr x hx=>by
  obtain ⟨c,hc,rfl⟩:=List.mem_iff_getElem.1 hx
  obtain ⟨g,e,-,hg,eg,-⟩:=h.fst c hc
  have:=hr g hg
  rw [eg,Int.toNat_natCast] at this
  have e2:iAt I c=I[c]:=by simp [iAt,List.getD,hc]
  rw [← e2,this]
  obtain ⟨c',e',hc'⟩:=h'.total hg
  rw [e',Int.toNat_natCast]
  exact iAt_mem hc'
 have eI:I=I' := inc_uniq (fun x=>⟨mem h h' rep x,mem h' h (fun g hg=>(rep g hg).symm) x⟩) (inc h) (inc h')
 subst eI
 have eC:C=C' := by
  apply List.ext_getElem (by rw [h.lenC,h'.lenC])
  intro g h1 h2
  have hg:g<N:=by rw [← h.lenC];exact h1
  obtain ⟨c,e,hc⟩:=h.total hg
  obtain ⟨c',e',hc'⟩:=h'.total hg
  have:=rep g hg
  rw [e,e',Int.toNat_natCast,Int.toNat_natCast] at this
  have e2:iAt C g=C[g]:=by simp [iAt,List.getD,h1]
  have e3:iAt C' g=C'[g]:=by simp [iAt,List.getD,h2]
  rw [← e2,← e3,e,e']
  rcases Nat.lt_trichotomy c c' with k | k | k
  ·have:=h.inc c c' k hc';omega
  ·rw [k]
  ·have:=h.inc c' c k hc;omega
 subst eC
 refine ⟨rfl,rfl,?_⟩
 apply List.ext_getElem (by rw [h.lenT,h'.lenT])
 intro c h1 h2
 have e2:iAt T c=T[c]:=by simp [iAt,List.getD,h1]
 have e3:iAt T' c=T'[c]:=by simp [iAt,List.getD,h2]
 rw [← e2,← e3,h.sum c (by rw [← h.lenT];exact h1),h'.sum c (by rw [← h'.lenT];exact h2)]
section
variable {E : List Sg} {P : List Pt2} {n : Nat}
theorem sg_inj (hE:RndOk E) {i j:Nat} (hi:i<E.length) (hj:j<E.length) (e:sgAt E i=sgAt E j):i=j:=by
 have hs:=hE.srt
 unfold SrtG at hs
 rw [List.pairwise_iff_getElem] at hs
 have e1:sgAt E i=E[i]:=by simp [sgAt,List.getD,hi]
 have e2:sgAt E j=E[j]:=by simp [sgAt,List.getD,hj]
 rcases Nat.lt_trichotomy i j with k | k | k
 ·have:=hs i j hi hj k
  rw [← e1,← e2,e] at this
  rw [lxG_irr] at this;cases this
 ·exact k
 ·have:=hs j i hj hi k
  rw [← e1,← e2,e] at this
  rw [lxG_irr] at this;cases this
theorem dir_apart (hE:RndOk E) (hn:n=E.length) (hP:∀ h,h<2*n→endH E h∈P) {g h:Nat} (hg:g<2*n) (hh:h<2*n) (hv:frH E P g=frH E P h) (h1:¬ arV (dirI P (hfK E P (2*n)) g) (dirI P (hfK E P (2*n)) h)<0) (h2:¬ arV (dirI P (hfK E P (2*n)) h) (dirI P (hfK E P (2*n)) g)<0):g=h:=by
 apply Classical.byContradiction
 intro hne
 have hend:endH E g=endH E h:=by
  have e1:=(idP_at (hP g hg)).2
  have e2:=(idP_at (hP h hh)).2
  unfold frH at hv
  rw [← e1,← e2,hv]
 have htg:twN g<2*n:=twN_lt hg (by omega)
 have hth:twN h<2*n:=twN_lt hh (by omega)
 have hi:g/2<E.length:=by omega
 have hj:h/2<E.length:=by omega
 have hij:g/2≠h/2:=fun e=>by
  have hgt:h=twN g:=by unfold twN;split <;> omega
  have:=endH_tw hE hg hn
  rw [← hgt] at this
  exact this hend.symm
 have hsne:sgAt E (g/2)≠sgAt E (h/2):=fun e=>hij (sg_inj hE hi hj e)
 have hm:=(hE.meet _ (sgAt_mem hi) _ (sgAt_mem hj) hsne).1
 rw [dirI_fr hg hP,dirI_fr hh hP] at h1 h2
 have n1:=endH_tw hE hg hn
 have n2:=endH_tw hE hh hn
 have z1:(((endH E (twN g)).1-(endH E g).1,(endH E (twN g)).2-(endH E g).2):Pt2)≠(0,0):=fun e=>by
  injection e with e1 e2
  exact n1 (Prod.ext (by omega) (by omega))
 have z2:(((endH E (twN h)).1-(endH E h).1,(endH E (twN h)).2-(endH E h).2):Pt2)≠(0,0):=fun e=>by
  injection e with e1 e2
  exact n2 (Prod.ext (by omega) (by omega))
 obtain ⟨d1,d2⟩:=dir_same z1 z2 h1 h2
 dsimp only at d1 d2
 rw [← hend] at d1 d2 n2
 have ends:∀ k,((sgAt E (k/2)).1=endH E k∧(sgAt E (k/2)).2=endH E (twN k))∨((sgAt E (k/2)).1=endH E (twN k)∧(sgAt E (k/2)).2=endH E k):=fun k=>by
  unfold endH twN
  by_cases q:k % 2=0
  ·left
   have e1:(k+1)/2=k/2:=by omega
   have e2:¬ (k+1) % 2=0:=by omega
   simp only [if_pos q,if_neg e2,e1]
   exact ⟨trivial,trivial⟩
  ·right
   have e1:(k-1)/2=k/2:=by omega
   have e2:(k-1) % 2=0:=by omega
   simp only [if_neg q,if_pos e2,e1]
   exact ⟨trivial,trivial⟩
 have o1:=hE.ok _ (sgAt_mem hi)
 have o2:=hE.ok _ (sgAt_mem hj)
 have eh:=ends h
 rw [← hend] at eh
 have:=meet_same o1.1 o1.2.1 o2.1 o2.2.1 (ends g) eh n1 n2 d1 d2
 omega
theorem SrtO.uniq (hE:RndOk E) (hn:n=E.length) (hP:∀ h,h<2*n→endH E h∈P) {v:Nat} {l l' : List Int} (h:SrtO P (hfK E P (2*n)) (outK E P (2*n) v) l) (h' : SrtO P (hfK E P (2*n)) (outK E P (2*n) v) l'):l=l' := by
 refine sorted_uniq (h.1.trans h'.1.symm) (fun x hx y hy k1 k2=>?_) h.2 h'.2
 obtain ⟨a,rfl,ha,ea⟩:=outK_mem.1 (h.1.mem_iff.1 hx)
 obtain ⟨b,rfl,hb,eb⟩:=outK_mem.1 (h.1.mem_iff.1 hy)
 have:=dir_apart hE hn hP ha hb (by rw [ea,eb]) k2 k1
 rw [this]
end
end
section
open Go.RowKit Go.BigFrame
attribute [local go_sem ↓] eqPt neqPt
def teK (E:List Sg) (P:List Pt2) (x:Int):Nat:=frH E P (twN x.toNat)
def BldR (E:List Sg) (P:List Pt2) (H:List Hf) (F:List Int):Prop :=
 ∃ (O:List (Value×List Int)) (C I T:List Int),P=hullS (ptsK E E.length)∧O.length=P.length∧(∀ v,v<P.length→SrtO P (hfK E P (2*E.length)) (outK E P (2*E.length) v) (O.getD v (nilV,[])).2) ∧
  Cyc (2*E.length) (nxN (frH E P) (rowO O)) (crI P (frH E P)) (2*E.length) C I T ∧
  H=mkH (2*E.length) (frH E P) (fun g=>nxN (frH E P) (rowO O) g) (fun h=>iAt (fac2 P (frH E P) (nxN (frH E P) (rowO O)) I T (prtK (teK E P) (rowO O) P.length P.length) I.length) (iAt C h).toNat) ∧
  F=fac3 (fac2 P (frH E P) (nxN (frH E P) (rowO O)) I T (prtK (teK E P) (rowO O) P.length P.length) I.length) C (fac1 I T I.length).2 (2*E.length)
theorem end_pts {E:List Sg} {n:Nat} (hn:n=E.length):∀ h,h<2*n→endH E h∈hullS (ptsK E n):=fun h hh=>hullS_mem.2 (endH_mem hh hn)
theorem BldR.uniq {E:List Sg} (hE:RndOk E) (hl:E.length≤3000) {P P' : List Pt2} {H H' : List Hf} {F F' : List Int} (h:BldR E P H F) (h' : BldR E P' H' F'):P=P' ∧ H=H' ∧ F=F' := by
 obtain ⟨O,C,I,T,hP,hOl,hO,hC,hH,hF⟩:=h
 obtain ⟨O',C',I',T',hP',hOl',hO',hC',hH',hF'⟩:=h'
 have eP:P=P' := by rw [hP,hP']
 subst eP
 have eR:rowO O=rowO O' := by
  funext v
  unfold rowO
  rcases Nat.lt_or_ge v P.length with k | k
  ·exact SrtO.uniq hE rfl (by rw [hP];exact end_pts rfl) (hO v k) (hO' v k)
  ·have z:∀ O:List (Value×List Int),O.length≤v→O.getD v (nilV,[])=(nilV,[]):=fun O h=>by simp [List.getD,List.getElem?_eq_none h]
   rw [z O (by omega),z O' (by omega)]
 rw [← eR] at hC' hH' hF'
 rcases Nat.eq_zero_or_pos E.length with e0 | hpos
 ·have z:PermN (2*E.length) (nxN (frH E P) (rowO O)):=⟨fun g hg=>by omega,fun g h hg=>by omega⟩
  obtain ⟨rfl,rfl,rfl⟩:=Cyc.uniq z hC hC'
  exact ⟨rfl,by rw [hH,hH'],by rw [hF,hF']⟩
 ·have K:Net (2*E.length) P.length P (frH E P) (rowO O):=net_begin hE rfl hl hpos hP rfl hO
  obtain ⟨rfl,rfl,rfl⟩:=Cyc.uniq K.perm hC hC'
  exact ⟨rfl,by rw [hH,hH'],by rw [hF,hF']⟩
theorem Rws.mono {w:World} {B B' : Nat} {L:List Rw} (h:Rws w B L) (hB:B' ≤ B):Rws w B' L:=⟨fun i r hi=>(h.ok i r hi).mono hB,h.ap⟩
def MapS (w:World) (B:Nat) (vP vH vF:Value) (P:List Pt2) (H:List Hf) (F:List Int):Prop :=
 Rws w B [⟨vP,36,2,P.length,P.flatMap ptV⟩,⟨vH,33,4,H.length,H.flatMap hfV⟩,rI vF F]
theorem Mk.map {w:World} {G:Nat} {s:St} (h:Mk w G s):MapS w (G+1) s.vP s.vH s.vF s.P s.H s.F:=by
 have h2:=h.rows
 unfold St.rows at h2
 exact Rws.init (M:=(rI s.vC s.C) :: (rI s.vI s.I) :: (rI s.vT s.T) :: (rI s.vA s.A) :: _) h2
def BldS (w:World) (G:Nat) (E:List Sg):Prop:=∃ (vP vH vF:Value) (P:List Pt2) (H:List Hf) (F:List Int) (vs:List Value),Blk w G 94 (vP :: vH :: vF :: vs).toArray∧MapS w (G+1) vP vH vF P H F∧BldR E P H F
set_option maxRecDepth 100000 in
set_option maxHeartbeats 4000000 in
theorem Steps_any (a:Option Addr) (c G:Nat) (E:List Sg) (w0 w:World) (hs0:Since w0 w) (hG:w0.heap.size≤G) (hM:Mk w G St.nil) (hv:SegsN w0 (.slice a E.length c) E) (hE:RndOk E) (hl:E.length≤3000) (hpos:0<E.length) :
  Calls Tryz.prog 64 #[.pointer (some ⟨G,0,none⟩),.slice a E.length c] w fun e1 w1=>e1=.returned (.tuple #[])∧Since w0 w1 ∧
  Calls Tryz.prog 65 #[.pointer (some ⟨G,0,none⟩)] w1 fun e2 w2=>e2=.returned (.tuple #[])∧Since w0 w2 ∧
  Calls Tryz.prog 66 #[.pointer (some ⟨G,0,none⟩)] w2 fun e3 w3=>e3=.returned (.tuple #[])∧Since w0 w3 ∧
  Calls Tryz.prog 67 #[.pointer (some ⟨G,0,none⟩)] w3 fun e4 w4=>e4=.returned (.tuple #[])∧Since w0 w4 ∧
   BldS w4 G E:=by
 refine (Begin_any a c G E w0 w hs0 hG hM hv hE hl hpos).mono ?_
 rintro e1 w1 ⟨rfl,hs1,gP,cP,gO,gH,cH,V,n,P,O,hn,hP,hV,hM1,hOl,hO⟩
 refine ⟨rfl,hs1,?_⟩
 subst hn
 have K:Net (2*E.length) V P (frH E P) (rowO O):=net_begin hE rfl hl hpos hP hV hO
 have hM1' : Mk w1 G (stL gP cP gH cH gO V P (mkH (2*E.length) (frH E P) (fun _=>0) (fun _=>0)) O nilV nilV nilV [] [] []):=hM1
 refine (Link_any G gP cP gO gH cH V (2*E.length) P (frH E P) O w0 w1 hs1 hG hM1' hOl K).mono ?_
 rintro e2 w2 ⟨rfl,hs2,gC,vI,vT,C,I,T,hM2,hC⟩
 refine ⟨rfl,hs2,?_⟩
 rw [mkH_congr (nx' := fun g=>((nxN (frH E P) (rowO O) g:Nat):Int)) (fc' := fun _=>0) (fun i hi=>(K.nx hi).1) (fun _ _=>rfl)] at hM2
 have hVp:0<V:=by
  have:=K.fr_lt 0 (by omega)
  omega
 have hT:∀ v,v<V→∀ x∈rowO O v,∃ h:Nat,x=h∧twN h<(mkH (2*E.length) (frH E P) (fun g=>((nxN (frH E P) (rowO O) g:Nat):Int)) (fun _=>0)).length∧(hAt (mkH (2*E.length) (frH E P) (fun g=>((nxN (frH E P) (rowO O) g:Nat):Int)) (fun _=>0)) (twN h)).1=(teK E P x:Int)∧teK E P x<V:=fun v hv x hx=>by
  obtain ⟨h,rfl,hh,-⟩:=(K.mem v hv x).1 hx
  have ht:=K.tw_lt hh
  refine ⟨h,rfl,by rw [mkH_len];exact ht,?_,?_⟩
  ·rw [mkH_at ht];unfold teK;rw [Int.toNat_natCast]
  ·unfold teK;rw [Int.toNat_natCast];exact K.fr_lt _ ht
 have hRl:∀ v,v<V→(rowO O v).length≤6000:=fun v hv=>by
  have:=len_le_of_sub (K.nd v hv) (m:=(List.range (2*E.length)).map (fun i:Nat=>(i:Int))) (fun x hx=>by
   obtain ⟨h,rfl,hh,-⟩:=(K.mem v hv x).1 hx
   exact List.mem_map.2 ⟨h,List.mem_range.2 hh,rfl⟩)
  simp at this
  omega
 refine (Parts_any G gP cP gO gH cH V P _ O _ vI vT C I T (teK E P) w0 w2 hs2 hG hM2 hOl K.len.symm hVp K.vle (by rw [mkH_len];have:=K.le;omega) hT hRl).mono ?_
 rintro e3 w3 ⟨rfl,hs3,gA,hM3⟩
 refine ⟨rfl,hs3,?_⟩
 have hIp:0<I.length:=by
  obtain ⟨c,-,hc⟩:=hC.total (g:=0) (by omega)
  omega
 obtain ⟨gI,cI,hvI⟩:=hM3.rows.some_ (i:=4) rfl (show 0<I.length from hIp)
 obtain ⟨gT,cT,hvT⟩:=hM3.rows.some_ (i:=5) rfl (show 0<T.length by rw [hC.lenT];exact hIp)
 have hvI2:vI=.slice (some ⟨gI,0,none⟩) I.length cI:=hvI
 have hvT2:vT=.slice (some ⟨gT,0,none⟩) T.length cT:=hvT
 rw [hC.lenT] at hvT2
 subst hvI2 hvT2
 have hWY:Way (2*E.length) V P (frH E P) (nxN (frH E P) (rowO O)):=⟨K.le,K.vle,K.len,K.perm,K.fr_lt,fun g hg=>K.tw_lt hg⟩
 have hRV:∀ v,v<V→∀ x∈rowO O v,teK E P x<V:=fun v hv x hx=>by obtain ⟨h,-,-,-,k⟩:=hT v hv x hx;exact k
 refine (Faces_any G gP cP gO gH cH gC gI cI gT cT gA (2*E.length) V I.length P (frH E P) (nxN (frH E P) (rowO O)) O C I T (prtK (teK E P) (rowO O) V V) w0 w3 hs3 hG hWY rfl hIp ?_ hC.lenT hC.lenC (prtK_len hRV V (Nat.le_refl _)) ?_ (fun g hg=>hC.total hg) hM3).mono ?_
 ·have:=hC.le;omega
 ·intro c hc
  obtain ⟨g,e,-,hg,-⟩:=hC.fst c hc
  exact ⟨g,e,hg⟩
 rintro e4 w4 ⟨rfl,hs4,vF,hM4⟩
 refine ⟨rfl,hs4,_,_,vF,P,_,_,_,hM4.blk,hM4.map,O,C,I,T,hP,by rw [hOl,hV],?_,hC,?_,?_⟩
 ·intro v hv
  exact hO v (by rw [hV];exact hv)
 ·rw [← K.len];rfl
 ·rw [← K.len];rfl
set_option maxRecDepth 100000 in
set_option maxHeartbeats 4000000 in
theorem BuildS_any (a:Option Addr) (c:Nat) (E:List Sg) (w:World) (hv:SegsN w (.slice a E.length c) E) (hE:RndOk E) (hl:E.length≤3000)
  (hst:∀ (G:Nat) (w0 w' : World),Since w0 w' → w0.heap.size≤G→Mk w' G St.nil→SegsN w0 (.slice a E.length c) E → 
   Calls Tryz.prog 64 #[.pointer (some ⟨G,0,none⟩),.slice a E.length c] w' fun e1 w1=>e1=.returned (.tuple #[])∧Since w0 w1 ∧
   Calls Tryz.prog 65 #[.pointer (some ⟨G,0,none⟩)] w1 fun e2 w2=>e2=.returned (.tuple #[])∧Since w0 w2 ∧
   Calls Tryz.prog 66 #[.pointer (some ⟨G,0,none⟩)] w2 fun e3 w3=>e3=.returned (.tuple #[])∧Since w0 w3 ∧
   Calls Tryz.prog 67 #[.pointer (some ⟨G,0,none⟩)] w3 fun e4 w4=>e4=.returned (.tuple #[])∧Since w0 w4∧BldS w4 G E) :
  Calls Tryz.prog 40 #[.slice a E.length c] w fun e w' => ∃ (vP vH vF:Value) (P:List Pt2) (H:List Hf) (F:List Int),e=.returned (.tuple #[.agg #[vP,vH,vF],.int .i64 0])∧Since w w' ∧ MapS w' w.heap.size vP vH vF P H F∧BldR E P H F:=by
 have HST:=Lib.hid hst
 have HV:=Lib.hid hv
 have HCK:=Lib.hid (fun w' (k:Since w w')=>ArrCheck_any (.slice a E.length c) E w' (hv.since k) hE hl)
 clear hst hv hE
 obtain ⟨n,HN⟩:∃ n,Hid (n=E.length):=⟨_,rfl⟩
 rw [← HN.out] at HST HV HCK ⊢
 obtain ⟨B,HB⟩:∃ B,Hid (B=w.heap.size):=⟨_,rfl⟩
 go_enter Tryz.func40,Tryz.ntmps40
 go_upto_region 1 with fail
 rw [← HB.out]
 refine atW (fun w' => Hid (Since w w' ∧ Blk w' B 26 #[nilV,nilV,nilV])) ⟨(Since.rfl_ w).alloc _,Blk.new' HB.out⟩ ?_
 rintro w1 HW1
 go_upto_region 4 with (go_at_call 63;refine (HCK.out _ HW1.out.1).mono ?_;rintro e w2 ⟨rfl,hs2⟩;have HS2:=Lib.hid hs2;clear hs2 HCK)
 have HW2:=Lib.hid (And.intro (HW1.out.1.trans HS2.out) (HS2.out.blk HW1.out.2))
 clear HS2 HW1
 obtain ⟨G,HG⟩:∃ G,Hid (G=w2.heap.size):=⟨_,rfl⟩
 go_upto_region 5 with fail
 rw [← HG.out]
 have hr0:Rws (w2.alloc (.cells #[nilV,nilV,nilV,nilV,nilV,nilV,nilV,nilV] 94)) (G+1) St.nil.rows :=
  Rws.more (L:=[]) ⟨fun i r hi=>(by simp at hi),fun i j r s _ hi=>(by simp at hi)⟩ St.nil.rows (fun r hr=>by
   simp only [St.rows,St.nil,rI,List.mem_cons,List.not_mem_nil,or_false,List.map_nil,List.append_nil,List.length_nil,List.flatMap_nil] at hr
   rcases hr with rfl | rfl | rfl | rfl | rfl | rfl | rfl | rfl <;> exact ⟨rfl,rfl,rfl⟩)
 have HC5:=Lib.hid (HST.out G w2 (w2.alloc (.cells #[nilV,nilV,nilV,nilV,nilV,nilV,nilV,nilV] 94)) ((Since.rfl_ w2).alloc _) (by rw [HG.out];exact Nat.le_refl _) ⟨Blk.new' HG.out,hr0⟩ (HV.out.since HW2.out.1))
 clear hr0 HST
 go_upto_region 6 with (go_at_call 64;refine HC5.out.mono ?_;rintro e w3 ⟨rfl,-,hc6⟩;have HC6:=Lib.hid hc6;clear hc6)
 go_upto_region 7 with (go_at_call 65;refine HC6.out.mono ?_;rintro e w4 ⟨rfl,-,hc7⟩;have HC7:=Lib.hid hc7;clear hc7)
 go_upto_region 8 with (go_at_call 66;refine HC7.out.mono ?_;rintro e w5 ⟨rfl,-,hc8⟩;have HC8:=Lib.hid hc8;clear hc8)
 go_upto_region 9 with (go_at_call 67;refine HC8.out.mono ?_;rintro e w6 ⟨rfl,hs6,vP,vH,vF,P,H,F,vs,hb,hm,hbl⟩;have HS6:=Lib.hid hs6;have HB6:=Lib.hid hb;have HM6:=Lib.hid hm;have HBL:=Lib.hid hbl;clear hs6 hb hm hbl)
 obtain ⟨aP,cP,hvP⟩:∃ a c,vP=.slice a P.length c:=Rws.slice HM6.out (i:=0) rfl
 obtain ⟨aH,cH,hvH⟩:∃ a c,vH=.slice a H.length c:=Rws.slice HM6.out (i:=1) rfl
 obtain ⟨aF,cF,hvF⟩:∃ a c,vF=.slice a F.length c:=Rws.slice HM6.out (i:=2) rfl
 subst hvP hvH hvF
 have c0:w6.cell? ⟨G,0,none⟩=some (.slice aP P.length cP):=HB6.out.cell 0
 have c1:w6.cell? ⟨G,1,none⟩=some (.slice aH H.length cH):=HB6.out.cell 1
 have c2:w6.cell? ⟨G,2,none⟩=some (.slice aF F.length cF):=HB6.out.cell 2
 have HBB:=Lib.hid (HS6.out.blk HW2.out.2)
 have b0:=HBB.out.cell 0
 have b1:=HBB.out.cell 1
 have b2:=HBB.out.cell 2
 have d0:=HBB.out.frozen 0
 have d1:=HBB.out.frozen 1
 have d2:=HBB.out.frozen 2
 simp only [List.getElem?_toArray,List.getElem?_cons_zero,List.getElem?_cons_succ] at b0 b1 b2
 have hBw:w.heap.size≤B:=by rw [HB.out];exact Nat.le_refl _
 have hBG:B<G:=by rw [HG.out];exact HW2.out.2.lt
 have HSF:=Lib.hid ((((HW2.out.1.trans HS6.out).setCell (p:=⟨B,0,none⟩) hBw (.slice aP P.length cP)).setCell (p:=⟨B,1,none⟩) hBw (.slice aH H.length cH)).setCell (p:=⟨B,2,none⟩) hBw (.slice aF F.length cF))
 have HMF:Hid (MapS (((w6.setCell ⟨B,0,none⟩ (.slice aP P.length cP)).setCell ⟨B,1,none⟩ (.slice aH H.length cH)).setCell ⟨B,2,none⟩ (.slice aF F.length cF)) w.heap.size (.slice aP P.length cP) (.slice aH H.length cH) (.slice aF F.length cF) P H F) :=
  Rws.mono (((Rws.low HM6.out (p:=⟨B,0,none⟩) (by dsimp only;omega) _).low (p:=⟨B,1,none⟩) (by dsimp only;omega) _).low (p:=⟨B,2,none⟩) (by dsimp only;omega) _) (by omega)
 clear HS6 HB6 HM6 HBB HW2 HC5 HC6 HC7 HC8 HV
 go_wp2_with fail
 refine bodyPost_ret (v:=.tuple #[.agg #[.slice aP P.length cP,.slice aH H.length cH,.slice aF F.length cF],.int .i64 0]) (by simp [results,Tryz.results40,go_sem,cSetS,cSetO,cellDrew,b0,b1,b2,d0,d1,d2]) rfl ⟨_,_,_,P,H,F,rfl,HSF.out,HMF.out,HBL.out⟩
theorem Build_some (a:Option Addr) (c:Nat) (E:List Sg) (w:World) (hv:SegsN w (.slice a E.length c) E) (hE:RndOk E) (hl:E.length≤3000) (hpos:0<E.length) :
  Calls Tryz.prog 40 #[.slice a E.length c] w fun e w' => ∃ (vP vH vF:Value) (P:List Pt2) (H:List Hf) (F:List Int),e=.returned (.tuple #[.agg #[vP,vH,vF],.int .i64 0])∧Since w w' ∧ MapS w' w.heap.size vP vH vF P H F∧BldR E P H F :=
 BuildS_any a c E w hv hE hl fun G w0 w' hs hG hM hv' => Steps_any a c G E w0 w' hs hG hM hv' hE hl hpos
end
section
open Go.RowKit Go.BigFrame
attribute [local go_sem ↓] eqPt neqPt
def HvsS (w:World) (v:Value) (l:List Hf):Prop :=
 ∃ a c,v=.slice a l.length c∧∀ i,i<l.length→∃ g o:Nat,a=some ⟨g,o,none⟩∧w.cell? ⟨g,o+i*4,none⟩=some (.int .i64 (hAt l i).1)∧w.cell? ⟨g,o+i*4+1,none⟩=some (.int .i64 (hAt l i).2.1)∧w.cell? ⟨g,o+i*4+2,none⟩=some (.int .i64 (hAt l i).2.2.1)∧w.cell? ⟨g,o+i*4+3,none⟩=some (.int .i64 (hAt l i).2.2.2)
theorem HvsS.since {w w' : World} {v:Value} {l:List Hf} (h:HvsS w v l) (k:Since w w'):HvsS w' v l:=by
 obtain ⟨a,c,hv,h⟩:=h
 refine ⟨a,c,hv,fun i hi=>?_⟩
 obtain ⟨g,o,ha,h1,h2,h3,h4⟩:=h i hi
 exact ⟨g,o,ha,keepC k _ _ h1,keepC k _ _ h2,keepC k _ _ h3,keepC k _ _ h4⟩
def IntS (w:World) (v:Value) (l:List Int):Prop :=
 ∃ a c,v=.slice a l.length c∧∀ i,i<l.length→∃ g o:Nat,a=some ⟨g,o,none⟩∧w.cell? ⟨g,o+i,none⟩=some (.int .i64 (iAt l i))
theorem IntS.since {w w' : World} {v:Value} {l:List Int} (h:IntS w v l) (k:Since w w'):IntS w' v l:=by
 obtain ⟨a,c,hv,h⟩:=h
 refine ⟨a,c,hv,fun i hi=>?_⟩
 obtain ⟨g,o,ha,h1⟩:=h i hi
 exact ⟨g,o,ha,keepC k _ _ h1⟩
structure MapR (w:World) (vP vH vF:Value) (P:List Pt2) (H:List Hf) (F:List Int):Prop where
 p:PtsS w vP P
 h:HvsS w vH H
 f:IntS w vF F
theorem MapR.since {w w' : World} {vP vH vF:Value} {P:List Pt2} {H:List Hf} {F:List Int} (h:MapR w vP vH vF P H F) (k:Since w w'):MapR w' vP vH vF P H F:=⟨h.p.keep (keepC k),h.h.since k,h.f.since k⟩
theorem own_gc {w:World} {B:Nat} {t:TypeId} {k n:Nat} {v:Value} {xs:List Value} (h:w.ownsRow B t k v n xs) (hn:0<n):∃ g c,v=.slice (some ⟨g,0,none⟩) n c:=by
 obtain ⟨-,⟨-,h2⟩ | ⟨g',cap,cur,h1,-⟩⟩:=h
 ·omega
 ·exact ⟨g',cap,h1⟩
theorem own_ptsS {w:World} {B:Nat} {v:Value} {l:List Pt2} (h:w.ownsRow B 36 2 v l.length (l.flatMap ptV)):PtsS w v l:=by
 obtain ⟨a,c,e⟩:=own_slice h
 refine ⟨a,c,e,fun i hi=>?_⟩
 obtain ⟨g,c',e'⟩:=own_gc h (by omega)
 rw [e] at e'
 injection e' with e1 _ e3
 subst e1 e3
 rw [e] at h
 have:=rowP_cells h hi
 exact ⟨g,0,rfl,by rw [Nat.zero_add];exact this.1,by rw [Nat.zero_add];exact this.2⟩
theorem own_hvsS {w:World} {B:Nat} {v:Value} {l:List Hf} (h:w.ownsRow B 33 4 v l.length (l.flatMap hfV)):HvsS w v l:=by
 obtain ⟨a,c,e⟩:=own_slice h
 refine ⟨a,c,e,fun i hi=>?_⟩
 obtain ⟨g,c',e'⟩:=own_gc h (by omega)
 rw [e] at e'
 injection e' with e1 _ e3
 subst e1 e3
 rw [e] at h
 have:=rowH_cells h hi
 exact ⟨g,0,rfl,by rw [Nat.zero_add];exact this.1,by rw [Nat.zero_add];exact this.2.1,by rw [Nat.zero_add];exact this.2.2.1,by rw [Nat.zero_add];exact this.2.2.2⟩
theorem own_intS {w:World} {B:Nat} {v:Value} {l:List Int} (h:w.ownsRow B 3 1 v l.length (l.map iV)):IntS w v l:=by
 obtain ⟨a,c,e⟩:=own_slice h
 refine ⟨a,c,e,fun i hi=>?_⟩
 obtain ⟨g,c',e'⟩:=own_gc h (by omega)
 rw [e] at e'
 injection e' with e1 _ e3
 subst e1 e3
 rw [e] at h
 have:=rowI_cell h hi
 exact ⟨g,0,rfl,by rw [Nat.zero_add];exact this⟩
theorem MapS.read {w:World} {B:Nat} {vP vH vF:Value} {P:List Pt2} {H:List Hf} {F:List Int} (h:MapS w B vP vH vF P H F):MapR w vP vH vF P H F :=
 ⟨own_ptsS (h.ok 0 _ rfl),own_hvsS (h.ok 1 _ rfl),own_intS (h.ok 2 _ rfl)⟩
theorem MapS.since {w w' : World} {B:Nat} {vP vH vF:Value} {P:List Pt2} {H:List Hf} {F:List Int} (h:MapS w B vP vH vF P H F) (k:Since w w'):MapS w' B vP vH vF P H F:=Rws.since h k
def vtxB (P:List Pt2) (x:Int):Prop:=0≤x∧x<P.length
def linB (P:List Pt2) (H:List Hf) (i:Nat):Prop:=vtxB P (hAt H (2*i)).1∧vtxB P (hAt H (2*i+1)).1
def linV (P:List Pt2) (H:List Hf) (i:Nat):Sg:=(pAt P (hAt H (2*i)).1.toNat,pAt P (hAt H (2*i+1)).1.toNat)
def linK (P:List Pt2) (H:List Hf) (k:Nat):List Sg:=(List.range k).map (linV P H)
theorem linK_succ (P:List Pt2) (H:List Hf) (k:Nat):linK P H (k+1)=linK P H k++[linV P H k]:=by unfold linK;rw [List.range_succ,List.map_append];rfl
theorem linK_len (P:List Pt2) (H:List Hf) (k:Nat):(linK P H k).length=k:=by simp [linK]
def LinR (w w' : World) (P:List Pt2) (H:List Hf) (e:Ending):Prop :=
 ((∀ i,i<H.length/2→linB P H i)∧∃ x,e=.returned (.tuple #[x,.int .i64 0])∧w'.ownsRow w.heap.size 37 4 x (H.length/2) ((linK P H (H.length/2)).flatMap sgV)) ∨
 (¬ (∀ i,i<H.length/2→linB P H i)∧e=.returned (.tuple #[.slice none 0 0,.int .i64 1]))
set_option maxRecDepth 100000 in
set_option maxHeartbeats 4000000 in
theorem Lines_any (vP vH vF:Value) (P:List Pt2) (H:List Hf) (F:List Int) (w:World) (hm:MapR w vP vH vF P H F) (hH:H.length≤4398046510976) (hP:P.length≤1000000000000000) :
  Calls Tryz.prog 15 #[.agg #[vP,vH,vF]] w fun e w' => LinR w w' P H e∧Since w w' := by
 obtain ⟨i0,hi0,hz0,hz1,hz3⟩:=info_parts infoSg
 have HI:=Lib.hid (And.intro hi0 (And.intro hz0 (And.intro hz1 hz3)))
 obtain ⟨aP,cP,hvP,hpP⟩:=hm.p
 obtain ⟨aH,cH,hvH,hpH⟩:=hm.h
 obtain ⟨aF,cF,hvF,-⟩:=hm.f
 subst hvP hvH hvF
 have HPP:=Lib.hid hpP
 have HPH:=Lib.hid hpH
 clear hm hpP hpH hi0 hz0 hz1 hz3
 obtain ⟨nP,HNP⟩:∃ n,Hid (n=P.length):=⟨_,rfl⟩
 obtain ⟨nH,HNH⟩:∃ n,Hid (n=H.length):=⟨_,rfl⟩
 obtain ⟨nF,HNF⟩:∃ n,Hid (n=F.length):=⟨_,rfl⟩
 rw [← HNH.out] at hH
 rw [← HNP.out] at hP
 rw [← HNP.out,← HNH.out,← HNF.out]
 obtain ⟨B,HB⟩:∃ B,Hid (B=w.heap.size):=⟨_,rfl⟩
 go_enter Tryz.func15,Tryz.ntmps15
 go_upto_region 1 with fail
 rw [← HB.out]
 refine atW (fun w' => Hid (Since w w' ∧ Blk w' B 26 #[.slice aP nP cP,.slice aH nH cH,.slice aF nF cF])) ⟨(Since.rfl_ w).alloc _,Blk.new' HB.out⟩ ?_
 rintro w1 HW1
 go_wp2_with fail
 go_loopw [4,5] (fun v4 v5 wr=>∃ k:Nat,2*k≤nH∧v5=.int .i64 ((2*k:Nat):Int)∧Hid (Since w wr)∧Hid (Blk wr B 26 #[.slice aP nP cP,.slice aH nH cH,.slice aF nF cF])∧Hid (wr.ownsRow (B+1) 37 4 v4 k ((linK P H k).flatMap sgV))∧Hid (∀ i,i<k→linB P H i)) (fun _ v5 _=>nH-(intOf v5).toNat)
 case atStart=>exact ⟨0,by omega,by go_num,HW1.out.1,HW1.out.2,World.ownsRow_nil _ _ _ _,fun i hi=>absurd hi (Nat.not_lt_zero _)⟩
 case round =>
  clear HW1
  obtain ⟨k,hk,rfl,HS,HBM,HO,HG⟩:=hrel
  obtain ⟨w2,rfl⟩:∃ w2,w2=wr:=⟨_,rfl⟩
  have m0:w2.cell? ⟨B,0,none⟩=some (.slice aP nP cP):=HBM.out.cell 0
  have m1:w2.cell? ⟨B,1,none⟩=some (.slice aH nH cH):=HBM.out.cell 1
  obtain ⟨h,HHK⟩:∃ h:Nat,Hid (h=2*k):=⟨_,rfl⟩
  rw [← HHK.out]
  have hw1:wrap64 ((h:Int)+1)=(h:Int)+1:=wrap_id (by have:=HHK.out;omega)
  rcases Nat.lt_or_ge (h+1) nH with hlt | hge
  ·have hz:decide ((h:Int)+1<(nH:Int))=true:=by rw [decide_eq_true_eq];omega
   obtain ⟨g,o,rfl,e1,-⟩:=HPH.out h (by rw [← HNH.out];omega)
   obtain ⟨g',o',e',e2,-⟩:=HPH.out (h+1) (by rw [← HNH.out];omega)
   injection e' with e'
   injection e' with q1 q2
   subst q1 q2
   obtain ⟨x,hx⟩:∃ x,Hid (x=(hAt H h).1):=⟨_,rfl⟩
   obtain ⟨y,hy⟩:∃ y,Hid (y=(hAt H (h+1)).1):=⟨_,rfl⟩
   rw [← hx.out] at e1
   rw [← hy.out] at e2
   have e1:=keepC HS.out _ _ e1
   have e2:=keepC HS.out _ _ e2
   have KF:=Lib.hid (fun w' (k:Since w2 w')=>(show w'.cell? ⟨B,1,none⟩=some (.slice (some ⟨g,o,none⟩) nH cH)∧w'.cell? ⟨g,o+h*4,none⟩=some (.int .i64 x)∧w'.cell? ⟨g,o+(h+1)*4,none⟩=some (.int .i64 y) from ⟨keepC k _ _ m1,keepC k _ _ e1,keepC k _ _ e2⟩))
   have i1:(0:Int)≤(h:Int):=by omega
   have i2:(h:Int)<(nH:Int):=by omega
   have i3:(0:Int)≤(h:Int)+1:=by omega
   have i4:(h:Int)+1<(nH:Int):=by omega
   go_upto_region 5 with fail
   clear e1 e2 m0 m1
   apply region_facts 15 (fun w' => Since w2 w')
   case hm=>kernel_rfl
   case hB=>kernel_rfl
   case hS=>exact (Since.rfl_ w2).drew
   case h =>
   simp only [List.take_succ_cons,List.take_zero,List.drop_succ_cons,List.drop_zero]
   iterate 15 (apply wpO_det;(case hw=>rfl);(case h=>intro hFm wx hS_ hF_ K hK;go_big_quiet_op;first | exact hK _ rfl | (apply Exists.intro;refine ⟨fun _=>?_,?_⟩;(focus (first | (intro hC;have hC:=KF.out _ hC.out.1;(try simp only [hC,Result.andThen]);first | exact ⟨True.intro,rfl⟩ | exact ⟨rfl,rfl⟩ | rfl)));exact hK _ rfl));(case' k=>simp only [Act.put,List.setIfInBounds_toArray,List.set_cons_succ,List.set_cons_zero,List.cons_append,List.nil_append]))
   refine wpO_nil ?_
   intro w3 hS hF hB
   (try simp [allF] at hF)
   (try simp [List.pairwise_cons] at hB)
   clear hF hB KF
   have HS3:=Lib.hid (HS.out.trans hS)
   have HBM3:=Lib.hid (hS.blk HBM.out)
   have HO3:=Lib.hid (own_since hS HO.out)
   have m0:w3.cell? ⟨B,0,none⟩=some (.slice aP nP cP):=HBM3.out.cell 0
   have m1:w3.cell? ⟨B,1,none⟩=some (.slice (some ⟨g,o,none⟩) nH cH):=HBM3.out.cell 1
   clear hS HS HBM HO
   have hk2:k<H.length/2:=by rw [← HNH.out];have:=HHK.out;omega
   have HBAD:Hid (¬ (vtxB P x∧vtxB P y)→¬ (∀ i,i<H.length/2→linB P H i)):=fun hb hall=>hb (by
    have:=hall k hk2
    unfold linB at this
    rw [← HHK.out,← hx.out,← hy.out] at this
    exact this)
   by_cases hx0:x<0
   ·have b1:decide (x<0)=true:=decide_eq_true hx0
    go_wp2_with fail
    go_ret2
    exact ⟨.inr ⟨HBAD.out (fun k=>by have:=k.1.1;omega),rfl⟩,HS3.out⟩
   have b1:decide (x<0)=false:=decide_eq_false hx0
   by_cases hx1:(nP:Int)≤x
   ·have b2:decide ((nP:Int)≤x)=true:=decide_eq_true hx1
    go_wp2_with fail
    go_ret2
    exact ⟨.inr ⟨HBAD.out (fun k=>by have:=k.1.2;have:=HNP.out;omega),rfl⟩,HS3.out⟩
   have b2:decide ((nP:Int)≤x)=false:=decide_eq_false hx1
   by_cases hy0:y<0
   ·have b3:decide (y<0)=true:=decide_eq_true hy0
    go_wp2_with fail
    go_ret2
    exact ⟨.inr ⟨HBAD.out (fun k=>by have:=k.2.1;omega),rfl⟩,HS3.out⟩
   have b3:decide (y<0)=false:=decide_eq_false hy0
   by_cases hy1:(nP:Int)≤y
   ·have b4:decide ((nP:Int)≤y)=true:=decide_eq_true hy1
    go_wp2_with fail
    go_ret2
    exact ⟨.inr ⟨HBAD.out (fun k=>by have:=k.2.2;have:=HNP.out;omega),rfl⟩,HS3.out⟩
   have b4:decide ((nP:Int)≤y)=false:=decide_eq_false hy1
   obtain ⟨u,rfl⟩:∃ u:Nat,x=u:=⟨x.toNat,by omega⟩
   obtain ⟨v,rfl⟩:∃ v:Nat,y=v:=⟨y.toNat,by omega⟩
   have hu:u<P.length:=by rw [← HNP.out];omega
   have hv:v<P.length:=by rw [← HNP.out];omega
   obtain ⟨gP,oP,rfl,pu0,pu1⟩:=HPP.out u hu
   obtain ⟨gP',oP',e',pv0,pv1⟩:=HPP.out v hv
   injection e' with e'
   injection e' with q1 q2
   subst q1 q2
   have hgP:gP<B:=by rw [HB.out];exact World.block_lt_of_cell? w _ pu0
   have hBw3:B<w3.heap.size:=HBM3.out.lt
   have hwB:w.heap.size≤B:=by rw [HB.out];exact Nat.le_refl _
   obtain ⟨p,hp⟩:∃ p,Hid (p=pAt P u):=⟨_,rfl⟩
   obtain ⟨q,hq⟩:∃ q,Hid (q=pAt P v):=⟨_,rfl⟩
   rw [← hp.out] at pu0 pu1
   rw [← hq.out] at pv0 pv1
   have HLK:Hid (linK P H (k+1)=linK P H k++[(p,q)]):=by
    show _=_
    rw [linK_succ]
    unfold linV
    rw [← HHK.out,← hx.out,← hy.out,Int.toNat_natCast,Int.toNat_natCast,hp.out,hq.out]
   have HLB:Hid (linB P H k):=by
    show linB _ _ _
    unfold linB
    rw [← HHK.out,← hx.out,← hy.out]
    exact ⟨⟨by omega,by omega⟩,⟨by omega,by omega⟩⟩
   have HCU:=Lib.hid (And.intro (keepC HS3.out _ _ pu0) (And.intro (keepC HS3.out _ _ pu1) (And.intro (keepC HS3.out _ _ pv0) (keepC HS3.out _ _ pv1))))
   clear pu0 pu1 pv0 pv1
   obtain ⟨a4,c4,hv4⟩:=own_slice HO3.out
   subst hv4
   obtain ⟨A,HA⟩:∃ A:Ap,Hid (A=⟨.slice a4 k c4,37,4,k,(linK P H k).flatMap sgV,1,sgV (p,q)⟩):=⟨_,rfl⟩
   have HAV:Hid (A.v=.slice a4 k c4):=by show _=_;rw [HA.out]
   have HLO:Hid (∀ A' ∈ [A],∀ g,A'.v.ownBlock=some g→B+1≤g∧g<w3.heap.size):=fun A' hA' g e=>by
    rw [List.mem_singleton.1 hA',HAV.out] at e
    exact HO3.out.lt g e
   letI RG:RegG:=apG (B+1) w3.heap.size [A] (fun A' hA' g e=>(HLO.out A' hA' g e).2)
   have KB:Hid (∀ w',SinceG w3 w' → Blk w' B 26 #[.slice (some ⟨gP,oP,none⟩) nP cP,.slice (some ⟨g,o,none⟩) nH cH,.slice aF nF cF]):=fun w' k =>
    ApK.blk k (fun A hA e=>by have:=(HLO.out A hA B e).1;omega) HBM3.out
   have KC:Hid (∀ w',SinceG w3 w' → ∀ (ad:Addr) x,ad.block=gP→w3.cell? ad=some x→w'.cell? ad=some x):=fun w' k ad x he hx =>
    ApK.cell k (fun A hA e=>by have:=(HLO.out A hA _ e).1;rw [he] at this;omega) hx
   have KF:=Lib.hid (fun w' (k:SinceG w3 w')=>(show w'.cell? ⟨B,0,none⟩=some (.slice (some ⟨gP,oP,none⟩) nP cP)∧w'.cell? ⟨gP,oP+u*2,none⟩=some (.int .i64 p.1)∧w'.cell? ⟨gP,oP+u*2+1,none⟩=some (.int .i64 p.2)∧w'.cell? ⟨gP,oP+v*2,none⟩=some (.int .i64 q.1)∧w'.cell? ⟨gP,oP+v*2+1,none⟩=some (.int .i64 q.2) from
    ⟨(KB.out w' k).cell 0,KC.out w' k _ _ rfl HCU.out.1,KC.out w' k _ _ rfl HCU.out.2.1,KC.out w' k _ _ rfl HCU.out.2.2.1,KC.out w' k _ _ rfl HCU.out.2.2.2⟩))
   have u1:(0:Int)≤(u:Int):=by omega
   have u2:(u:Int)<(nP:Int):=by omega
   have v1:(0:Int)≤(v:Int):=by omega
   have v2:(v:Int)<(nP:Int):=by omega
   have hkn:k≤2199023255488:=by have:=HHK.out;omega
   go_upto_region 8 with fail
   clear m0 m1
   apply region_factsG 14 (fun w' => SinceG w3 w')
   case hm=>kernel_rfl
   case hB=>kernel_rfl
   case hS=>exact (SinceG.rfl_ w3).drew
   case hmono=>exact (fun _ _ h k=>h.trans k)
   case hTb=>exact (fun g hg=>hg)
   case h =>
   simp only [List.take_succ_cons,List.take_zero,List.drop_succ_cons,List.drop_zero]
   iterate 12 (apply wpO_detG;(case hw=>rfl);(case h=>intro hFm wx hS_ hF_ K hK;go_big_quiet_op;first | exact hK _ rfl | (apply Exists.intro;refine ⟨fun _=>?_,?_⟩;(focus (first | (intro hC;have hC:=KF.out _ hC.out.1;(try simp only [hC,Result.andThen]);first | exact ⟨True.intro,rfl⟩ | exact ⟨rfl,rfl⟩ | rfl)));exact hK _ rfl));(case' k=>simp only [Act.put,List.setIfInBounds_toArray,List.set_cons_succ,List.set_cons_zero,List.cons_append,List.nil_append]))
   apply wpO_mkG (f:=fun g=>.slice (some ⟨g,0,none⟩) 1 1) (t:=37) (cs := #[.int .i64 p.1,.int .i64 p.2,.int .i64 q.1,.int .i64 q.2])
   case hi=>(intro g g' h;simpa using h)
   case hw=>rfl
   case h=>(intro w;simp [go_sem])
   case k =>
   intro gs
   simp only [Act.put,List.setIfInBounds_toArray,List.set_cons_succ,List.set_cons_zero,List.cons_append,List.nil_append]
   apply wpO_anyG (R:=fun v' w' => w'.ownsRow (B+1) (A).t (A).k v' ((A).n+(A).m) ((A).xs++(A).news)∧(v'.ownBlock=(A).v.ownBlock∨∃ b,v'.ownBlock=some b∧w3.heap.size≤b))
   case hR=>exact fun v' w' w'' h k=>⟨k.post _ (List.mem_singleton.2 rfl) v' h.2 h.1,h.2⟩
   case hw=>rfl
   case h =>
    intro wx hS_ hF_
    refine runVG_app _ _ _ rfl rfl rfl ?_
    (
       obtain ⟨hbg,-,-⟩:=factsOf_at (j:=12) (by decide) hF_
       exact ap_one HA.out HLO.out HO3.out hS_ (by omega) (Nat.le_refl _) _ _ i0 _ 32 Tryz.underlying27 HI.out.1 HI.out.2.1 HI.out.2.2.1 HI.out.2.2.2 rfl (by decide) _ _ rfl (blk4 hbg) (one4 _ _ _ _ _ _ _ _) (by unfold maxLen;omega) (by omega))
   case k =>
   intro v'
   simp only [Act.put,List.setIfInBounds_toArray,List.set_cons_succ,List.set_cons_zero,List.cons_append,List.nil_append]
   refine wpO_nilG ?_
   intro w10 hS hF hB
   (try simp [allF] at hF)
   (try simp [List.pairwise_cons] at hB)
   obtain ⟨-,hown,hloc⟩:=hF
   have hb10:=KB.out _ hS
   have hS10:=ApK.since hS HS3.out (by omega) (fun A' hA' g e=>(HLO.out A' hA' g e).1)
   have ho10:w10.ownsRow (B+1) 37 4 v' (k+1) ((linK P H (k+1)).flatMap sgV):=by
    rw [HLK.out,List.flatMap_append]
    rw [HA.out] at hown
    simpa using hown
   have HW10:=Lib.hid (And.intro hS10 (And.intro hb10 ho10))
   clear hown hloc hS10 hb10 ho10 hS hB KF KB KC
   clear RG
   clear HLO HAV HA HO3 HBM3 HS3 HCU b1 b2 b3 b4 u1 u2 v1 v2
   have hw2:wrap64 ((h:Int)+2)=(h:Int)+2:=wrap_id (by have:=HHK.out;omega)
   clear hu hv hgP hBw3 hwB hk2 hx0 hx1 hy0 hy1 hkn i1 i2 i3 i4 hw1 hz
   go_wp2_with fail
   go_roundw
   case rel=>exact ⟨k+1,by have:=HHK.out;omega,by rw [show ((h:Int)+2)=((2*(k+1):Nat):Int) by have:=HHK.out;omega],HW10.out.1,HW10.out.2.1,HW10.out.2.2,fun i hi=>by
    rcases Nat.lt_or_ge i k with q | q
    ·exact HG.out i q
    ·obtain rfl:i=k:=by omega
     exact HLB.out⟩
   case measure=>simp [intOf];omega
  ·have hz:decide ((h:Int)+1<(nH:Int))=false:=by rw [decide_eq_false_iff_not];omega
   have hkH:k=H.length/2:=by rw [← HNH.out];have:=HHK.out;omega
   go_wp2_with fail
   go_ret2
   refine ⟨.inl ⟨by rw [← hkH];exact HG.out,_,rfl,?_⟩,HS.out⟩
   rw [← hkH]
   exact HO.out.mono (by rw [HB.out];omega)
end
section
open Go.RowKit Go.BigFrame
attribute [local go_sem ↓] eqPt neqPt
theorem hhf:Tryz.prog.stoodInHeld 33=false:=by kernel_rfl
theorem eqHfS (x y z u x' y' z' u' : Int) (d:Nat) (w:World):(Op.equalIn (d+1+1) 33 (.agg #[.int .i64 x,.int .i64 y,.int .i64 z,.int .i64 u]) (.agg #[.int .i64 x',.int .i64 y',.int .i64 z',.int .i64 u'])).run Tryz.prog w=.ok (x == x' && (y == y' && (z == z' && u == u'))) w:=by
 rw [run_equalIn_struct (P:=Tryz.prog) w (d+1) 33 _ _ (by simp [Program.fieldsOf,Tryz.underlying33]) hhf]
 simp only [Program.fieldsOf,Tryz.underlying33]
 have h1:=run_equalIn_int (P:=Tryz.prog) w d 3 .i64 .i64 x x' Tryz.underlying3
 have h2:=run_equalIn_int (P:=Tryz.prog) w d 3 .i64 .i64 y y' Tryz.underlying3
 have h3:=run_equalIn_int (P:=Tryz.prog) w d 3 .i64 .i64 z z' Tryz.underlying3
 have h4:=run_equalIn_int (P:=Tryz.prog) w d 3 .i64 .i64 u u' Tryz.underlying3
 cases e1:(x == x') <;> cases e2:(y == y') <;> cases e3:(z == z') <;> cases e4:(u == u') <;> simp [Op.eqFields,go_sem,h1,h2,h3,h4,e1,e2,e3,e4]
theorem neqHf (x y z u:Int) (w:World):(binOp .neq 33 (.agg #[.int .i64 x,.int .i64 y,.int .i64 z,.int .i64 u]) (.agg #[.int .i64 x,.int .i64 y,.int .i64 z,.int .i64 u])).run Tryz.prog w=.ok (.bool false) w:=by
 have h:(Op.equal 33 (.agg #[.int .i64 x,.int .i64 y,.int .i64 z,.int .i64 u]) (.agg #[.int .i64 x,.int .i64 y,.int .i64 z,.int .i64 u])).run Tryz.prog w=.ok (x == x && (y == y && (z == z && u == u))) w:=eqHfS x y z u x y z u 9998 w
 simp only [binOp]
 simp [h]
attribute [local go_sem ↓] neqHf
set_option maxRecDepth 100000 in
set_option maxHeartbeats 4000000 in
theorem EqualHf_same (v v' : Value) (l:List Hf) (w:World) (hl:l.length≤1000000000000000) (hv:HvsS w v l) (hv' : HvsS w v' l) :
  Calls Tryz.prog 48 #[v,v'] w fun e w' => e=.returned (.bool true)∧Since w w' := by
 obtain ⟨a,c,rfl,hc⟩:=hv
 obtain ⟨a',c',rfl,hc'⟩:=hv'
 have HV:=Lib.hid hc
 have HV' := Lib.hid hc'
 obtain ⟨n,HN⟩:∃ n,Hid (n=l.length):=⟨_,rfl⟩
 rw [← HN.out] at hl ⊢
 clear hc hc'
 go_enter Tryz.func48,Tryz.ntmps48
 go_wp2_with fail
 go_loopw [13] (fun v wr=>∃ k:Nat,k≤n∧v=.int .i64 k∧Hid (Since w wr)) (fun v _=>n-(intOf v).toNat)
 case atStart=>exact ⟨0,Nat.zero_le _,rfl,Since.rfl_ w⟩
 case round =>
  obtain ⟨k,hk,rfl,HS⟩:=hrel
  rcases Nat.lt_or_ge k n with hlt | hge
  ·obtain ⟨g,o,rfl,c0,c1,c2,c3⟩:=HV.out k (by rw [← HN.out];exact hlt)
   obtain ⟨g',o',rfl,d0,d1,d2,d3⟩:=HV'.out k (by rw [← HN.out];exact hlt)
   obtain ⟨x,hx⟩:∃ x,Hid (x=hAt l k):=⟨_,rfl⟩
   rw [← hx.out] at c0 c1 c2 c3 d0 d1 d2 d3
   obtain ⟨x0,x1,x2,x3⟩:=x
   replace c0:=keepC HS.out _ _ c0
   replace c1:=keepC HS.out _ _ c1
   replace c2:=keepC HS.out _ _ c2
   replace c3:=keepC HS.out _ _ c3
   replace d0:=keepC HS.out _ _ d0
   replace d1:=keepC HS.out _ _ d1
   replace d2:=keepC HS.out _ _ d2
   replace d3:=keepC HS.out _ _ d3
   dsimp only at c0 c1 c2 c3 d0 d1 d2 d3
   have i1:(0:Int)≤(k:Int):=by omega
   have i2:(k:Int)<(n:Int):=by omega
   go_upto_region 6 with fail
   refine region_cls (fun w' => w'.cell? ⟨g,o+k*4,none⟩=some (.int .i64 x0)∧w'.cell? ⟨g,o+k*4+1,none⟩=some (.int .i64 x1)∧w'.cell? ⟨g,o+k*4+2,none⟩=some (.int .i64 x2)∧w'.cell? ⟨g,o+k*4+3,none⟩=some (.int .i64 x3)∧w'.cell? ⟨g',o' + k*4,none⟩=some (.int .i64 x0)∧w'.cell? ⟨g',o' + k*4+1,none⟩=some (.int .i64 x1)∧w'.cell? ⟨g',o' + k*4+2,none⟩=some (.int .i64 x2)∧w'.cell? ⟨g',o' + k*4+3,none⟩=some (.int .i64 x3)∧Since wr w') (by kernel_rfl) (by kernel_rfl) (by (repeat' refine And.intro ?_ ?_) <;> first | (simp (maxDischargeDepth:=9) [c0,c1,c2,c3,d0,d1,d2,d3,  cSetS,cSetO,cellNew,World.cell?_alloc_some,cellDrew];done) | (repeat (first | with_reducible assumption | with_reducible exact Since.rfl_ _ | refine Since.setCell ?_ (by (try dsimp only);omega) _ | refine Since.alloc ?_ _ | refine Since.drew ?_))) ?_
   repeat (go_big_quiet_step ((first | (intro hC;have hC:=hC.out;(try simp only [hC,Result.andThen]);first | exact ⟨True.intro,rfl⟩ | exact ⟨rfl,rfl⟩ | rfl))))
   refine cls_end ?_
   clear c0 c1 c2 c3 d0 d1 d2 d3
   rintro w1 ⟨-,-,-,-,-,-,-,-,hs⟩
   have HS1:=Lib.hid (HS.out.trans hs)
   clear hs HS
   go_wp2_with fail
   go_roundw
   case rel=>exact ⟨k+1,by omega,by go_num,HS1⟩
   case measure=>simp [intOf];omega
  ·obtain rfl:n=k:=by omega
   go_wp2_with fail
   go_ret
   exact ⟨rfl,HS.out⟩
set_option maxRecDepth 100000 in
set_option maxHeartbeats 4000000 in
theorem EqualI_same (v v' : Value) (l:List Int) (w:World) (hl:l.length≤1000000000000000) (hv:IntS w v l) (hv' : IntS w v' l) :
  Calls Tryz.prog 49 #[v,v'] w fun e w' => e=.returned (.bool true)∧Since w w' := by
 obtain ⟨a,c,rfl,hc⟩:=hv
 obtain ⟨a',c',rfl,hc'⟩:=hv'
 have HV:=Lib.hid hc
 have HV' := Lib.hid hc'
 obtain ⟨n,HN⟩:∃ n,Hid (n=l.length):=⟨_,rfl⟩
 rw [← HN.out] at hl ⊢
 clear hc hc'
 go_enter Tryz.func49,Tryz.ntmps49
 go_wp2_with fail
 go_loopw [13] (fun v wr=>∃ k:Nat,k≤n∧v=.int .i64 k∧Hid (Since w wr)) (fun v _=>n-(intOf v).toNat)
 case atStart=>exact ⟨0,Nat.zero_le _,rfl,Since.rfl_ w⟩
 case round =>
  obtain ⟨k,hk,rfl,HS⟩:=hrel
  rcases Nat.lt_or_ge k n with hlt | hge
  ·obtain ⟨g,o,rfl,c0⟩:=HV.out k (by rw [← HN.out];exact hlt)
   obtain ⟨g',o',rfl,d0⟩:=HV'.out k (by rw [← HN.out];exact hlt)
   obtain ⟨x,hx⟩:∃ x,Hid (x=iAt l k):=⟨_,rfl⟩
   rw [← hx.out] at c0 d0
   replace c0:=keepC HS.out _ _ c0
   replace d0:=keepC HS.out _ _ d0
   have i1:(0:Int)≤(k:Int):=by omega
   have i2:(k:Int)<(n:Int):=by omega
   have hxx:(x != x)=false:=by simp
   go_upto_region 6 with fail
   refine region_cls (fun w' => w'.cell? ⟨g,o+k,none⟩=some (.int .i64 x)∧w'.cell? ⟨g',o' + k,none⟩=some (.int .i64 x)∧Since wr w') (by kernel_rfl) (by kernel_rfl) (by (repeat' refine And.intro ?_ ?_) <;> first | (simp (maxDischargeDepth:=9) [c0,d0,  cSetS,cSetO,cellNew,World.cell?_alloc_some,cellDrew];done) | (repeat (first | with_reducible assumption | with_reducible exact Since.rfl_ _ | refine Since.setCell ?_ (by (try dsimp only);omega) _ | refine Since.alloc ?_ _ | refine Since.drew ?_))) ?_
   repeat (go_big_quiet_step ((first | (intro hC;have hC:=hC.out;(try simp only [hC,Result.andThen]);first | exact ⟨True.intro,rfl⟩ | exact ⟨rfl,rfl⟩ | rfl))))
   refine cls_end ?_
   clear c0 d0
   rintro w1 ⟨-,-,hs⟩
   have HS1:=Lib.hid (HS.out.trans hs)
   clear hs HS
   go_wp2_with fail
   go_roundw
   case rel=>exact ⟨k+1,by omega,by go_num,HS1⟩
   case measure=>simp [intOf];omega
  ·obtain rfl:n=k:=by omega
   go_wp2_with fail
   go_ret
   exact ⟨rfl,HS.out⟩
set_option maxRecDepth 100000 in
set_option maxHeartbeats 4000000 in
theorem Same_any (vP vH vF vP' vH' vF' : Value) (P:List Pt2) (H:List Hf) (F:List Int) (w:World) (hP:P.length≤1000000000000000) (hH:H.length≤1000000000000000) (hF:F.length≤1000000000000000) (hm:MapR w vP vH vF P H F) (hm' : MapR w vP' vH' vF' P H F) :
  Calls Tryz.prog 25 #[.agg #[vP,vH,vF],.agg #[vP',vH',vF']] w fun e w' => e=.returned (.bool true)∧Since w w' := by
 have E1:Hid (∀ w',Since w w' → Calls Tryz.prog 47 #[vP,vP'] w' fun e w2=>e=.returned (.bool true)∧Since w' w2):=fun w' k=>by
  have:=Equal_any vP vP' P P w' hP hP (hm.p.keep (keepC k)) (hm'.p.keep (keepC k))
  rwa [decide_eq_true rfl] at this
 have E2:Hid (∀ w',Since w w' → Calls Tryz.prog 48 #[vH,vH'] w' fun e w2=>e=.returned (.bool true)∧Since w' w2):=fun w' k=>EqualHf_same vH vH' H w' hH (hm.h.since k) (hm'.h.since k)
 have E3:Hid (∀ w',Since w w' → Calls Tryz.prog 49 #[vF,vF'] w' fun e w2=>e=.returned (.bool true)∧Since w' w2):=fun w' k=>EqualI_same vF vF' F w' hF (hm.f.since k) (hm'.f.since k)
 clear hm hm' hP hH hF
 go_enter Tryz.func25,Tryz.ntmps25
 go_upto_region 1 with fail
 obtain ⟨B,HB⟩:∃ B,Hid (B=w.heap.size):=⟨_,rfl⟩
 rw [← HB.out]
 refine atW (fun w' => Hid (Since w w')∧Hid (Blk w' B 26 #[vP,vH,vF])∧Hid (Blk w' (B+1) 26 #[vP',vH',vF'])) ⟨((Since.rfl_ w).alloc _).alloc _,(Blk.new' HB.out).alloc _,Blk.new' (by rw [World.size_alloc,HB.out])⟩ ?_
 rintro w1 ⟨HS1,HB1,HC1⟩
 have m0:w1.cell? ⟨B,0,none⟩=some vP:=HB1.out.cell 0
 have m1:w1.cell? ⟨B+1,0,none⟩=some vP' := HC1.out.cell 0
 go_wp2_with fail
 clear m0 m1
 refine (E1.out _ HS1.out).mono ?_
 rintro e w2 ⟨rfl,hs⟩
 have HS2:Hid (Since w w2):=HS1.out.trans hs
 have m0:w2.cell? ⟨B,1,none⟩=some vH:=(hs.blk HB1.out).cell 1
 have m1:w2.cell? ⟨B+1,1,none⟩=some vH' := (hs.blk HC1.out).cell 1
 have HB2:=Lib.hid (hs.blk HB1.out)
 have HC2:=Lib.hid (hs.blk HC1.out)
 clear hs HS1 HB1 HC1
 go_wp2_with fail
 clear m0 m1
 refine (E2.out _ HS2.out).mono ?_
 rintro e w3 ⟨rfl,hs⟩
 have HS3:Hid (Since w w3):=HS2.out.trans hs
 have m0:w3.cell? ⟨B,2,none⟩=some vF:=(hs.blk HB2.out).cell 2
 have m1:w3.cell? ⟨B+1,2,none⟩=some vF' := (hs.blk HC2.out).cell 2
 clear hs HS2 HB2 HC2
 go_wp2_with fail
 clear m0 m1
 refine (E3.out _ HS3.out).mono ?_
 rintro e w4 ⟨rfl,hs⟩
 have HS4:Hid (Since w w4):=HS3.out.trans hs
 clear hs HS3
 go_wp2_with fail
 go_ret
 exact ⟨rfl,HS4.out⟩
end
end Go.Proofs.YtdnccjdlmepafaaGreat
