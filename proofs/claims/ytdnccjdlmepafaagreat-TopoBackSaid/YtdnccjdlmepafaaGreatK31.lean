/-
  Plain law: a drawing of segments that meet only at their ends has at most three times as many segments as points; Plain law of HotTwice: of at most 12 segments the rounded ones are at most 270, and rounding them changes nothing; The walk of terrkeep3.built: the subdivision of the stream's rounded segments; A region that makes a row of at most one int and appends two ints to it: what it may do to memory. Conditions: those that each lemma names.
-/
import Derived.Test.YtdnccjdlmepafaaGreatK14
import Derived.Test.YtdnccjdlmepafaaGreatK30
import Derived.Test.YtdnccjdlmepafaaGreatK17
import Derived.Test.YtdnccjdlmepafaaGreatK29
import Derived.Test.YtdnccjdlmepafaaGreatK28
import Derived.Test.YtdnccjdlmepafaaGreatK06
import Derived.Test.YtdnccjdlmepafaaGreatK16
import Derived.Test.YtdnccjdlmepafaaGreatK18
import Derived.Test.YtdnccjdlmepafaaGreatK22
set_option linter.unusedSimpArgs false
set_option linter.unusedVariables false
set_option linter.constructorNameAsVariable false
namespace Go.Proofs.YtdnccjdlmepafaaGreat
section
namespace Plane
abbrev Ed:=Q2×Q2
def sl(e:Ed):Rat:=(e.2.2-e.1.2)*(e.2.1-e.1.1)⁻¹
def ht(e:Ed)(x:Rat):Rat:=e.1.2+(x-e.1.1)*sl e
theorem ht_fst(e:Ed):ht e e.1.1=e.1.2:=by unfold ht;grind
theorem ht_snd{e:Ed}(h:e.1.1<e.2.1):ht e e.2.1=e.2.2:=by
 unfold ht sl
 have:(e.2.1-e.1.1)⁻¹*(e.2.1-e.1.1)=1:=Rat.inv_mul_cancel _ (by grind)
 grind
theorem root{A B x y:Rat}(hxy:x<y)(h1:0<A+B*x)(h2:A+B*y≤0):∃ z,x<z∧z≤y∧A+B*z=0∧(A+B*y<0→z<y):=by
 have hB:B<0:=by
  refine Classical.byContradiction fun k=>?_
  have:=Rat.mul_nonneg (a:=B) (b:=y-x) (by grind) (by grind)
  grind
 obtain⟨i,hi⟩:∃ i:Rat,i*B=1:=⟨B⁻¹,Rat.inv_mul_cancel _ (by grind)⟩
 have hin:i<0:=by
  refine Classical.byContradiction fun k=>?_
  have:=Rat.mul_nonneg (a:=i) (b := -B) (by grind) (by grind)
  have e:i * -B = -1:=by grind
  grind
 have hz:A+B*(-A*i)=0:=by
  have e:B*(-A*i) = -A*(i*B):=by grind
  rw[e,hi];grind
 have ex:(A+B*x) * -i = -A*i-x:=by
  have e:(A+B*x) * -i = -A*i-(i*B)*x:=by grind
  rw[e,hi];grind
 have ey : -(A+B*y) * -i=A*i+y:=by
  have e : -(A+B*y) * -i=A*i+(i*B)*y:=by grind
  rw[e,hi];grind
 refine⟨-A*i,?_,?_,hz,fun h3=>?_⟩
 ·have:=Rat.mul_pos (a:=A+B*x) (b := -i) h1 (by grind)
  grind
 ·have:=Rat.mul_nonneg (a := -(A+B*y)) (b := -i) (by grind) (by grind)
  grind
 ·have:=Rat.mul_pos (a := -(A+B*y)) (b := -i) (by grind) (by grind)
  grind
theorem root'{A B x y:Rat}(hxy:x<y)(h1:A+B*x≤0)(h2:0<A+B*y):∃ z,x≤z∧z<y∧A+B*z=0:=by
 obtain⟨z,h1,h2,h3,-⟩:=root (A:=A+B*(x+y)) (B := -B) (x:=x) (y:=y) hxy (by grind) (by grind)
 exact⟨x+y-z,by grind,by grind,by grind⟩
theorem cut{e f:Ed}{x y:Rat}(hxy:x<y)(h1:ht e x<ht f x)(h2:ht f y≤ht e y):∃ z,x<z∧z≤y∧ht f z=ht e z∧(ht f y<ht e y→z<y):=by
 obtain⟨z,a,b,c,d⟩:=root (A:=f.1.2-f.1.1*sl f-e.1.2+e.1.1*sl e) (B:=sl f-sl e) (x:=x) (y:=y) hxy (by unfold ht at h1;grind) (by unfold ht at h2;grind)
 refine⟨z,a,b,by unfold ht;grind,fun k=>d ?_⟩
 unfold ht at k;grind
theorem cut'{e f:Ed}{x y:Rat}(hxy:x<y)(h1:ht f x≤ht e x)(h2:ht e y<ht f y):∃ z,x≤z∧z<y∧ht f z=ht e z:=by
 obtain⟨z,a,b,c⟩:=root' (A:=f.1.2-f.1.1*sl f-e.1.2+e.1.1*sl e) (B:=sl f-sl e) (x:=x) (y:=y) hxy (by unfold ht at h1;grind) (by unfold ht at h2;grind)
 exact⟨z,a,b,by unfold ht;grind⟩
theorem min_of{α:Type}(f:α→Rat):∀ (l:List α),l≠[]→∃ a∈l,∀ b∈l,f a≤f b
 | [],h=>absurd rfl h
 | [a],_=>⟨a,by simp,by simp⟩
 | a :: b :: l,_=>by
  obtain⟨c,hc,h⟩:=min_of f (b :: l) (by simp)
  by_cases k:f a≤f c
  ·refine⟨a,by simp,fun x hx=>?_⟩
   rcases List.mem_cons.1 hx with rfl | hx
   ·grind
   ·exact Rat.le_trans k (h x hx)
  ·refine⟨c,List.mem_cons_of_mem _ hc,fun x hx=>?_⟩
   rcases List.mem_cons.1 hx with rfl | hx
   ·grind
   ·exact h x hx
structure Drawn(V:List Q2)(E:List Ed):Prop where
 way:∀ e∈E,e.1.1<e.2.1
 fst:∀ e∈E,e.1∈V
 snd:∀ e∈E,e.2∈V
 inj:∀ p∈V,∀ q∈V,p.1=q.1→p=q
 used:∀ p∈V,∃ e∈E,e.1=p∨e.2=p
 meet:∀ e∈E,∀ f∈E,e≠f→∀ x,e.1.1≤x→x≤e.2.1→f.1.1≤x→x≤f.2.1→ht e x=ht f x→(x=e.1.1∨x=e.2.1)∧(x=f.1.1∨x=f.2.1)
variable {V : List Q2} {E : List Ed}
theorem steeper{e f:Ed}{x:Rat}(h:e.1=f.1)(hx:e.1.1<x):ht e x<ht f x↔sl e<sl f:=by
 unfold ht
 rw[← h]
 constructor
 ·intro k
  refine Classical.byContradiction fun n=>?_
  have:=Rat.mul_nonneg (a:=x-e.1.1) (b:=sl e-sl f) (by grind) (by grind)
  grind
 ·intro k
  have:=Rat.mul_pos (a:=x-e.1.1) (b:=sl f-sl e) (by grind) (by grind)
  grind
theorem same_slope(h:Drawn V E){e f:Ed}(he:e∈E)(hf:f∈E)(h1:e.1=f.1)(hs:sl e=sl f):e=f:=by
 refine Classical.byContradiction fun hne=>?_
 have we:=h.way e he
 have wf:=h.way f hf
 have hh:∀ x,ht e x=ht f x:=fun x=>by unfold ht;rw[h1,hs]
 obtain⟨m,m1,m2,m3⟩:∃ m:Rat,e.1.1<m∧m<e.2.1∧m<f.2.1:=by
  by_cases k:e.2.1≤f.2.1
  ·exact⟨(e.1.1+e.2.1)/2,by grind,by grind,by grind⟩
  ·exact⟨(f.1.1+f.2.1)/2,by grind,by grind,by grind⟩
 have:=(h.meet e he f hf hne m (by grind) (by grind) (by grind) (by grind) (hh m)).1
 grind
def Top(E:List Ed)(e:Ed)(p:Q2):Prop:=e.1=p∧∀ f∈E,f.1=p→sl f≤sl e
def Bot(E:List Ed)(e:Ed)(p:Q2):Prop:=e.2=p∧∀ f∈E,f.2=p→sl e≤sl f
def Und(E:List Ed)(e:Ed)(p:Q2):Prop:=e.1.1<p.1∧p.1<e.2.1∧ht e p.1<p.2∧∀ f∈E,f.1.1<p.1→p.1<f.2.1→ht e p.1<ht f p.1→p.2≤ht f p.1
theorem top_one(h:Drawn V E){e f:Ed}{p:Q2}(he:e∈E)(hf:f∈E)(h1:Top E e p)(h2:Top E f p):e=f:=by
 have a:=h1.2 f hf h2.1
 have b:=h2.2 e he h1.1
 exact same_slope h he hf (h1.1.trans h2.1.symm) (by grind)
theorem bot_one(h:Drawn V E){e f:Ed}{p:Q2}(he:e∈E)(hf:f∈E)(h1:Bot E e p)(h2:Bot E f p):e=f:=by
 refine Classical.byContradiction fun hne=>?_
 have a:=h1.2 f hf h2.1
 have b:=h2.2 e he h1.1
 have hs:sl e=sl f:=by grind
 have we:=h.way e he
 have wf:=h.way f hf
 have e2:=ht_snd we
 have f2:=ht_snd wf
 rw[h1.1] at e2 we
 rw[h2.1] at f2 wf
 have hh:∀ x,ht e x=ht f x:=fun x=>by unfold ht at *;rw[hs] at *;grind
 obtain⟨m,m1,m2,m3⟩:∃ m:Rat,m<p.1∧e.1.1<m∧f.1.1<m:=by
  by_cases k:e.1.1≤f.1.1
  ·exact⟨(f.1.1+p.1)/2,by grind,by grind,by grind⟩
  ·exact⟨(e.1.1+p.1)/2,by grind,by grind,by grind⟩
 have:=(h.meet e he f hf hne m (by grind) (by rw[h1.1];grind) (by grind) (by rw[h2.1];grind) (hh m)).1
 rw[h1.1] at this
 grind
theorem und_one(h:Drawn V E){e f:Ed}{p:Q2}(he:e∈E)(hf:f∈E)(h1:Und E e p)(h2:Und E f p):e=f:=by
 refine Classical.byContradiction fun hne=>?_
 have hh:ht e p.1=ht f p.1:=by
  have a:=h1.2.2.2 f hf h2.1 h2.2.1
  have b:=h2.2.2.2 e he h1.1 h1.2.1
  have c:=h1.2.2.1
  have d:=h2.2.2.1
  grind
 have a:=h1.1
 have b:=h1.2.1
 have c:=h2.1
 have d:=h2.2.1
 have:=(h.meet e he f hf hne p.1 (by grind) (by grind) (by grind) (by grind) hh).1
 grind
set_option maxHeartbeats 1000000 in
theorem kinds(h:Drawn V E){e:Ed}(he:e∈E):Top E e e.1∨Bot E e e.2∨∃ x∈V,Und E e x:=by
 refine Classical.byContradiction fun hno=>?_
 have nT:¬ Top E e e.1:=fun k=>hno (.inl k)
 have nB:¬ Bot E e e.2:=fun k=>hno (.inr (.inl k))
 have nU:∀ x∈V,¬ Und E e x:=fun x hx k=>hno (.inr (.inr ⟨x,hx,k⟩))
 have we:=h.way e he
 -- the next one above, at the left end
 obtain⟨e0,he0,hl0,hs0⟩:∃ f∈E,f.1=e.1∧sl e<sl f:=by
  refine Classical.byContradiction fun k=>nT ⟨rfl,fun f hf hl=>?_⟩
  refine Classical.byContradiction fun k2=>k ⟨f,hf,hl,by grind⟩
 obtain⟨e1,hm1,hmin⟩:=min_of sl (E.filter fun f=>decide (f.1=e.1∧sl e<sl f)) (fun k=>by
  have:e0∈E.filter fun f=>decide (f.1=e.1∧sl e<sl f):=List.mem_filter.2 ⟨he0,by simp[hl0,hs0]⟩
  rw[k] at this;cases this)
 have h1' := List.mem_filter.1 hm1
 have he1:=h1'.1
 have hl1:e1.1=e.1:=(of_decide_eq_true h1'.2).1
 have hs1:sl e<sl e1:=(of_decide_eq_true h1'.2).2
 have hmin:∀ f∈E,f.1=e.1→sl e<sl f→sl e1≤sl f:=fun f hf a b=>hmin f (List.mem_filter.2 ⟨hf,by simp[a,b]⟩)
 clear h1' hm1 hs0 hl0 he0
 -- one above, at the right end
 obtain⟨e2,he2,hr2,hs2⟩:∃ f∈E,f.2=e.2∧sl f<sl e:=by
  refine Classical.byContradiction fun k=>nB ⟨rfl,fun f hf hl=>?_⟩
  refine Classical.byContradiction fun k2=>k ⟨f,hf,hl,by grind⟩
 have w1:=h.way e1 he1
 have w2:=h.way e2 he2
 have l1:e1.1.1=e.1.1:=by rw[hl1]
 have r2:e2.2.1=e.2.1:=by rw[hr2]
 have ne1:e1≠e:=fun k=>by rw[k] at hs1;grind
 have ne2:e2≠e:=fun k=>by rw[k] at hs2;grind
 have up1:∀ x,e.1.1<x→ht e x<ht e1 x:=fun x hx=>(steeper hl1.symm hx).2 hs1
 have up2:∀ x,x<e.2.1→ht e x<ht e2 x:=fun x hx=>by
  have a:=ht_snd we
  have b:=ht_snd w2
  rw[hr2] at b
  have:=Rat.mul_pos (a:=e.2.1-x) (b:=sl e-sl e2) (by grind) (by grind)
  unfold ht at *
  grind
 -- the first point behind u that is on or above e and not above e1
 obtain⟨x,hx,hxmin⟩:=min_of (fun p:Q2=>p.1) (V.filter fun p=>decide (e.1.1<p.1∧p.1≤e.2.1∧ht e p.1≤p.2∧(e1.2.1≤p.1∨p.2≤ht e1 p.1))) (fun k=>by
  have:e.2∈V.filter fun p=>decide (e.1.1<p.1∧p.1≤e.2.1∧ht e p.1≤p.2∧(e1.2.1≤p.1∨p.2≤ht e1 p.1)):=List.mem_filter.2 ⟨h.snd e he,by
   have a:=ht_snd we
   have b:=up1 _ we
   simp only[decide_eq_true_eq]
   exact⟨we,by grind,by grind,by grind⟩⟩
  rw[k] at this;cases this)
 have hx' := List.mem_filter.1 hx
 have hxV:=hx'.1
 have hxp:e.1.1<x.1∧x.1≤e.2.1∧ht e x.1≤x.2∧(e1.2.1≤x.1∨x.2≤ht e1 x.1):=of_decide_eq_true hx'.2
 have hxm:∀ p∈V,p.1<x.1→e.1.1<p.1→ht e p.1≤p.2→p.1<e1.2.1∧ht e1 p.1<p.2:=fun p hp a b c=>by
  refine Classical.byContradiction fun k=>?_
  have:=hxmin p (List.mem_filter.2 ⟨hp,by
   simp only[decide_eq_true_eq]
   exact⟨b,by grind,c,by grind⟩⟩)
  grind
 clear hx hxmin hx'
 obtain⟨x1,x2,x3,x4⟩:=hxp
 have hxw:x.1≤e1.2.1:=by
  refine Classical.byContradiction fun k=>?_
  have a:=ht_snd w1
  have b:=up1 e1.2.1 (by grind)
  have:=hxm e1.2 (h.snd e1 he1) (by grind) (by grind) (by grind)
  grind
 have hx1:x.2≤ht e1 x.1:=by
  rcases x4 with k | k
  ·have e:=h.inj x hxV e1.2 (h.snd e1 he1) (by grind)
   rw[e,ht_snd w1];grind
  ·exact k
 by_cases hv:x.1=e.2.1
 ·-- it is the right end
  have ex:=h.inj x hxV e.2 (h.snd e he) hv
  have hv2:e.2.2≤ht e1 e.2.1:=by rw[← ex];exact hx1
  have hz2:=ht_snd w2
  rw[hr2] at hz2
  have ne12:e2≠e1:=fun k=>by
   rw[k] at hs2;grind
  -- e1 and e2 meet at v alone
  have fin:∀ y,y<e.2.1→e.1.1≤y→e2.1.1≤y→ht e1 y<ht e2 y→(∀ z,y<z→z=e1.1.1∨z=e1.2.1→z=e1.2.1)→False:=fun y y1 y2 y3 y4 y5=>by
   obtain⟨z,z1,z2,z3,-⟩:=cut y1 y4 (by rw[hz2];exact hv2)
   have m:=h.meet e2 he2 e1 he1 ne12 z (by grind) (by grind) (by grind) (by grind) z3
   have zw:=y5 z z1 m.2
   have zv:z=e.2.1:=by rcases m.1 with k | k <;> grind
   have e12:=h.inj e1.2 (h.snd e1 he1) e.2 (h.snd e he) (by grind)
   exact ne1 (Prod.ext hl1 e12)
  by_cases hz:e.1.1<e2.1.1
  ·have a:=up2 e2.1.1 (by grind)
   rw[ht_fst] at a
   have k:=hxm e2.1 (h.fst e2 he2) (by grind) hz (by grind)
   exact fin e2.1.1 (by grind) (by grind) (by grind) (by rw[ht_fst];exact k.2) (fun z a b=>by grind)
  ·by_cases hz' : e2.1.1=e.1.1
   ·have:=h.inj e2.1 (h.fst e2 he2) e.1 (h.fst e he) hz'
    exact ne2 (Prod.ext this hr2)
   ·have a:=up2 e.1.1 we
    have b:=ht_fst e
    have c:=ht_fst e1
    rw[hl1] at c
    exact fin e.1.1 we (by grind) (by grind) (by grind) (fun z a b=>by grind)
 ·-- e is at once below it
  have hxv:x.1<e.2.1:=by grind
  have x5:ht e x.1<x.2:=by
   refine Classical.byContradiction fun k=>?_
   obtain⟨f,hf,hfx⟩:=h.used x hxV
   have wf:=h.way f hf
   have nfe:e≠f:=fun k=>by
    subst k
    rcases hfx with k | k
    ·rw[k] at x1;grind
    ·rw[k] at hv;grind
   have hfh:ht f x.1=x.2:=by
    rcases hfx with k | k
    ·rw[← k];exact ht_fst f
    ·rw[← k];exact ht_snd wf
   have:=(h.meet e he f hf nfe x.1 (by grind) (by grind) (by rcases hfx with k | k <;> rw[← k] <;> grind) (by rcases hfx with k | k <;> rw[← k] <;> grind) (by grind)).1
   grind
  refine nU x hxV ⟨x1,hxv,x5,fun f hf f1 f2 f3=>?_⟩
  refine Classical.byContradiction fun k=>?_
  have f4:ht f x.1<x.2:=by grind
  have nfe:f≠e:=fun k=>by rw[k] at f3;grind
  have nf1:f≠e1:=fun k=>by rw[k] at f4;grind
  have wf:=h.way f hf
  have hf1:ht f x.1<ht e1 x.1:=by grind
  by_cases hp:e.1.1<f.1.1
  ·have pe:ht e f.1.1≤f.1.2:=by
    refine Classical.byContradiction fun k=>?_
    have hk:ht f f.1.1≤ht e f.1.1:=by rw[ht_fst];grind
    obtain⟨z,z1,z2,z3⟩:=cut' f1 hk f3
    have:=(h.meet f hf e he nfe z (by grind) (by grind) (by grind) (by grind) z3).2
    grind
   have k2:=hxm f.1 (h.fst f hf) f1 hp pe
   obtain⟨z,z1,z2,z3,z4⟩:=cut f1 (by rw[ht_fst];exact k2.2) (Rat.le_of_lt hf1)
   have z4:=z4 hf1
   have:=(h.meet f hf e1 he1 nf1 z (by grind) (by grind) (by grind) (by grind) z3).1
   grind
  ·by_cases hp' : f.1.1=e.1.1
   ·have e5:=h.inj f.1 (h.fst f hf) e.1 (h.fst e he) hp'
    have s1:=(steeper e5.symm x1).1 f3
    have s2:=hmin f hf e5 s1
    have s3:=(steeper (e:=f) (f:=e1) (by rw[e5,hl1]) (by grind)).1 hf1
    grind
   ·have hu:e.1.2<ht f e.1.1:=by
     refine Classical.byContradiction fun k=>?_
     have hk:ht f e.1.1≤ht e e.1.1:=by rw[ht_fst e];grind
     obtain⟨z,z1,z2,z3⟩:=cut' x1 hk f3
     have:=(h.meet f hf e he nfe z (by grind) (by grind) (by grind) (by grind) z3).1
     grind
    have c:=ht_fst e1
    rw[hl1] at c
    obtain⟨z,z1,z2,z3,z4⟩:=cut (e:=e1) (f:=f) x1 (by grind) (Rat.le_of_lt hf1)
    have z4:=z4 hf1
    have:=(h.meet f hf e1 he1 nf1 z (by grind) (by grind) (by grind) (by grind) z3).1
    grind
theorem pigeon{α β:Type}[DecidableEq β](R:α→β→Prop):∀ (l:List α) (m:List β),l.Nodup→(∀ a∈l,∃ b∈m,R a b)→(∀ a∈l,∀ c∈l,∀ b,R a b→R c b→a=c)→l.length≤m.length
 | [],_,_,_,_=>by simp
 | a :: l,m,hn,h1,h2=>by
  rw[List.nodup_cons] at hn
  obtain⟨b,hb,hr⟩:=h1 a (by simp)
  have:=pigeon R l (m.erase b) hn.2 (fun c hc=>by
   obtain⟨d,hd,hr'⟩:=h1 c (by simp[hc])
   refine⟨d,?_,hr'⟩
   refine(List.mem_erase_of_ne fun e=>?_).2 hd
   subst e
   exact hn.1 ((h2 a (by simp) c (by simp[hc]) d hr hr') ▸ hc)) (fun c hc d hd=>h2 c (by simp[hc]) d (by simp[hd]))
  rw[List.length_erase_of_mem hb] at this
  have:0<m.length:=List.length_pos_of_mem hb
  simp only[List.length_cons];omega
theorem bound(h:Drawn V E)(hn:E.Nodup):E.length≤3*V.length:=by
 have:=pigeon (β:=Nat×Q2) (fun e b=>(b.1=0∧Top E e b.2)∨(b.1=1∧Bot E e b.2)∨(b.1=2∧Und E e b.2)) E (V.map (fun p=>(0,p))++(V.map (fun p=>(1,p))++V.map fun p=>(2,p))) hn (fun e he=>by
  rcases kinds h he with k | k | ⟨x,hx,k⟩
  ·exact⟨(0,e.1),by simp[h.fst e he],.inl ⟨rfl,k⟩⟩
  ·exact⟨(1,e.2),by simp[h.snd e he],.inr (.inl ⟨rfl,k⟩)⟩
  ·exact⟨(2,x),by simp[hx],.inr (.inr ⟨rfl,k⟩)⟩) (fun e he f hf b k1 k2=>by
  rcases k1 with⟨a,k⟩ | ⟨a,k⟩ | ⟨a,k⟩ <;> rcases k2 with⟨b',k'⟩ | ⟨b',k'⟩ | ⟨b',k'⟩
  all_goals first
   | (exfalso;omega)
   | exact top_one h he hf k k'
   | exact bot_one h he hf k k'
   | exact und_one h he hf k k')
 simp only[List.length_append,List.length_map] at this
 omega
end Plane
end
section
theorem at0{s:Sg}(h:s.1≠s.2){l:Rat}{p:Pt2}(e:lerp (toQ s.1) (toQ s.2) l=toQ p)(k:p=s.1∨p=s.2):l=0∨l=1:=by
 rcases k with k | k
 ·exact .inl (lerp_inj h (by rw[e,lerp0,k]))
 ·exact .inr (lerp_inj h (by rw[e,lerp1,k]))
theorem fix_common{cs:List (List Pt2)}(h:Inv cs)(hf:stepC cs=cs){s t:Sg}(hs:s∈edgL cs)(ht:t∈edgL cs)(hne:s≠t){l m:Rat}(hl:I01 l)(hm:I01 m)(e:lerp (toQ s.1) (toQ s.2) l=lerp (toQ t.1) (toQ t.2) m) :
  (l=0∨l=1)∧(m=0∨m=1):=by
 have os:=h.eok s hs
 have ot:=h.eok t ht
 have ls:=edg_lx h hs
 have lt:=edg_lx h ht
 have he:=hot_end hs
 have he' := hot_end ht
 -- an end of one that is on the other is an end of it
 have on_t:∀ {x:Pt2} {u:Rat},x∈hotL (edgL cs)→I01 u→toQ x=lerp (toQ t.1) (toQ t.2) u→x=t.1∨x=t.2:=fun {x u} hx hu k=>fix_edge h hf ht hx hu (by rw[← k];exact in_self _)
 have on_s:∀ {x:Pt2} {u:Rat},x∈hotL (edgL cs)→I01 u→toQ x=lerp (toQ s.1) (toQ s.2) u→x=s.1∨x=s.2:=fun {x u} hx hu k=>fix_edge h hf hs hx hu (by rw[← k];exact in_self _)
 have key:¬ (l≠0∧l≠1∧m≠0∧m≠1):=by
  rintro⟨l0,l1,m0,m1⟩
  have b0:0<l∧l<1:=by unfold I01 at hl;grind
  have b1:0<m∧m<1:=by unfold I01 at hm;grind
  by_cases hD:crs t.1 t.2 s.1-crs t.1 t.2 s.2=0
  ·obtain⟨r,r',e1,e2⟩:=par_line os.2.2 e hD
   rw[e1,e2,lerp_lerp] at e
   have el:=lerp_inj os.2.2 e
   have in_:∀ {u:Rat},0≤u→u≤1→I01 u:=fun {u} a b=>⟨a,b⟩
   have z1:∀ {u:Rat} {x:Pt2},toQ x=lerp (toQ s.1) (toQ s.2) u→x∈hotL (edgL cs)→0≤u→u≤1→u=0∨u=1:=fun {u x} k hx a b=>at0 os.2.2 k.symm (on_s hx ⟨a,b⟩ k)
   have q1:=z1 e1 he'.1
   have q2:=z1 e2 he'.2
   have c0:lerp (toQ s.1) (toQ s.2) 0=toQ s.1:=lerp0 _ _
   have c1:lerp (toQ s.1) (toQ s.2) 1=toQ s.2:=lerp1 _ _
   -- the ends of s on t
   have back:∀ {u v:Rat} {x:Pt2},lerp (toQ s.1) (toQ s.2) v=toQ x→x∈hotL (edgL cs)→0≤u→u≤1→r+u*(r' - r)=v→v=r∨v=r' := fun {u v x} k hx a b ev=>by
    have k2:toQ x=lerp (toQ t.1) (toQ t.2) u:=by rw[e1,e2,lerp_lerp,ev,k]
    rcases on_t hx ⟨a,b⟩ k2 with g | g
    ·exact .inl (lerp_inj os.2.2 (by rw[k,g,e1]))
    ·exact .inr (lerp_inj os.2.2 (by rw[k,g,e2]))
   have hrr:r≠r' := fun k=>by rw[k] at el;grind
   obtain⟨i,hi⟩:=inv_ (show r' - r≠0 by grind)
   rcases (show r<r' ∨ r' < r by grind) with hlt | hlt
   ·have p1:=Rat.mul_pos (a:=m) (b:=r' - r) b1.1 (by grind)
    have p2:=Rat.mul_pos (a:=1-m) (b:=r' - r) (by grind) (by grind)
    have g1:r<l:=by grind
    have g2:l<r' := by grind
    have hip:0<i:=by
     refine Classical.byContradiction fun k=>?_
     have:=Rat.mul_nonneg (a := -i) (b:=r' - r) (by grind) (by grind)
     grind
    -- a parameter between r and r' is one of t
    have par:∀ {v:Rat},r≤v→v≤r' → 0≤(v-r)*i∧(v-r)*i≤1∧r+(v-r)*i*(r' - r)=v:=fun {v} a b=>by
     have:=Rat.mul_nonneg (a:=v-r) (b:=i) (by grind) (by grind)
     have:=Rat.mul_nonneg (a:=r' - v) (b:=i) (by grind) (by grind)
     have e5:(v-r)*i*(r' - r)=(v-r)*(i*(r' - r)):=by grind
     refine⟨by grind,by grind,by rw[e5,hi];grind⟩
    have r0:r=0:=by
     rcases (show r<0∨0≤r by grind) with k | k
     ·obtain⟨a,b,c⟩:=par (v:=0) (by grind) (by grind)
      rcases back c0 he.1 a b c with g | g <;> grind
     ·rcases q1 k (by grind) with g | g <;> grind
    have r1:r' = 1:=by
     rcases (show 1<r' ∨ r' ≤ 1 by grind) with k | k
     ·obtain⟨a,b,c⟩:=par (v:=1) (by grind) (by grind)
      rcases back c1 he.2 a b c with g | g <;> grind
     ·rcases q2 (by grind) k with g | g <;> grind
    rw[r0,c0] at e1
    rw[r1,c1] at e2
    exact hne (Prod.ext (toQ_inj e1.symm) (toQ_inj e2.symm))
   ·have p1:=Rat.mul_pos (a:=m) (b:=r-r') b1.1 (by grind)
    have p2:=Rat.mul_pos (a:=1-m) (b:=r-r') (by grind) (by grind)
    have g1:l<r:=by grind
    have g2:r' < l:=by grind
    have hip:i<0:=by
     refine Classical.byContradiction fun k=>?_
     have:=Rat.mul_nonneg (a:=i) (b:=r-r') (by grind) (by grind)
     grind
    have par:∀ {v:Rat},r' ≤ v→v≤r→0≤(v-r)*i∧(v-r)*i≤1∧r+(v-r)*i*(r' - r)=v:=fun {v} a b=>by
     have:=Rat.mul_nonneg (a:=r-v) (b := -i) (by grind) (by grind)
     have:=Rat.mul_nonneg (a:=v-r') (b := -i) (by grind) (by grind)
     have e5:(v-r)*i*(r' - r)=(v-r)*(i*(r' - r)):=by grind
     refine⟨by grind,by grind,by rw[e5,hi];grind⟩
    have r0:r' = 0:=by
     rcases (show r' < 0∨0≤r' by grind) with k | k
     ·obtain⟨a,b,c⟩:=par (v:=0) (by grind) (by grind)
      rcases back c0 he.1 a b c with g | g <;> grind
     ·rcases q2 k (by grind) with g | g <;> grind
    have r1:r=1:=by
     rcases (show 1<r∨r≤1 by grind) with k | k
     ·obtain⟨a,b,c⟩:=par (v:=1) (by grind) (by grind)
      rcases back c1 he.2 a b c with g | g <;> grind
     ·rcases q1 (by grind) k with g | g <;> grind
    rw[r1,c1] at e1
    rw[r0,c0] at e2
    rw[toQ_inj e1,toQ_inj e2] at lt
    exact lx_asy ls lt
  ·-- not parallel: the common point is a hot one
   obtain⟨x,hx,hi⟩:∃ x∈hotL (edgL cs),inP (toQ x) (lerp (toQ s.1) (toQ s.2) l):=by
    rcases hot_core h.eok hs ht hl hm e with k | k
    ·exact k
    ·exact absurd k (fun k=>hD (by
      obtain⟨r,r',hc,hd⟩:=k
      unfold toQ lerp at hc hd
      rw[Prod.ext_iff] at hc hd
      dsimp only at hc hd
      obtain⟨c1,c2⟩:=hc
      obtain⟨d1,d2⟩:=hd
      have h1:=crsQ t.1 t.2 s.1
      have h2:=crsQ t.1 t.2 s.2
      have:((crs t.1 t.2 s.1-crs t.1 t.2 s.2:Int):Rat)=0:=by
       push_cast
       rw[h1,h2,c1,c2,d1,d2]
       grind
      exact cast0.1 this))
   have x1:=fix_edge h hf hs hx hl hi
   have x2:=fix_edge h hf ht hx hm (by rw[← e];exact hi)
   -- two common points: parallel
   obtain⟨u,hu,eu⟩:∃ u:Rat,(u=0∨u=1)∧lerp (toQ s.1) (toQ s.2) u=toQ x:=by
    rcases x1 with k | k
    ·exact⟨0,.inl rfl,by rw[lerp0,k]⟩
    ·exact⟨1,.inr rfl,by rw[lerp1,k]⟩
   obtain⟨v,hv,ev⟩:∃ v:Rat,(v=0∨v=1)∧lerp (toQ t.1) (toQ t.2) v=toQ x:=by
    rcases x2 with k | k
    ·exact⟨0,.inl rfl,by rw[lerp0,k]⟩
    ·exact⟨1,.inr rfl,by rw[lerp1,k]⟩
   apply hD
   have e2:lerp (toQ s.1) (toQ s.2) u=lerp (toQ t.1) (toQ t.2) v:=by rw[eu,ev]
   unfold lerp toQ at e e2
   rw[Prod.ext_iff] at e e2
   dsimp only at e e2
   obtain⟨a1,a2⟩:=e
   obtain⟨b1',b2'⟩:=e2
   have h1:=crsQ t.1 t.2 s.1
   have h2:=crsQ t.1 t.2 s.2
   have hul:l-u≠0:=by rcases hu with k | k <;> grind
   have f1:(l-u)*((s.2.1:Rat)-s.1.1)=(m-v)*((t.2.1:Rat)-t.1.1):=by grind
   have f2:(l-u)*((s.2.2:Rat)-s.1.2)=(m-v)*((t.2.2:Rat)-t.1.2):=by grind
   have:((crs t.1 t.2 s.1-crs t.1 t.2 s.2:Int):Rat)*(l-u)=0:=by
    push_cast
    rw[h1,h2]
    grind
   rcases Rat.mul_eq_zero.1 this with g | g
   ·exact cast0.1 g
   ·exact absurd g hul
 have l_end:l=0∨l=1→m=0∨m=1:=fun k=>by
  rcases k with k | k
  ·rw[k,lerp0] at e
   exact at0 ot.2.2 e.symm (on_t he.1 hm e)
  ·rw[k,lerp1] at e
   exact at0 ot.2.2 e.symm (on_t he.2 hm e)
 have m_end:m=0∨m=1→l=0∨l=1:=fun k=>by
  rcases k with k | k
  ·rw[k,lerp0] at e
   exact at0 os.2.2 e (on_s he'.1 hl e.symm)
  ·rw[k,lerp1] at e
   exact at0 os.2.2 e (on_s he'.2 hl e.symm)
 by_cases k1:l=0∨l=1
 ·exact⟨k1,l_end k1⟩
 ·by_cases k2:m=0∨m=1
  ·exact⟨m_end k2,k2⟩
  ·exact absurd ⟨fun k=>k1 (.inl k),fun k=>k1 (.inr k),fun k=>k2 (.inl k),fun k=>k2 (.inr k)⟩ key
def sh(p:Pt2):Q2:=(((4194304*p.1+p.2:Int):Rat),(p.2:Rat))
def shE(s:Sg):Q2×Q2:=(sh s.1,sh s.2)
theorem ok_bd{p:Pt2}(h:okP p.1 p.2=true) : -1048576≤p.1∧p.1≤1048576 ∧ -1048576≤p.2∧p.2≤1048576:=by
 have:=okP_abs h;omega
theorem sh_lt{p q:Pt2}(hp:okP p.1 p.2=true)(hq:okP q.1 q.2=true)(h:lx p q):(sh p).1<(sh q).1:=by
 have:=ok_bd hp
 have:=ok_bd hq
 unfold lx at h
 exact Rat.intCast_lt_intCast.2 (by omega)
theorem sh_inj{p q:Pt2}(hp:okP p.1 p.2=true)(hq:okP q.1 q.2=true)(h:(sh p).1=(sh q).1):p=q:=by
 have:=ok_bd hp
 have:=ok_bd hq
 have:(4194304*p.1+p.2:Int)=4194304*q.1+q.2:=Rat.intCast_inj.1 h
 exact Prod.ext (by omega) (by omega)
theorem sh_lerp{s:Sg}{x:Rat}(hw:(sh s.1).1<(sh s.2).1)(h1:(sh s.1).1≤x)(h2:x≤(sh s.2).1) :
  ∃ l,I01 l∧Plane.ht (shE s) x=(lerp (toQ s.1) (toQ s.2) l).2∧x=4194304*(lerp (toQ s.1) (toQ s.2) l).1+(lerp (toQ s.1) (toQ s.2) l).2∧(l=0→x=(sh s.1).1)∧(l=1→x=(sh s.2).1):=by
 obtain⟨i,hi⟩:=inv_ (show(sh s.2).1-(sh s.1).1≠0 by grind)
 have hie:((sh s.2).1-(sh s.1).1)⁻¹=i:=by
  have h3:((sh s.2).1-(sh s.1).1)⁻¹*((sh s.2).1-(sh s.1).1)=1:=Rat.inv_mul_cancel _ (by grind)
  have:(((sh s.2).1-(sh s.1).1)⁻¹-i)*((sh s.2).1-(sh s.1).1)=0:=by grind
  rcases Rat.mul_eq_zero.1 this with g | g <;> grind
 have hip:0≤i:=by
  refine Classical.byContradiction fun k=>?_
  have:=Rat.mul_pos (a := -i) (b:=(sh s.2).1-(sh s.1).1) (by grind) (by grind)
  grind
 have a:=Rat.mul_nonneg (a:=x-(sh s.1).1) (b:=i) (by grind) hip
 have b:=Rat.mul_nonneg (a:=(sh s.2).1-x) (b:=i) (by grind) hip
 have hx:x=(sh s.1).1+(x-(sh s.1).1)*(i*((sh s.2).1-(sh s.1).1)):=by rw[hi];grind
 refine⟨(x-(sh s.1).1)*i,⟨by grind,by grind⟩,?_,?_,fun k=>?_,fun k=>?_⟩
 ·unfold Plane.ht Plane.sl shE
  dsimp only
  rw[hie]
  unfold lerp toQ sh
  dsimp only
  grind
 ·have e1:4194304*(lerp (toQ s.1) (toQ s.2) ((x-(sh s.1).1)*i)).1+(lerp (toQ s.1) (toQ s.2) ((x-(sh s.1).1)*i)).2=(sh s.1).1+(x-(sh s.1).1)*(i*((sh s.2).1-(sh s.1).1)):=by
   have a1:(sh s.1).1=4194304*(s.1.1:Rat)+s.1.2:=by unfold sh;push_cast;rfl
   have a2:(sh s.2).1=4194304*(s.2.1:Rat)+s.2.2:=by unfold sh;push_cast;rfl
   rw[a1,a2]
   unfold lerp toQ
   dsimp only
   grind
  rw[e1];exact hx
 ·have:(x-(sh s.1).1)*(i*((sh s.2).1-(sh s.1).1))=0:=by
   have e:(x-(sh s.1).1)*(i*((sh s.2).1-(sh s.1).1))=((x-(sh s.1).1)*i)*((sh s.2).1-(sh s.1).1):=by grind
   rw[e,k];grind
  grind
 ·have:(x-(sh s.1).1)*(i*((sh s.2).1-(sh s.1).1))=(sh s.2).1-(sh s.1).1:=by
   have e:(x-(sh s.1).1)*(i*((sh s.2).1-(sh s.1).1))=((x-(sh s.1).1)*i)*((sh s.2).1-(sh s.1).1):=by grind
   rw[e,k];grind
  grind
def endsL(E:List Sg):List Pt2:=hullS (E.flatMap fun s=>[s.1,s.2])
theorem ends_mem{E:List Sg}{p:Pt2}:p∈endsL E↔∃ s∈E,s.1=p∨s.2=p:=by
 unfold endsL
 rw[hullS_mem,List.mem_flatMap]
 constructor
 ·rintro⟨s,hs,h⟩
  simp only[List.mem_cons,List.not_mem_nil,or_false] at h
  exact⟨s,hs,h.imp Eq.symm Eq.symm⟩
 ·rintro⟨s,hs,h⟩
  exact⟨s,hs,by simp only[List.mem_cons,List.not_mem_nil,or_false];exact h.imp Eq.symm Eq.symm⟩
theorem fix_drawn{cs:List (List Pt2)}(h:Inv cs)(hf:stepC cs=cs):Plane.Drawn ((endsL (edgL cs)).map sh) ((edgL cs).map shE):=by
 have way:∀ s∈edgL cs,(sh s.1).1<(sh s.2).1:=fun s hs=>sh_lt (h.eok s hs).1 (h.eok s hs).2.1 (edg_lx h hs)
 have okE:∀ p∈endsL (edgL cs),okP p.1 p.2=true:=fun p hp=>by
  obtain⟨s,hs,rfl | rfl⟩:=ends_mem.1 hp
  ·exact(h.eok s hs).1
  ·exact(h.eok s hs).2.1
 refine⟨fun e he=>?_,fun e he=>?_,fun e he=>?_,fun p hp q hq hpq=>?_,fun p hp=>?_,fun e he f hf' hne x x1 x2 x3 x4 x5=>?_⟩
 ·obtain⟨s,hs,rfl⟩:=List.mem_map.1 he
  exact way s hs
 ·obtain⟨s,hs,rfl⟩:=List.mem_map.1 he
  exact List.mem_map.2 ⟨s.1,ends_mem.2 ⟨s,hs,.inl rfl⟩,rfl⟩
 ·obtain⟨s,hs,rfl⟩:=List.mem_map.1 he
  exact List.mem_map.2 ⟨s.2,ends_mem.2 ⟨s,hs,.inr rfl⟩,rfl⟩
 ·obtain⟨p',hp',rfl⟩:=List.mem_map.1 hp
  obtain⟨q',hq',rfl⟩:=List.mem_map.1 hq
  rw[sh_inj (okE p' hp') (okE q' hq') hpq]
 ·obtain⟨p',hp',rfl⟩:=List.mem_map.1 hp
  obtain⟨s,hs,k⟩:=ends_mem.1 hp'
  exact⟨shE s,List.mem_map.2 ⟨s,hs,rfl⟩,k.imp (fun k=>by rw[← k];rfl) (fun k=>by rw[← k];rfl)⟩
 ·obtain⟨s,hs,rfl⟩:=List.mem_map.1 he
  obtain⟨t,ht,rfl⟩:=List.mem_map.1 hf'
  have hst:s≠t:=fun k=>hne (by rw[k])
  obtain⟨l,hl,a1,a2,a3,a4⟩:=sh_lerp (way s hs) x1 x2
  obtain⟨m,hm,b1,b2,b3,b4⟩:=sh_lerp (way t ht) x3 x4
  have c2:(lerp (toQ s.1) (toQ s.2) l).2=(lerp (toQ t.1) (toQ t.2) m).2:=by rw[← a1,← b1];exact x5
  have c1:(lerp (toQ s.1) (toQ s.2) l).1=(lerp (toQ t.1) (toQ t.2) m).1:=by grind
  have k:=fix_common h hf hs ht hst hl hm (Prod.ext c1 c2)
  exact⟨k.1.imp a3 a4,k.2.imp b3 b4⟩
theorem shE_inj{s t:Sg}(hs:SgOk s)(ht:SgOk t)(h:shE s=shE t):s=t:=by
 have h1:sh s.1=sh t.1:=congrArg Prod.fst h
 have h2:sh s.2=sh t.2:=congrArg Prod.snd h
 exact Prod.ext (sh_inj hs.1 ht.1 (by rw[h1])) (sh_inj hs.2.1 ht.2.1 (by rw[h2]))
theorem srtG_nodup{E:List Sg}(h:SrtG E):E.Nodup:=List.Pairwise.imp (fun {x y} (hxy:lxG x y=true) (e:x=y)=>by rw[e,lxG_irr] at hxy;cases hxy) h
theorem fix_len{cs:List (List Pt2)}(h:Inv cs)(hf:stepC cs=cs):(edgL cs).length≤3*(hotL (edgL cs)).length:=by
 have hn:((edgL cs).map shE).Nodup:=by
  rw[List.Nodup,List.pairwise_map]
  exact(srtG_nodup (edg_srt cs)).imp_of_mem fun {x y} hx hy hne e=>hne (shE_inj (h.eok x hx) (h.eok y hy) e)
 have:=Plane.bound (fix_drawn h hf) hn
 rw[List.length_map,List.length_map] at this
 have h2:(endsL (edgL cs)).length≤(hotL (edgL cs)).length:=by
  unfold endsL hotL
  refine hull_le_of_sub fun p hp=>hullS_mem.1 ?_
  obtain⟨s,hs,k⟩:=List.mem_flatMap.1 hp
  simp only[List.mem_cons,List.not_mem_nil,or_false] at k
  rcases k with rfl | rfl
  ·exact(hot_end hs).1
  ·exact(hot_end hs).2
 omega
theorem outS_tri(l:List Sg):∀ k,(outS l k).length*2≤k*(k+3)
 | 0=>by simp[outS]
 | k+1=>by
  have ih:=outS_tri l k
  have h2:=innS_len l (sgAt l k) k
  rw[outS_succ]
  simp only[List.length_append,List.length_cons,List.length_nil]
  have e:(k+1)*(k+1+3)=k*(k+3)+2*k+4:=by grind
  omega
theorem hot_90{m:List Sg}(h:m.length≤12):(hotL (edgL (cs0 m))).length≤90:=by
 have hE:(edgL (cs0 m)).length≤12:=by
  unfold edgL
  have h1:=cmpG_le (srtG (edgA (cs0 m) (cs0 m).length))
  have h2:(srtG (edgA (cs0 m) (cs0 m).length)).length=(edgA (cs0 m) (cs0 m).length).length:=by unfold srtG;simp
  have h3:=edgA_len (cs:=cs0 m) (M:=1) (fun i hi=>by rw[cs0_at (by simpa[cs0] using hi)];simp) (cs0 m).length (Nat.le_refl _)
  have h4:(cs0 m).length=m.length:=by simp[cs0]
  omega
 have h1:=outS_tri (edgL (cs0 m)) (edgL (cs0 m)).length
 have h2:(hotL (edgL (cs0 m))).length≤(outS (edgL (cs0 m)) (edgL (cs0 m)).length).length:=hull_len_le fun p hp=>hp
 have h3:=Nat.mul_le_mul hE (show(edgL (cs0 m)).length+3≤15 by omega)
 omega
theorem rnd_again{m E:List Sg}(hm:m.length≤12)(hok:∀ s∈m,SgOk s)(h:IsRnd m E)(hne:E≠[]) :
  E.length≤270∧RunC (cs0 E) 0∧StepOk (iterC (0+1) (cs0 E))∧edgL (iterC (0+1) (cs0 E))=E:=by
 rcases h with⟨-,rfl⟩ | ⟨hm0,N,hN,rfl⟩
 ·exact absurd rfl hne
 ·obtain⟨hI,hW⟩:=cs0_inv hok
  have hit:=iter_inv hI hW N
  have hi:=hit.1
  have hf:=fixed_of hi hN.last
  have e:iterC (N+1) (cs0 m)=iterC N (cs0 m):=hf
  rw[e] at hne ⊢
  obtain⟨cs,hcs⟩:∃ cs,cs=iterC N (cs0 m):=⟨_,rfl⟩
  have h90:=Nat.le_trans hit.2.2 (hot_90 hm)
  rw[← hcs] at hi hf h90 hne ⊢
  have hlen:=fix_len hi hf
  obtain⟨hI2,hW2⟩:=cs0_inv hi.eok
  have hE:edgL (cs0 (edgL cs))=edgL cs:=edg_ext fun s=>by
   constructor
   ·intro hs
    obtain⟨C,hC,p,q,k,rfl⟩:=edg_mem.1 hs
    obtain⟨t,ht,rfl⟩:=List.mem_map.1 hC
    rcases adj_cons k with⟨rfl,rfl⟩ | ⟨u,v,e⟩
    ·rcases ordE_cases t.1 t.2 with o | o
     ·rw[o];exact ht
     ·have:=ord_lx t.1 t.2 (hi.eok t ht).2.2
      rw[o] at this
      exact(lx_asy this (edg_lx hi ht)).elim
    ·have:=congrArg List.length e
     simp at this;omega
   ·intro hs
    refine edg_mem.2 ⟨[s.1,s.2],List.mem_map.2 ⟨s,hs,rfl⟩,s.1,s.2,⟨[],[],rfl⟩,?_⟩
    rcases ordE_cases s.1 s.2 with o | o
    ·rw[o]
    ·have:=ord_lx s.1 s.2 (hi.eok s hs).2.2
     rw[o] at this
     exact(lx_asy this (edg_lx hi hs)).elim
  have hH:=hot_ok hi.eok
  have hfix:stepC (cs0 (edgL cs))=cs0 (edgL cs):=by
   unfold stepC
   rw[hE]
   refine(List.map_congr_left (g:=id) fun C hC=>?_).trans (List.map_id _)
   obtain⟨s,hs,rfl⟩:=List.mem_map.1 hC
   obtain⟨p,q,hpq,hthr,-,op,oq,-⟩:=fix_org hi hf hs
   have ht:thrL s.1 s.2 (hotL (edgL cs))=[s.1,s.2]:=by
    rcases hpq with rfl | rfl
    ·exact hthr
    ·show thrL q p _=[q,p]
     rw[thr_rev hH op oq,hthr];rfl
   show nextC _ [s.1,s.2]=[s.1,s.2]
   simp[nextC,nextG,pAt,ht]
  have hst:StepOk (cs0 (edgL cs)):=by
   refine step_okE hI2 hW2 ?_ ?_ ?_ ?_
   ·intro k
    unfold cs0 at k
    exact hne (List.map_eq_nil_iff.1 k)
   ·unfold cs0;rw[List.length_map];omega
   ·rw[hE];omega
   ·rw[hE];omega
  have e1:iterC (0+1) (cs0 (edgL cs))=cs0 (edgL cs):=hfix
  refine⟨by omega,⟨fun k hk=>?_,fun k hk=>absurd hk (Nat.not_lt_zero _),?_⟩,?_,?_⟩
  ·rw[Nat.le_zero.1 hk];exact hst
  ·rw[e1];rfl
  ·rw[e1];exact hst
  ·rw[e1];exact hE
end
section
open Go.RowKit Go.BigFrame
attribute [local go_sem ↓] eqPt neqPt
section
variable [Tgt]
theorem three_T{w w' : World}{g:Nat}{t:TypeId}{a b c u v x:Value}(h:SinceT w w')(k:Blk w g t #[a,b,c])(hT:Tgt.T g=some (.cells #[u,v,x] t (0,0))):∃ p q r,Blk w' g t #[p,q,r]:=by
 rcases h.2.2.2.2 g k.lt with e | ⟨o,e,e2⟩
 ·exact⟨a,b,c,e.trans k⟩
 ·rw[hT] at e;injection e with e;subst e;exact⟨u,v,x,e2⟩
theorem store3_T{w:World}{g:Nat}{t:TypeId}{a b c u v x:Value}(k:Blk w g t #[a,b,c])(hT:Tgt.T g=some (.cells #[u,v,x] t (0,0))) :
  Blk (((w.setCell ⟨g,0,none⟩ u).setCell ⟨g,1,none⟩ v).setCell ⟨g,2,none⟩ x) g t #[u,v,x]∧SinceT w (((w.setCell ⟨g,0,none⟩ u).setCell ⟨g,1,none⟩ v).setCell ⟨g,2,none⟩ x):=by
 have h1:Blk (((w.setCell ⟨g,0,none⟩ u).setCell ⟨g,1,none⟩ v).setCell ⟨g,2,none⟩ x) g t #[u,v,x]:=((k.set_ 0 u).set_ 1 v).set_ 2 x
 have hO:Only g w (((w.setCell ⟨g,0,none⟩ u).setCell ⟨g,1,none⟩ v).setCell ⟨g,2,none⟩ x):=((((Since.rfl_ w).only g).setCell (.inl rfl) u).setCell (.inl rfl) v).setCell (.inl rfl) x
 refine⟨h1,hO.os,hO.tape,hO.output,hO.size,fun i hi=>?_⟩
 by_cases e:i=g
 ·subst e;exact .inr ⟨_,hT,h1⟩
 ·exact .inl (hO.block i hi (fun k=>e (by injection k)))
end
theorem own_kept{w w' : World}{b B k n:Nat}{t:TypeId}{v:Value}{xs:List Value}(h:w.ownsRow b t k v n xs)(hg:w.grownBy w' (some B))(hB:B<b):w'.ownsRow b t k v n xs:=by
 obtain⟨h1,h2 | ⟨g,cap,cur,hv,hb,hh,hr⟩⟩:=h
 ·exact⟨h1,.inl h2⟩
 ·exact⟨h1,.inr ⟨g,cap,cur,hv,hb,(hg.block g (Blk.lt hh) (fun e=>by injection e;omega)).trans hh,hr⟩⟩
theorem IntsB.mono{w:World}{v:Value}{l:List Int}{B B' : Nat}(h:IntsB w v l B)(k:B≤B'):IntsB w v l B' := by
 obtain⟨a,c,hv,hc,hm,h⟩:=h
 refine⟨a,c,hv,hc,hm,fun i hi=>?_⟩
 obtain⟨g,o,ha,hg,h1⟩:=h i hi
 exact⟨g,o,ha,Nat.lt_of_lt_of_le hg k,h1⟩
theorem BldR.lenH{E:List Sg}{P:List Pt2}{H:List Hf}{F:List Int}(h:BldR E P H F):H.length=2*E.length:=by
 obtain⟨O,C,I,T,-,-,-,-,hH,-⟩:=h
 rw[hH,mkH_len]
theorem fac1_pos(I T:List Int):∀ m,0<(fac1 I T m).2.length
 | 0=>by simp[fac1]
 | m+1=>by
  rw[fac1_succ]
  split
  ·simp
  ·exact fac1_pos I T m
theorem BldR.lenF{E:List Sg}{P:List Pt2}{H:List Hf}{F:List Int}(h:BldR E P H F):0<F.length:=by
 obtain⟨O,C,I,T,-,-,-,-,-,hF⟩:=h
 rw[hF,fac3_len]
 exact fac1_pos I T _
def BltR(w:World)(b:Nat)(E:List Sg)(x vP vH vF:Value)(P:List Pt2)(H:List Hf)(F:List Int):Prop :=
 SegsN w x E∧RndOk E∧E.length≤270∧MapS w b vP vH vF P H F∧BldR E P H F
theorem BltR.since{w w' : World}{b:Nat}{E:List Sg}{x vP vH vF:Value}{P:List Pt2}{H:List Hf}{F:List Int}(h:BltR w b E x vP vH vF P H F)(k:Since w w'):BltR w' b E x vP vH vF P H F :=
 ⟨h.1.since k,h.2.1,h.2.2.1,h.2.2.2.1.since k,h.2.2.2.2⟩
set_option maxRecDepth 100000 in
set_option maxHeartbeats 4000000 in
theorem Built_any(v:Value)(l:List Int)(w:World)(hi:IntsB w v l w.heap.size)(hlen:l.length≤9223372036854775807) :
  Calls Tryz.prog 11 #[v] w fun e w' => ∃ (x vP vH vF:Value) (E:List Sg) (P:List Pt2) (H:List Hf) (F:List Int),e=.returned (.tuple #[.agg #[vP,vH,vF],x,.bool true])∧Since w w' ∧ BltR w' w.heap.size E x vP vH vF P H F:=by
 have HSEG:Hid (∀ w',Since w w' → Calls Tryz.prog 38 #[v] w' fun e w2=>∃ x,e=.returned x∧SegsN w2 x (msegs l)∧Since w' w2):=fun w' k =>
  (Segs_any v l w' ((hi.since k).mono k.size) hlen).mono fun e w2 ⟨x,h1,h2,h3,h4⟩=>⟨x,h1,own_segsN h2 h4,h3⟩
 clear hi
 obtain⟨B,HB⟩:∃ B,Hid (B=w.heap.size):=⟨_,rfl⟩
 rw[← HB.out]
 go_enter Tryz.func11,Tryz.ntmps11
 go_upto_region 1 with fail
 rw[← HB.out]
 refine atW (fun w' => Hid (Since w w')∧Hid (Blk w' B 26 #[.slice none 0 0,.slice none 0 0,.slice none 0 0])) ⟨(Since.rfl_ w).alloc _,Blk.new' HB.out⟩ ?_
 rintro w1 ⟨HS1,HB1⟩
 go_wp2_with fail
 refine(HSEG.out _ HS1.out).mono ?_
 rintro e w2 ⟨x0,rfl,hx,hs⟩
 have HRM:=Lib.hid (Round_m x0 (msegs l) w2 hx (msegs_len l) (msegs_ok l))
 have HS2:Hid (Since w w2):=HS1.out.trans hs
 have HB2:=Lib.hid (hs.blk HB1.out)
 clear hx hs HS1 HB1 HSEG
 go_wp2_with fail
 refine(HRM.out).mono ?_
 rintro e w3 ⟨x,E,rfl,hE,ho,hn,hs⟩
 have HS3:Hid (Since w w3):=HS2.out.trans hs
 have HB3:=Lib.hid (hs.blk HB2.out)
 have HX3:=Lib.hid (own_segsN ho hn)
 have HO3:=Lib.hid ho
 have HNX:=Lib.hid hn
 obtain⟨B2,HBB⟩:∃ b,Hid (b=w2.heap.size):=⟨_,rfl⟩
 have hB2:B<B2:=by rw[HBB.out];exact HB2.out.lt
 rw[← HBB.out] at HO3
 have HOK:Hid (RndOk E):=hE.good (msegs_ok l)
 have HL:Hid (E.length≤270):=by
  by_cases hne:E=[]
  ·subst hne;exact Nat.zero_le _
  ·exact(rnd_again (msegs_len l) (msegs_ok l) hE hne).1
 clear hE ho hn hs HRM HS2 HB2
 go_wp2_with fail
 refine(rounds_any _).mono ?_
 rintro e w4 ⟨rfl,hs⟩
 have HS4:Hid (Since w w4):=HS3.out.trans hs
 have HB4:=Lib.hid (hs.blk HB3.out)
 have HX4:=Lib.hid (HX3.out.since hs)
 have HO4:=Lib.hid (own_since hs HO3.out)
 obtain⟨B4,HBC⟩:∃ b,Hid (b=w4.heap.size):=⟨_,rfl⟩
 have hB4:B<B4:=by rw[HBC.out];exact HB4.out.lt
 clear hs HS3 HB3 HX3 HO3
 have HBD:=Lib.hid (Build_any x E w4 HX4.out HOK.out (Nat.le_trans HL.out (by decide)))
 obtain⟨aX,cX,hvX⟩:=HX4.out.slice
 subst hvX
 obtain⟨n,HN⟩:∃ n,Hid (n=E.length):=⟨_,rfl⟩
 rw[← HN.out] at HX4 HBD ⊢
 go_wp2_with fail
 refine(HBD.out).mono ?_
 rintro e w5 ⟨vP,vH,vF,P,H,F,rfl,hs,hm,hb⟩
 have HS5:Hid (Since w w5):=HS4.out.trans hs
 have HB5:=Lib.hid (hs.blk HB4.out)
 have HX5:=Lib.hid (HX4.out.since hs)
 have HM5:Hid (MapS w5 B4 vP vH vF P H F):=by rw[HBC.out];exact hm
 have HO5:=Lib.hid (own_since hs HO4.out)
 have HBR:=Lib.hid hb
 obtain⟨⟨aP,cP,rfl,-⟩,⟨aH,cH,rfl,-⟩,⟨aF,cF,rfl,-⟩⟩:=hm.read
 clear hs hm hb HS4 HB4 HX4 HBD HO4
 go_upto_region 5 with fail
 obtain⟨GM,HGM⟩:∃ G,Hid (G=w5.heap.size):=⟨_,rfl⟩
 obtain⟨nP,HNP⟩:∃ n,Hid (n=P.length):=⟨_,rfl⟩
 obtain⟨nH,HNH⟩:∃ n,Hid (n=H.length):=⟨_,rfl⟩
 obtain⟨nF,HNF⟩:∃ n,Hid (n=F.length):=⟨_,rfl⟩
 have hn2:n≤270:=by rw[HN.out];exact HL.out
 have HH2:Hid (nH=2*n):=by show _=_;rw[HNH.out,HN.out];exact HBR.out.lenH
 have hF0:decide ((0:Int)<(nF:Int))=true:=by rw[decide_eq_true_eq,HNF.out];have:=HBR.out.lenF;omega
 have hnF:0<nF:=by rw[HNF.out];exact HBR.out.lenF
 have hF1:decide (0<nF)=true:=decide_eq_true hnF
 have hEq:((nH:Int) == 2*(n:Int))=true:=by rw[beq_iff_eq];have:=HH2.out;omega
 have hwm:wrap64 (2*(n:Int))=(nH:Int):=(wrap_id (x:=2*(n:Int)) (by omega)).trans (by have:=HH2.out;omega)
 rw[← HNP.out,← HNH.out,← HNF.out,← HGM.out]
 have HW6:Hid (Since w5 (w5.alloc (.cells #[.slice aP nP cP,.slice aH nH cH,.slice aF nF cF] 26))∧Blk (w5.alloc (.cells #[.slice aP nP cP,.slice aH nH cH,.slice aF nF cF] 26)) B 26 #[.slice none 0 0,.slice none 0 0,.slice none 0 0]∧Blk (w5.alloc (.cells #[.slice aP nP cP,.slice aH nH cH,.slice aF nF cF] 26)) GM 26 #[.slice aP nP cP,.slice aH nH cH,.slice aF nF cF]) :=
  ⟨(Since.rfl_ w5).alloc _,HB5.out.alloc _,Blk.new' HGM.out⟩
 have hgB:w.heap.size≤B:=by rw[HB.out];exact Nat.le_refl _
 refine atW (fun w' => Hid (Since w5 w' ∧ Blk w' B 26 #[.slice none 0 0,.slice none 0 0,.slice none 0 0]∧Blk w' GM 26 #[.slice aP nP cP,.slice aH nH cH,.slice aF nF cF])) HW6 ?_
 clear HW6
 rintro w6 HW6
 letI TT:Tgt:=⟨fun g=>if g=B then some (.cells #[.slice aP nP cP,.slice aH nH cH,.slice aF nF cF] 26) else none⟩
 have KT:∀ g,g≠B→Tgt.T g=none:=fun g h1=>by
  show(if _ then _ else _)=_
  rw[if_neg h1]
 have K3:Tgt.T B=some (.cells #[.slice aP nP cP,.slice aH nH cH,.slice aF nF cF] 26 (0,0)):=if_pos rfl
 have hGB:GM≠B:=fun e=>by have:=HB5.out.lt;rw[← e,HGM.out] at this;omega
 have KF:=Lib.hid (fun w' (k:SinceT w6 w')=>(show w'.cell? ⟨GM,0,none⟩=some (.slice aP nP cP)∧w'.cell? ⟨GM,1,none⟩=some (.slice aH nH cH)∧w'.cell? ⟨GM,2,none⟩=some (.slice aF nF cF) from
  ⟨(k.blk (KT _ hGB) HW6.out.2.2).cell 0,(k.blk (KT _ hGB) HW6.out.2.2).cell 1,(k.blk (KT _ hGB) HW6.out.2.2).cell 2⟩))
 have hl6:B<w6.heap.size:=HW6.out.2.1.lt
 apply region_factsT 22 (fun w' => SinceT w6 w')
 case hm=>kernel_rfl
 case hB=>kernel_rfl
 case hS=>exact(SinceT.rfl_ w6).drew
 case hmono=>exact(fun _ _ h k=>h.trans k)
 case hTb=>exact(fun g hg=>KT g (by omega))
 case h =>
 simp only[List.take_succ_cons,List.take_zero,List.drop_succ_cons,List.drop_zero]
 iterate 19 (apply wpO_detT;(case hw=>rfl);(case h=>intro hFm wx hS_ hF_ K hK;go_big_quiet_op;first | exact hK _ rfl | (apply Exists.intro;refine⟨fun _=>?_,?_⟩;(focus (first | (intro hC;have hC:=KF.out _ hC.out.1;(try simp only[hC,Result.andThen]);first | exact⟨True.intro,rfl⟩ | exact⟨rfl,rfl⟩ | rfl)));exact hK _ rfl));(case' k=>simp only[Act.put,List.setIfInBounds_toArray,List.set_cons_succ,List.set_cons_zero,List.cons_append,List.nil_append]))
 apply wpO_anyT (R:=(fun _ w' => Blk w' B 26 #[.slice aP nP cP,.slice aH nH cH,.slice aF nF cF]))
 case hR=>exact(fun _ _ _ h k=>k.blkT K3 h)
 case hw=>rfl
 case h =>
  intro wx hS_ hF_
  unfold runVT
  (obtain⟨x1,x2,x3,hb⟩:=three_T hS_ HW6.out.2.1 K3;have c0:=hb.cell 0;have c1:=hb.cell 1;have c2:=hb.cell 2;have f0:=hb.frozen 0;have f1:=hb.frozen 1;have f2:=hb.frozen 2;simp only[List.getElem?_toArray,List.getElem?_cons_zero,List.getElem?_cons_succ] at c0 c1 c2;have hr:=Lib.hid (store3_T hb K3);simp[go_sem,c0,c1,c2,f0,f1,f2,cSetS,cSetO];exact hr.out)
 case k =>
 intro v3
 simp only[Act.put,List.setIfInBounds_toArray,List.set_cons_succ,List.set_cons_zero,List.cons_append,List.nil_append]
 iterate 2 (apply wpO_detT;(case hw=>rfl);(case h=>intro hFm wx hS_ hF_ K hK;go_big_quiet_op;first | exact hK _ rfl | (apply Exists.intro;refine⟨fun _=>?_,?_⟩;(focus (first | (intro hC;have hC:=hC.out;(try simp only[hC,Result.andThen]);first | exact⟨True.intro,rfl⟩ | exact⟨rfl,rfl⟩ | rfl)));exact hK _ rfl));(case' k=>simp only[Act.put,List.setIfInBounds_toArray,List.set_cons_succ,List.set_cons_zero,List.cons_append,List.nil_append]))
 refine wpO_nilT ?_
 intro w7 hS hF hB
 (try simp[allF] at hF)
 (try simp[List.pairwise_cons] at hB)
 have hg:=hS.grown KT
 have HS7:Hid (Since w w7):=hS.since (HS5.out.trans HW6.out.1) (fun g hg=>KT g (by omega))
 have HM7:Hid (MapS w7 B (.slice aP nP cP) (.slice aH nH cH) (.slice aF nF cF) P H F):=by
  rw[HNP.out,HNH.out,HNF.out]
  exact Rws.mono (Rws.kept (HM5.out.since HW6.out.1) hg (fun i r hi=>.inr fun e=>own_ne ((HM5.out.since HW6.out.1).ok i r hi) hB4 e.symm)) (Nat.le_of_lt hB4)
 have HX7:Hid (SegsN w7 (.slice aX n cX) E):=by
  rw[HN.out]
  exact own_segsN (own_kept (own_since HW6.out.1 HO5.out) hg hB2) HNX.out
 have HB7:=Lib.hid hF
 clear hS hB hF hg K3 KT KF HW6 HM5 HO5 HX5 HB5
 have c0:w7.cell? ⟨B,0,none⟩=some (.slice aP nP cP):=HB7.out.cell 0
 have c1:w7.cell? ⟨B,1,none⟩=some (.slice aH nH cH):=HB7.out.cell 1
 have c2:w7.cell? ⟨B,2,none⟩=some (.slice aF nF cF):=HB7.out.cell 2
 go_wp2_with fail
 refine bodyPost_ret (v:=.tuple #[.agg #[.slice aP nP cP,.slice aH nH cH,.slice aF nF cF],.slice aX n cX,.bool true]) (by simp[results,Tryz.results11,go_sem,cSetS,cSetO,cellDrew,c0,c1,c2]) rfl ⟨_,_,_,_,E,P,H,F,rfl,HS7.out,HX7.out,HOK.out,HL.out,HM7.out,HBR.out⟩
end
section
open Go.RowKit Go.BigFrame
def nwL:List Value:=[.int .i64 7,.int .i64 50]
structure GK(N0 n1:Nat)(xs:List Value)(w w' : World):Prop where
 os:w'.os=w.os
 tape:w'.tape=w.tape
 output:w'.output=w.output
 size:w.heap.size≤w'.heap.size
 block:∀ i,i<N0→i<w.heap.size→w'.heap[i]? = w.heap[i]?
 keep:∀ g t cs,t≠3→Blk w g t cs→Blk w' g t cs
 lit:∀ g,Blk w g 3 nwL.toArray→Blk w' g 3 nwL.toArray
 pre:∀ v,w.ownsRow N0 3 1 v n1 xs→w'.ownsRow N0 3 1 v n1 xs
 post:∀ v,w.ownsRow N0 3 1 v (n1+2) (xs++nwL)→w'.ownsRow N0 3 1 v (n1+2) (xs++nwL)
section
variable {N0 n1 : Nat} {xs : List Value} {w w' w'' : World}
theorem GK.of(h:Since w w'):GK N0 n1 xs w w' :=
 ⟨h.os,h.tape,h.output,h.size,fun i _ hi=>h.block i hi,fun g t cs _ k=>h.blk k,fun g k=>h.blk k,fun v k=>own_since h k,fun v k=>own_since h k⟩
theorem GK.trans(h:GK N0 n1 xs w w')(k:GK N0 n1 xs w' w''):GK N0 n1 xs w w'' :=
 ⟨k.os.trans h.os,k.tape.trans h.tape,k.output.trans h.output,Nat.le_trans h.size k.size,fun i h0 hi=>(k.block i h0 (Nat.lt_of_lt_of_le hi h.size)).trans (h.block i h0 hi),fun g t cs hn b=>k.keep g t cs hn (h.keep g t cs hn b),fun g b=>k.lit g (h.lit g b),fun v b=>k.pre v (h.pre v b),fun v b=>k.post v (h.post v b)⟩
theorem GK.since(h:GK N0 n1 xs w w')(hN:w.heap.size=N0):Since w w' := ⟨h.os,h.tape,h.output,h.size,fun i hi=>h.block i (by omega) hi⟩
end
@[reducible] def gkH (N0 n1 : Nat) (xs : List Value) : RegG where
 base:=N0
 keep:=fun t=>t≠3
 G:=GK N0 n1 xs
 rfl_ w:=.of (Since.rfl_ w)
 trans_ h k:=h.trans k
 size_ h:=h.size
 of_ h:=.of h
 new_ h:=fun hk _ b=>h.keep _ _ _ hk b
set_option maxRecDepth 100000 in
theorem gk_app{N0 n1:Nat}{xs:List Value}(hn1:n1≤1){v:Value}{w:World}(hpre:w.ownsRow N0 3 1 v n1 xs)(hN:N0≤w.heap.size){g2:Nat}(h2:Blk w g2 3 nwL.toArray)(ty:TypeId)(c:Nat) :
  ∃ v' w',(Builtin.append_ #[22,22] ty #[v,.slice (some ⟨g2,0,none⟩) 2 c]).run Tryz.prog w=.ok v' w' ∧ w'.ownsRow N0 3 1 v' (n1+2) (xs++nwL)∧GK N0 n1 xs w w' := by
 obtain⟨i,hi,hz,hsize,hby⟩:=info_parts infoI
 have hnews:∀ j u,nwL[j]? = some u→w.cell? ((⟨g2,0,none⟩:Addr).add j)=some u:=fun j u hj=>by
  have e:(⟨g2,0,none⟩:Addr).add j=⟨g2,j,none⟩:=by unfold Addr.add;split <;> simp_all
  rw[e]
  exact(h2.cell j).trans (by rw[List.getElem?_toArray];exact hj)
 have h1:∀ u∈nwL,u.oneCell' = true:=fun u hu=>by
  simp only[nwL,List.mem_cons,List.not_mem_nil,or_false] at hu
  rcases hu with rfl | rfl <;> rfl
 obtain⟨v0,w0,hr,ho,hg,-,hloc⟩:=run_append_own_at (P:=Tryz.prog) w N0 22 ty 3 i _ 1 8 Tryz.underlying22 hi hz hsize hby rfl (by decide) v n1 xs hpre ⟨g2,0,none⟩ 2 c nwL rfl hnews h1 (by unfold maxLen;omega) (by omega) hN
 rcases hpre with⟨hxl,⟨hv,hn⟩ | ⟨g,cap,cur,hv,hB,hgb,hnc,hcm,hs,htk⟩⟩
 ·refine⟨v0,w0,hr,ho,.of ?_⟩
  rw[hv] at hg
  exact⟨hg.os,hg.tape,hg.output,hg.size,fun j hj=>hg.block j hj (by simp[Value.ownBlock])⟩
 ·have hpre' : w.ownsRow N0 3 1 (.slice (some ⟨g,0,none⟩) n1 cap) n1 xs:=⟨hxl,.inr ⟨g,cap,cur,rfl,hB,hgb,hnc,hcm,hs,htk⟩⟩
  rcases Nat.lt_or_ge cap (n1+2) with hlt | hge
  ·have hr2:=run_append_grow (P:=Tryz.prog) w 22 ty 3 i _ Tryz.underlying22 hi hz ⟨g,0,none⟩ n1 cap xs (by rw[hsize];exact hxl) (fun j u hj=>by
    have e:(⟨g,0,none⟩:Addr).add j=⟨g,j,none⟩:=by unfold Addr.add;split <;> simp_all
    rw[e]
    have hj' : j<n1*1:=by rw[← hxl];exact(List.getElem?_eq_some_iff.1 hj).1
    rw[hpre'.cellAt j hj'];exact hj) ⟨g2,0,none⟩ 2 c nwL (by rw[hsize];rfl) hnews hlt (by omega) (by rw[hby];exact growslice_fits hlt (by omega))
   rw[← hv,hr] at hr2
   injection hr2 with e1 e2
   refine⟨v0,w0,hr,ho,.of ?_⟩
   rw[e2]
   exact(Since.rfl_ w).drew.alloc _
  ·obtain⟨w1,hr2,ho2,hg2⟩:=run_append_fits (P:=Tryz.prog) w N0 22 ty 3 i 1 Tryz.underlying22 hi hsize g n1 cap xs hpre' ⟨g2,0,none⟩ 2 c nwL rfl hnews h1 hge
   rw[← hv] at hr2
   obtain⟨hxl2,⟨k1,-⟩ | ⟨g3,cap3,cur3,k1,kB,kgb,knc,kcm,ks,ktk⟩⟩:=ho2
   ·cases k1
   injection k1 with k1 _ k3
   injection k1 with k1
   injection k1 with k1
   subst k1 k3
   have same:∀ {v' : Value} {n' : Nat} {ys:List Value},v'.ownBlock=some g→w.ownsRow N0 3 1 v' n' ys→v' = .slice (some ⟨g,0,none⟩) n' cap∧n' ≤ cap∧cur.toList.take (n' * 1)=ys∧ys.length=n' * 1:=fun {v' n' ys} e hp=>by
    obtain⟨yl,⟨q,-⟩ | ⟨g',cap',cur',q,qB,qgb,qnc,qcm,qs,qtk⟩⟩:=hp
    ·rw[q] at e;cases e
    ·rw[q] at e
     injection e with e
     dsimp only at e
     subst e
     rw[hgb] at qgb
     injection qgb with qgb
     injection qgb with qc
     subst qc
     have:cap=cap' := by omega
     subst this
     exact⟨q,qnc,qtk,yl⟩
   refine⟨_,w1,hr2,⟨hxl2,.inr ⟨g,cap,cur3,rfl,kB,kgb,knc,kcm,ks,ktk⟩⟩,hg2.os,hg2.tape,hg2.output,hg2.size,fun j h0 hj=>hg2.block j hj (fun e=>by injection e with e;omega),fun g' t cs hn b=>?_,fun g' b=>?_,fun v' hp=>?_,fun v' hp=>?_⟩
   ·refine(hg2.block g' b.lt (fun e=>?_)).trans b
    injection e with e
    have b2:=b
    unfold Blk at b2
    rw[e,hgb] at b2
    injection b2 with b2
    injection b2 with _ b3
    exact hn b3.symm
   ·by_cases e:g' = g
    ·subst e
     have b2:w.heap[g']? = _:=b
     rw[hgb] at b2
     injection b2 with b2
     injection b2 with b2
     have hc2:cur.size=2:=by rw[b2];rfl
     have h3:cur3.toList=nwL:=by
      have h0:n1=0:=by omega
      subst h0
      have hx0:xs=[]:=List.eq_nil_of_length_eq_zero (by omega)
      rw[hx0,List.nil_append] at ktk
      rw[← ktk,List.take_of_length_le (by rw[Array.length_toList];omega)]
     have h4:cur3=nwL.toArray:=by rw[← h3]
     show w1.heap[g']? = _
     rw[kgb,h4]
    ·exact(hg2.block g' b.lt (fun k=>e (by cases k;rfl))).trans b
   ·by_cases e:v'.ownBlock=some g
    ·obtain⟨q,q2,q3,q4⟩:=same e hp
     rw[q]
     exact own_prefix kgb ks kB hcm hnc (Nat.le_add_right _ _) hxl ktk
    ·exact hp.kept hg2 (.inr e)
   ·by_cases e:v'.ownBlock=some g
    ·obtain⟨q,q2,q3,q4⟩:=same e hp
     rw[q]
     exact⟨q4,.inr ⟨g,cap,cur3,rfl,kB,kgb,knc,kcm,ks,ktk⟩⟩
    ·exact hp.kept hg2 (.inr e)
end
end Go.Proofs.YtdnccjdlmepafaaGreat
