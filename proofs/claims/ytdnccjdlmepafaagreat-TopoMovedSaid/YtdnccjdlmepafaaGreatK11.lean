/-
  A region that draws its order, over whatever it may do to memory (a preorder under which new blocks stay); walked once in the order of the text; A set of points as a map's block. Conditions: those that each lemma names.
-/
import Derived.Test.YtdnccjdlmepafaaGreatK03
import Derived.Test.YtdnccjdlmepafaaGreatK05
import Derived.Maps.RangeWalk
import Derived.DeepKeys4
set_option linter.unusedSimpArgs false
set_option linter.unusedVariables false
set_option linter.constructorNameAsVariable false
namespace Go.Proofs.YtdnccjdlmepafaaGreat
section
open Go.RowKit Go.BigFrame
class RegG where
 base:Nat
 keep:TypeId→Prop
 G:World→World→Prop
 rfl_:∀ w,G w w
 trans_:∀ {a b c:World},G a b→G b c→G a c
 size_:∀ {a b:World},G a b→a.heap.size≤b.heap.size
 of_:∀ {a b:World},Since a b→G a b
 new_:∀ {a b:World},G a b→∀ {g:Nat} {t:TypeId} {cs:Array Value},keep t→base≤g→Blk a g t cs→Blk b g t cs
variable [RegG]
def SinceG(w w' : World):Prop:=RegG.G w w'
section
variable {a b c : World}
theorem SinceG.of(h:Since a b):SinceG a b:=RegG.of_ h
theorem SinceG.rfl_(w:World):SinceG w w:=RegG.rfl_ w
theorem SinceG.size(h:SinceG a b):a.heap.size≤b.heap.size:=RegG.size_ h
theorem SinceG.trans(h:SinceG a b)(k:SinceG b c):SinceG a c:=RegG.trans_ h k
theorem SinceG.alloc(h:SinceG a b)(o:Obj):SinceG a (b.alloc o):=h.trans (.of ((Since.rfl_ b).alloc o))
theorem SinceG.drew(h:SinceG a b):SinceG a b.drew:=h.trans (.of (Since.rfl_ b).drew)
theorem SinceG.blk(h:SinceG a b){g:Nat}{t:TypeId}{cs:Array Value}(hk:RegG.keep t)(hT:RegG.base≤g)(k:Blk a g t cs):Blk b g t cs:=RegG.new_ h hk hT k
end
def Spec.factG(base:Nat):Spec→Value→World→Prop
 | .det _,_,_=>True
 | .mk f t cs,v,w=>∃ g,v=f g∧Blk w g t cs∧base≤g∧RegG.base≤g
 | .any R,v,w=>R v w
def Spec.monoG:Spec→Prop
 | .any R=>∀ v w w',R v w→SinceG w w' → R v w'
 | .mk f t _=>(∀ g g',f g=f g' → g=g')∧RegG.keep t
 | _=>True
def runVG(P:Program)(o:Oper)(a:Act)(w:World)(post:Value→World→Prop):Prop :=
 match (execOp a.eval o).run P w with
 | .ok (.value v) w' => post v w'
 | .ok .skip w' => post undef w'
 | .ok (.enter f args) w' => Calls P f args w' fun e w'' => ∃ v,e=.returned v∧post v w''
 | _=>False
def Spec.asksG(P:Program)(ops:Array Oper)(S:World→Prop)(o:Oper)(a:Act)(F:World→Prop):Spec→Prop
 | .det c=>if Region.wanted o (yielded ops a.tmps)=true then(∀ w w',F w→SinceG w w' → F w')→∀ wx,S wx→F wx→o.quiet P a (Cls fun w' => S w' ∧ F w' ∧ SinceG wx w') (fun a' => a' = a.put o.dst c) else c=undef
 | .mk f t cs=>Region.wanted o (yielded ops a.tmps)=true∧∀ w,(execOp a.eval o).run P w=.ok (.value (f w.heap.size)) (w.alloc (.cells cs t))
 | .any R=>Region.wanted o (yielded ops a.tmps)=true∧∀ w,S w→F w→runVG P o a w fun v w' => R v w' ∧ SinceG w w'
def wpOG(P:Program)(ops:Array Oper)(S:World→Prop)(base:Nat)(K:Act→World→Prop):List Oper→List Spec→List (World→Prop)→List (Nat→Prop)→Act→Prop
 | [],[],Fs,Bs,a=>∀ w,S w→allF Fs w→Bs.Pairwise (fun p q=>∀ g g',p g→q g' → g≠g')→K a w
 | o :: l,s :: ss,Fs,Bs,a=>s.monoG∧s.asksG P ops S o a (factsOf Fs (pres o))∧∀ v,s.shape v→wpOG P ops S base K l ss (Fs++[s.factG base v]) (Bs++[s.blk v]) (a.put o.dst v)
 | _,_,_,_,_=>False
def factLG(base:Nat):List Spec→List Value→List (World→Prop)
 | s :: ss,v :: vs=>s.factG base v :: factLG base ss vs
 | _,_=>[]
section
variable {P : Program} {ops : Array Oper} {S : World → Prop} {base : Nat} {K : Act → World → Prop}
theorem wpO_lenG:∀ {l:List Oper} {ss:List Spec} {Fs:List (World→Prop)} {Bs:List (Nat→Prop)} {a:Act} {vs:List Value},wpOG P ops S base K l ss Fs Bs a→shapeL ss vs→l.length=ss.length
 | [],[],_,_,_,_,_,_=>rfl
 | o :: l,s :: ss,Fs,Bs,a,v :: vs,h,hs=>by simp[wpO_lenG (h.2.2 v hs.1) hs.2]
 | [],_ :: _,_,_,_,_,h,_=>by unfold wpOG at h;exact h.elim
 | _ :: _,[],_,_,_,_,h,_=>by unfold wpOG at h;exact h.elim
 | _ :: _,_ :: _,_,_,_,[],_,hs=>hs.elim
theorem wpO_getG:∀ {l:List Oper} {ss:List Spec} {Fs:List (World→Prop)} {Bs:List (Nat→Prop)} {a:Act} {vs:List Value},wpOG P ops S base K l ss Fs Bs a→shapeL ss vs →
  ∀ (i:Nat) (o:Oper) (s:Spec),l[i]? = some o→ss[i]? = some s→s.monoG∧s.asksG P ops S o (fr (l.take i) (vs.take i) a) (factsOf (Fs++factLG base (ss.take i) (vs.take i)) (pres o))
 | o :: l,s :: ss,Fs,Bs,a,v :: vs,h,hs,0,o',s',ho,hs' => by
  simp at ho hs'
  subst ho hs'
  simpa[fr,factLG] using ⟨h.1,h.2.1⟩
 | o :: l,s :: ss,Fs,Bs,a,v :: vs,h,hs,i+1,o',s',ho,hs' => by
  simp at ho hs'
  have:=wpO_getG (h.2.2 v hs.1) hs.2 i o' s' ho hs'
  simpa[fr,factLG] using this
 | [],_,_,_,_,_,_,_,_,_,_,ho,_=>by simp at ho
 | _ :: _,[],_,_,_,_,h,_,_,_,_,_,_=>by unfold wpOG at h;exact h.elim
 | _ :: _,_ :: _,_,_,_,[],_,hs,_,_,_,_,_=>hs.elim
theorem wpO_finG:∀ {l:List Oper} {ss:List Spec} {Fs:List (World→Prop)} {Bs:List (Nat→Prop)} {a:Act} {vs:List Value},wpOG P ops S base K l ss Fs Bs a→shapeL ss vs →
  ∀ w,S w→allF (Fs++factLG base ss vs) w→(Bs++blkL ss vs).Pairwise (fun p q=>∀ g g',p g→q g' → g≠g')→K (fr l vs a) w
 | [],[],Fs,Bs,a,[],h,_,w,hw,hf,hb=>by
  unfold wpOG at h
  exact h w hw (by simpa[factLG] using hf) (by simpa[blkL] using hb)
 | o :: l,s :: ss,Fs,Bs,a,v :: vs,h,hs,w,hw,hf,hb=>wpO_finG (h.2.2 v hs.1) hs.2 w hw (by simpa[factLG] using hf) (by simpa[blkL] using hb)
 | [],_ :: _,_,_,_,_,h,_,_,_,_,_=>by unfold wpOG at h;exact h.elim
 | _ :: _,[],_,_,_,_,h,_,_,_,_,_=>by unfold wpOG at h;exact h.elim
 | [],[],_,_,_,_ :: _,_,hs,_,_,_,_=>hs.elim
 | _ :: _,_ :: _,_,_,_,[],_,hs,_,_,_,_=>hs.elim
structure HdG(P:Program)(ops:Array Oper)(S:World→Prop)(base n:Nat)(ss:List Spec)(a0:Act)(listed:Array Bool)(a:Act)(w:World)(vs:List Value):Prop where
 len:vs.length=n
 shape:shapeL ss vs
 defs:a.defers=a0.defers
 siz:a.tmps.size=a0.tmps.size
 out:∀ t:Nat,(∀ (j:Nat) o,j<n→ops[j]? = some o→listed.getD j false=true→o.dst≠some t)→a.tmps[t]? = a0.tmps[t]?
 inn:∀ (j:Nat) o (t:Nat),j<n→ops[j]? = some o→listed.getD j false=true→o.dst=some t→t<a0.tmps.size→a.tmps[t]? = vs[j]?
 fact:∀ (j:Nat) s v,j<n→listed.getD j false=true→ss[j]? = some s→vs[j]? = some v→s.factG base v w
 dis:∀ (j k:Nat) s s' v v',j<k→listed.getD j false=true→listed.getD k false=true→ss[j]? = some s→ss[k]? = some s' → vs[j]? = some v→vs[k]? = some v' → ∀ g g',s.blk v g→s'.blk v' g' → g≠g'
 cls:S w
 bas:base≤w.heap.size
theorem HdG.sees{n i:Nat}{ss:List Spec}{a0 a:Act}{listed:Array Bool}{w:World}{vs:List Value}{o:Oper}(h:HdG P ops S base n ss a0 listed a w vs)(hB:Region.looksB ops n=true)(hi:i<n)(ho:ops[i]? = some o)
  (hr:∀ e∈o.after,Region.binds .any e=true→listed.getD e.on false=true):∀ t∈o.looksAt ops,a.tmps[t]? = (fr (ops.toList.take i) (vs.take i) a0).tmps[t]? := by
 intro t ht
 obtain⟨-,hl⟩:=looksB_spec hB hi ho
 by_cases hex:∃ (j:Nat) (oj:Oper),j<n∧ops[j]? = some oj∧oj.dst=some t
 ·obtain⟨j,oj,hj,hoj,hd⟩:=hex
  obtain⟨hji,hp⟩:=(hl j oj t hj hoj hd).2 ht
  have hlj:listed.getD j false=true:=by
   unfold pres at hp
   obtain⟨e,he,rfl⟩:=List.mem_map.1 hp
   rw[List.mem_filter] at he
   exact hr e (by simpa using he.1) he.2
  have huniq:∀ (k:Nat) o',k≠j→(ops.toList.take i)[k]? = some o' → o'.dst≠some t:=fun k o' hk hko hd' => by
   obtain⟨hki,hko'⟩:=take_some hko
   obtain⟨-,hlk⟩:=looksB_spec hB (show k<n by omega) (by simpa using hko')
   exact(hlk j oj t hj hoj hd).1 (Ne.symm hk) hd'
  rcases Nat.lt_or_ge t a0.tmps.size with hlt | hge
  ·rw[h.inn j oj t hj hoj hlj hd hlt,fr_in _ _ a0 t j oj (by rw[take_get hji];simpa using hoj) (by rw[List.length_take,h.len];omega) hd huniq hlt,take_get hji]
  ·rw[Array.getElem?_eq_none (by rw[h.siz];exact hge),Array.getElem?_eq_none (by rw[fr_size];exact hge)]
 ·rw[h.out t fun j oj hj hoj _ hd=>hex ⟨j,oj,hj,hoj,hd⟩,fr_out _ _ a0 t fun j oj hoj hd=>?_]
  obtain⟨hji,hoj'⟩:=take_some hoj
  exact hex ⟨j,oj,by omega,by simpa using hoj',hd⟩
theorem Spec.keepG{s:Spec}(h:s.monoG){v:Value}{w w' : World}(hf:s.factG base v w)(hs:SinceG w w'):s.factG base v w' := by
 cases s with
 | det c=>trivial
 | mk f t cs =>
  obtain⟨g,e,hb,hg,ht⟩:=hf
  exact⟨g,e,hs.blk h.2 ht hb,hg,ht⟩
 | any R=>exact h _ _ _ hf hs
theorem HdG.step{n i:Nat}{ss:List Spec}{a0 a:Act}{listed:Array Bool}{w w' : World}{vs:List Value}{o:Oper}{s:Spec}{v:Value}(h:HdG P ops S base n ss a0 listed a w vs)(hB:Region.looksB ops n=true)(hn:n≤ops.size)(hsz:listed.size=ops.size)
  (hi:i<n) (ho:ops[i]? = some o) (hs:ss[i]? = some s) (hm:∀ (j:Nat) s,ss[j]? = some s→s.monoG) (hsh:shapeL ss (vs.set i v)) (hf:s.factG base v w') (hw:SinceG w w') (hc:S w') (hd:∀ g,s.blk v g→w.heap.size≤g) :
  HdG P ops S base n ss a0 (listed.setIfInBounds i true) (a.put o.dst v) w' (vs.set i v):=by
 have hil:i<listed.size:=by omega
 have hiv:i<vs.length:=by rw[h.len];exact hi
 obtain⟨-,hl⟩:=looksB_spec hB hi ho
 have below:∀ (j:Nat) s' v',listed.getD j false=true→j<n→ss[j]? = some s' → vs[j]? = some v' → ∀ g,s'.blk v' g→g<w.heap.size:=by
  intro j s' v' hlj hj hsj hvj g hg
  have hf:=h.fact j s' v' hj hlj hsj hvj
  cases s' with
  | det c=>exact hg.elim
  | any R=>exact hg.elim
  | mk f t cs =>
   obtain⟨g',e,hb,-⟩:=hf
   have:g' = g:=(hm j _ hsj).1 g' g (e.symm.trans hg)
   subst this
   exact hb.lt
 have lt_n:∀ (j:Nat) s',ss[j]? = some s' → j<n:=fun j s' hj=>by
  have h1:=(List.getElem?_eq_some_iff.1 hj).1
  have h2:=shapeL_len h.shape
  have h3:=h.len
  omega
 refine⟨by simpa using h.len,hsh,?_,?_,fun t ht=>?_,fun j oj t hj hoj hlj hdj hlt=>?_,fun j s' v' hj hlj hsj hvj=>?_,fun j k s1 s2 v1 v2 hjk hlj hlk h1 h2 hv1 hv2 g g' hg hg' => ?_,hc,Nat.le_trans h.bas hw.size⟩
 ·rw[← h.defs];cases e:o.dst <;> simp[Act.put]
 ·rw[← h.siz];cases e:o.dst <;> simp[Act.put]
 ·rw[put_out (ht i o hi ho (set_same hil))]
  refine h.out t fun j oj hj hoj hlj=>ht j oj hj hoj ?_
  exact getD_set_true hlj
 ·by_cases e:j=i
  ·subst e
   obtain rfl:oj=o:=Option.some.inj (hoj.symm.trans ho)
   rw[hdj,put_in (by rw[h.siz];exact hlt),List.getElem?_set_self hiv]
  ·rw[put_out ((hl j oj t hj hoj hdj).1 e),List.getElem?_set_ne (Ne.symm e)]
   rw[getD_set_ne false (Ne.symm e)] at hlj
   exact h.inn j oj t hj hoj hlj hdj hlt
 ·by_cases e:j=i
  ·subst e
   obtain rfl:s' = s:=Option.some.inj (hsj.symm.trans hs)
   rw[List.getElem?_set_self hiv] at hvj
   injection hvj with hvj
   subst hvj
   exact hf
  ·rw[getD_set_ne false (Ne.symm e)] at hlj
   rw[List.getElem?_set_ne (Ne.symm e)] at hvj
   exact Spec.keepG (hm j s' hsj) (h.fact j s' v' hj hlj hsj hvj) hw
 ·have hj:=lt_n j s1 h1
  have hk:=lt_n k s2 h2
  by_cases e:j=i
  ·subst e
   obtain rfl:s1=s:=Option.some.inj (h1.symm.trans hs)
   rw[List.getElem?_set_self hiv] at hv1
   injection hv1 with hv1
   subst hv1
   rw[getD_set_ne false (by omega)] at hlk
   rw[List.getElem?_set_ne (by omega)] at hv2
   have:=below k s2 v2 hlk hk h2 hv2 g' hg'
   have:=hd g hg
   omega
  ·by_cases e' : k=i
   ·subst e'
    obtain rfl:s2=s:=Option.some.inj (h2.symm.trans hs)
    rw[List.getElem?_set_self hiv] at hv2
    injection hv2 with hv2
    subst hv2
    rw[getD_set_ne false (by omega)] at hlj
    rw[List.getElem?_set_ne (by omega)] at hv1
    have:=below j s1 v1 hlj hj h1 hv1 g hg
    have:=hd g' hg'
    omega
   ·rw[getD_set_ne false (Ne.symm e)] at hlj
    rw[getD_set_ne false (Ne.symm e')] at hlk
    rw[List.getElem?_set_ne (Ne.symm e)] at hv1
    rw[List.getElem?_set_ne (Ne.symm e')] at hv2
    exact h.dis j k s1 s2 v1 v2 hjk hlj hlk h1 h2 hv1 hv2 g g' hg hg'
theorem factL_getG:∀ {ss:List Spec} {vs:List Value} {j:Nat} {F:World→Prop},(factLG base ss vs)[j]? = some F→∃ s v,ss[j]? = some s∧vs[j]? = some v∧F=s.factG base v
 | s :: ss,v :: vs,0,F,h=>by
  simp[factLG] at h
  exact⟨s,v,rfl,rfl,h.symm⟩
 | s :: ss,v :: vs,j+1,F,h=>by
  simp only[factLG,List.getElem?_cons_succ] at h
  simpa using factL_getG h
 | [],_,_,_,h=>by simp[factLG] at h
 | _ :: _,[],_,_,h=>by simp[factLG] at h
theorem factsOf_keepG{Fs:List (World→Prop)}(hm:∀ F∈Fs,∀ w w',F w→SinceG w w' → F w'){w w' : World}:∀ {js:List Nat},factsOf Fs js w→SinceG w w' → factsOf Fs js w'
 | [],_,_=>trivial
 | j :: js,h,k=>⟨by
     have h1:=h.1
     cases e:Fs[j]? with
     | none=>simp[List.getD,e]
     | some F =>
      simp only[List.getD,e,Option.getD_some] at h1 ⊢
      exact hm F (List.mem_of_getElem? e) w w' h1 k,factsOf_keepG hm h.2 k⟩
theorem allF_mkG{w:World}:∀ {ss:List Spec} {vs:List Value},(∀ (j:Nat) s v,ss[j]? = some s→vs[j]? = some v→s.factG base v w)→allF (factLG base ss vs) w
 | s :: ss,v :: vs,h=>⟨h 0 s v rfl rfl,allF_mkG fun j s' v' hs hv=>h (j+1) s' v' (by simpa using hs) (by simpa using hv)⟩
 | [],_,_=>by simp[factLG,allF]
 | _ :: _,[],_=>by simp[factLG,allF]
theorem facts_anyG{Q:Exit→Act→World→Prop}{n:Nat}{ss:List Spec}{a0:Act}(hsel:Region.noSelect ops=true)(hn:n≤ops.size)(hsc:n=ops.size∨(Region.sinkB .any ops n=true∧Region.chainB .any ops n=true))(hB:Region.looksB ops n=true)
  (hseq:Region.seqB .any ops (ops.size-n) n (fullL ops.size n)=true) (hO:wpOG P ops S base (fun a w=>wpList P ops Q (ops.toList.drop n) a w) (ops.toList.take n) ss [] [] a0) (hsl:ss.length=n) (hmono:∀ w w',S w→SinceG w w' → S w') (hTb:∀ g,base≤g→RegG.base≤g) :
  ∀ (f:Nat) (listed:Array Bool) (a:Act) (w:World) (vs:List Value),HeadInv .any ops n listed→cnt n listed=f→HdG P ops S base n ss a0 listed a w vs→wpAny P .any ops Q (f+(ops.size-n)) listed a w:=by
 have hgood:∀ (j:Nat) s,ss[j]? = some s→s.monoG:=fun j s hj=>by
  obtain⟨vs,hvs⟩:=shapeL_some ss
  have hjn:j<n:=by have:=(List.getElem?_eq_some_iff.1 hj).1;omega
  have hjo:j<ops.toList.length:=by simp;omega
  exact(wpO_getG hO hvs j (ops.toList[j]) s (by rw[take_get hjn];exact List.getElem?_eq_getElem hjo) hj).1
 intro f
 induction f with
 | zero =>
  intro listed a w vs inv hc h
  have hall:∀ i,i<n→listed.getD i true=true:=fun i hi=>by
   cases e:listed.getD i true with
   | true=>rfl
   | false=>have:=cnt_pos hi e;omega
  have hall' : ∀ i,i<n→listed.getD i false=true:=fun i hi=>by
   have:=hall i hi
   have hlt:i<listed.size:=by rw[inv.size];omega
   simpa[hlt] using this
  have hfin:=wpO_finG hO h.shape w h.cls (by
   rw[List.nil_append]
   exact allF_mkG fun j s v hs hv=>h.fact j s v (by have:=(List.getElem?_eq_some_iff.1 hs).1;omega) (hall' j (by have:=(List.getElem?_eq_some_iff.1 hs).1;omega)) hs hv) (by
   rw[List.nil_append]
   exact blkL_pair fun j k s s' v v' hjk h1 h2 h3 h4=>h.dis j k s s' v v' hjk (hall' j (by have:=(List.getElem?_eq_some_iff.1 h1).1;omega)) (hall' k (by have:=(List.getElem?_eq_some_iff.1 h2).1;omega)) h1 h2 h3 h4)
  have ea:a=fr (ops.toList.take n) vs a0:=by
   obtain⟨tm,df⟩:=a
   have e1:=h.defs
   have e2:=h.siz
   have e3:=h.out
   have e4:=h.inn
   dsimp only at e1 e2 e3 e4
   have:tm=(fr (ops.toList.take n) vs a0).tmps:=by
    apply Array.ext_getElem?
    intro t
    by_cases hex:∃ (j:Nat) (oj:Oper),j<n∧ops[j]? = some oj∧oj.dst=some t
    ·obtain⟨j,oj,hj,hoj,hd⟩:=hex
     rcases Nat.lt_or_ge t a0.tmps.size with hlt | hge
     ·rw[e4 j oj t hj hoj (hall' j hj) hd hlt,fr_in _ _ a0 t j oj (by rw[take_get hj];simpa using hoj) (by rw[h.len];exact hj) hd ?_ hlt]
      intro k o' hk hko hd'
      obtain⟨hkn,hko'⟩:=take_some hko
      obtain⟨-,hlk⟩:=looksB_spec hB hkn (by simpa using hko')
      exact(hlk j oj t hj hoj hd).1 (Ne.symm hk) hd'
     ·rw[Array.getElem?_eq_none (by omega),Array.getElem?_eq_none (by rw[fr_size];exact hge)]
    ·rw[e3 t fun j oj hj hoj _ hd=>hex ⟨j,oj,hj,hoj,hd⟩,fr_out _ _ a0 t fun j oj hoj hd=>?_]
     obtain⟨hji,hoj'⟩:=take_some hoj
     exact hex ⟨j,oj,hji,by simpa using hoj',hd⟩
   have hdf:df=(fr (ops.toList.take n) vs a0).defers:=by rw[fr_defers];exact e1
   subst this hdf
   rfl
  rw[← ea] at hfin
  have hl:=full_of inv hn hall
  have hdl:(ops.toList.drop n).length=ops.size-n:=by simp
  have:=wpAny_of_seq (md:=.any) (Q' := Q) (ops.toList.drop n) n listed a w (fun j=>by simp[List.getElem?_drop]) (by rw[hdl,hl];exact hseq) hfin
  rw[hdl] at this
  rw[Nat.zero_add]
  exact this
 | succ f ih =>
  intro listed a w vs inv hc h
  rw[show f+1+(ops.size-n)=(f+(ops.size-n))+1 by omega]
  have hex:∃ i,i<n∧listed.getD i true=false∧∀ j,j<i→listed.getD j true=true:=by
   rcases first_un (n:=n) (listed:=listed) n (Nat.le_refl _) with h1 | h1
   ·have:=cnt_zero h1;omega
   ·exact h1
  obtain⟨i0,hi0,hu0,hm0⟩:=hex
  refine⟨fun hr=>?_,fun i hi=>?_⟩
  ·exfalso
   have ho0:ops[i0]? = some ops[i0]:=Array.getElem?_eq_getElem (by omega)
   obtain⟨hl,-⟩:=looksB_spec hB hi0 ho0
   have:i0∈Region.ready .any ops listed:=mem_ready.2 ⟨hu0,_,ho0,fun e he hb=>by
    have hlt:=hl e he hb
    have:=hm0 e.on hlt
    have hsz:e.on<listed.size:=by rw[inv.size];omega
    simpa[hsz] using this⟩
   rw[hr] at this
   cases this
  ·obtain⟨hun,o,ho,hall⟩:=mem_ready.1 hi
   have hin:i<n:=by
    rcases Nat.lt_or_ge i n with h1 | h1
    ·exact h1
    ·have hio:=(Array.getElem?_eq_some_iff.1 ho).1
     rcases hsc with hsc | ⟨hs1,hs2⟩
     ·omega
     ·exact absurd hi (tail_waits hs1 hs2 (by omega) inv _ i0 rfl hi0 hu0 i h1)
   have hsz:=inv.size
   have his:i<listed.size:=by rw[hsz];omega
   have hss:ss[i]? = some ss[i]:=List.getElem?_eq_getElem (by omega)
   generalize hsi:ss[i]=s at hss
   have hsee:=h.sees hB hin ho hall
   have hex:=eval_eq (ops:=ops) (o:=o) (Region.noSelect_spec hsel i o · · ho) hsee
   have hwa:=wanted_eq (ops:=ops) (o:=o) hsee
   obtain⟨hmo,hask⟩:=wpO_getG hO h.shape i o s (by rw[take_get hin];simpa using ho) hss
   rw[List.take_take,Nat.min_eq_left (by omega),List.nil_append] at hask
   have hF:factsOf (factLG base (ss.take i) (vs.take i)) (pres o) w:=factsOf_mk fun j hj F hF=>by
    obtain⟨s',v',h1,h2,rfl⟩:=factL_getG hF
    obtain⟨hji,h1⟩:=take_some h1
    obtain⟨-,h2⟩:=take_some h2
    unfold pres at hj
    obtain⟨e,he,rfl⟩:=List.mem_map.1 hj
    rw[List.mem_filter] at he
    exact h.fact e.on s' v' (by omega) (hall e (by simpa using he.1) he.2) h1 h2
   have hFm:∀ w w',factsOf (factLG base (ss.take i) (vs.take i)) (pres o) w→SinceG w w' → factsOf (factLG base (ss.take i) (vs.take i)) (pres o) w' := fun w w' h k=>factsOf_keepG (fun F hF=>by
    obtain⟨j,hj⟩:=List.getElem?_of_mem hF
    obtain⟨s',v',h1,h2,rfl⟩:=factL_getG hj
    obtain⟨-,h1⟩:=take_some h1
    exact fun w w' hf hk=>Spec.keepG (hgood j s' h1) hf hk) h k
   have go:∀ (v:Value) (w' : World),s.shape v→s.factG base v w' → SinceG w w' → (∀ g,s.blk v g→w.heap.size≤g)→wpAny P .any ops Q (f+(ops.size-n)) (listed.setIfInBounds i true) (a.put o.dst v) w' := fun v w' hv hf hw hd =>
    ih _ _ _ _ (inv.set hi hin) (by have:=(cnt_set his hun n).2 hin;omega) (h.step hB hn hsz hin ho hss hgood (shapeL_set h.shape hss hv) hf hw (hmono _ _ h.cls hw) hd)
   generalize hA:fr (ops.toList.take i) (vs.take i) a0=A at *
   have hAs:a.tmps.size=A.tmps.size:=by rw[← hA,fr_size];exact h.siz
   unfold wpOp
   simp only[ho]
   rw[hwa]
   cases s with
   | det c =>
    unfold Spec.asksG at hask
    dsimp only at hask
    by_cases hw:Region.wanted o (yielded ops A.tmps)=true
    ·rw[if_pos hw] at hask ⊢
     obtain⟨v,hv,hp⟩:=hask hFm w h.cls hF
     have hq:=hv w ⟨h.cls,hF,SinceG.rfl_ w⟩
     have hpc:a.put o.dst v=a.put o.dst c:=put_congr hp hAs
     left
     unfold Oper.wp
     rw[hex]
     unfold Oper.quietAt at hq
     generalize (execOp A.eval o).run P w=r at hq
     unfold Oper.quietUpon at hq
     split at hq
     ·obtain⟨rfl,rfl⟩:=hq
      show wpAny P .any ops Q _ _ (a.put o.dst _) _
      rw[hpc]
      exact go c _ rfl trivial (SinceG.rfl_ _) (fun g hg=>hg.elim)
     ·obtain⟨rfl,rfl⟩:=hq
      show wpAny P .any ops Q _ _ (a.put o.dst _) _
      rw[hpc]
      exact go c _ rfl trivial (SinceG.rfl_ _) (fun g hg=>hg.elim)
     ·obtain⟨rfl,hcall⟩:=hq
      rw[Oper.upon_enter]
      refine hcall.mono ?_
      rintro e w'' ⟨rfl,hC⟩
      show wpAny P .any ops Q _ _ (a.put o.dst _) _
      rw[hpc]
      exact go c _ rfl trivial hC.out.2.2 (fun g hg=>hg.elim)
     ·exact hq.elim
    ·rw[if_neg hw] at hask ⊢
     subst hask
     exact go undef w rfl trivial (SinceG.rfl_ _) (fun g hg=>hg.elim)
   | mk fn t cs =>
    obtain⟨hw,hrun⟩:=hask
    rw[if_pos hw]
    left
    unfold Oper.wp
    rw[hex,hrun w]
    show wpAny P .any ops Q _ _ (a.put o.dst _) _
    refine go _ _ ⟨_,rfl⟩ ⟨_,rfl,Blk.new w t cs,h.bas,hTb _ h.bas⟩ ((SinceG.rfl_ w).alloc _) (fun g hg=>?_)
    have:w.heap.size=g:=hmo.1 _ _ hg
    omega
   | any R =>
    obtain⟨hw,hrun⟩:=hask
    rw[if_pos hw]
    left
    unfold Oper.wp
    rw[hex]
    have hr:=hrun w h.cls hF
    unfold runVG at hr
    generalize (execOp A.eval o).run P w=r at hr
    split at hr
    ·exact go _ _ trivial hr.1 hr.2 (fun g hg=>hg.elim)
    ·exact go _ _ trivial hr.1 hr.2 (fun g hg=>hg.elim)
    ·rw[Oper.upon_enter]
     refine hr.mono ?_
     rintro e w'' ⟨v,rfl,h1,h2⟩
     exact go v _ trivial h1 h2 (fun g hg=>hg.elim)
    ·exact hr.elim
end
theorem region_factsG{P:Program}{id:Nat}{Q:Exit→Act→World→Prop}{a:Act}{w:World}{l:List Oper}(n:Nat)(S:World→Prop)(hm:P.follows .mixedOrders=true)(hB:Region.factsB l.toArray n=true)(hS:S w.drew)(hmono:∀ w w',S w→SinceG w w' → S w')(hTb:∀ g,w.heap.size≤g→RegG.base≤g)(ss:List Spec)
  (h:wpOG P l.toArray S w.heap.size (fun a' w' => wpList P l.toArray Q (l.drop n) a' w') (l.take n) ss [] [] a):(Code.region id l.toArray true).wp P Q a w:=by
 unfold Region.factsB at hB
 simp only[Bool.and_eq_true,Bool.or_eq_true,decide_eq_true_eq] at hB
 obtain⟨⟨⟨⟨h1,h2⟩,h3⟩,h4⟩,h5⟩:=hB
 obtain⟨vs,hvs⟩:=shapeL_some ss
 have hlen:(l.take n).length=n:=by simp at h2 ⊢;omega
 have hss:ss.length=n:=by rw[← wpO_lenG h hvs,hlen]
 refine wp_region_any hm ?_
 have inv0:HeadInv .any l.toArray n (Array.replicate l.toArray.size false) :=
  ⟨by simp,fun j oj _ hl=>(by rw[getD_replicate_false] at hl;cases hl),fun t _ ht=>getD_in (by simpa using ht) (getD_replicate_false _ _)⟩
 have hc:cnt n (Array.replicate l.toArray.size false)=n:=by
  unfold cnt
  rw[List.countP_eq_length.2,List.length_range]
  intro i hi
  have hin:=List.mem_range.1 hi
  simp only[List.size_toArray] at h2 ⊢
  have:i<l.length:=by omega
  simp[this]
 have hd0:HdG P l.toArray S w.heap.size n ss a (Array.replicate l.toArray.size false) a { w with drawn:=w.drawn+1 } vs :=
  ⟨by rw[← shapeL_len hvs,hss],hvs,rfl,rfl,fun t _=>rfl,fun j o t _ _ hl=>(by rw[getD_replicate_false] at hl;cases hl),fun j s v _ hl=>(by rw[getD_replicate_false] at hl;cases hl),fun j k s s' v v' _ hl=>(by rw[getD_replicate_false] at hl;cases hl),hS,Nat.le_refl _⟩
 have:=facts_anyG h1 h2 h3 h4 h5 (by simpa using h) hss hmono hTb n _ _ _ _ inv0 hc hd0
 rwa[show n+(l.toArray.size-n)=l.toArray.size by omega] at this
section
variable {P : Program} {ops : Array Oper} {S : World → Prop} {base : Nat} {K : Act → World → Prop} {l : List Oper} {o : Oper} {ss : List Spec} {Fs : List (World → Prop)} {Bs : List (Nat → Prop)} {a : Act}
theorem wpO_nilG(h:∀ w,S w→allF Fs w→Bs.Pairwise (fun p q=>∀ g g',p g→q g' → g≠g')→K a w):wpOG P ops S base K [] [] Fs Bs a:=h
theorem wpO_detG{c:Value}(hw:Region.wanted o (yielded ops a.tmps)=true)(h:(∀ w w',factsOf Fs (pres o) w→SinceG w w' → factsOf Fs (pres o) w')→∀ wx,S wx→factsOf Fs (pres o) wx→∀ K' : Act→Prop,(∀ a',a' = a.put o.dst c→K' a')→o.quiet P a (Cls fun w' => S w' ∧ factsOf Fs (pres o) w' ∧ SinceG wx w') K')
  (k:wpOG P ops S base K l ss (Fs++[fun _=>True]) (Bs++[fun _=>False]) (a.put o.dst c)):wpOG P ops S base K (o :: l) (.det c :: ss) Fs Bs a :=
 ⟨trivial,by
  unfold Spec.asksG
  dsimp only
  rw[if_pos hw]
  exact fun hm wx h1 h2=>h hm wx h1 h2 _ (fun a' h=>h),fun v hv=>by cases hv;exact k⟩
theorem wpO_mkG{f:Nat→Value}{t:TypeId}{cs:Array Value}(hk:RegG.keep t)(hi:∀ g g',f g=f g' → g=g')(hw:Region.wanted o (yielded ops a.tmps)=true)(h:∀ w,(execOp a.eval o).run P w=.ok (.value (f w.heap.size)) (w.alloc (.cells cs t)))
  (k:∀ g,wpOG P ops S base K l ss (Fs++[fun w=>Blk w g t cs∧base≤g∧RegG.base≤g]) (Bs++[fun g' => g=g']) (a.put o.dst (f g))):wpOG P ops S base K (o :: l) (.mk f t cs :: ss) Fs Bs a :=
 ⟨⟨hi,hk⟩,⟨hw,h⟩,fun v hv=>by
  obtain⟨g,rfl⟩:=hv
  have e1:Spec.factG base (.mk f t cs) (f g)=fun w=>Blk w g t cs∧base≤g∧RegG.base≤g:=by
   funext w
   apply propext
   constructor
   ·rintro⟨g',e,h⟩
    rw[hi _ _ e];exact h
   ·exact fun h=>⟨g,rfl,h⟩
  have e2:Spec.blk (.mk f t cs) (f g)=fun g' => g=g' := by
   funext g'
   apply propext
   exact⟨fun h=>hi _ _ h,fun h=>by rw[← h];rfl⟩
  rw[e1,e2]
  exact k g⟩
theorem wpO_anyG{R:Value→World→Prop}(hR:∀ v w w',R v w→SinceG w w' → R v w')(hw:Region.wanted o (yielded ops a.tmps)=true)(h:∀ w,S w→factsOf Fs (pres o) w→runVG P o a w fun v w' => R v w' ∧ SinceG w w')
  (k:∀ v,wpOG P ops S base K l ss (Fs++[R v]) (Bs++[fun _=>False]) (a.put o.dst v)):wpOG P ops S base K (o :: l) (.any R :: ss) Fs Bs a :=
 ⟨hR,⟨hw,h⟩,fun v _=>k v⟩
end
end
section
open Go.RowKit Go.BigFrame Go.Maps
theorem laidOutM:laidOutB Tryz.prog=true:=by kernel_rfl
theorem rowM:(36:TypeId)<Tryz.prog.types.size:=of_decide_eq_true (by kernel_rfl)
theorem keysM:Keyed Tryz.prog 36:=Keyed.of_law (deep_law_laid laidOutM (m:=2) (by omega) rowM (by kernel_rfl) (by rw[Tryz.underlying36]))
def ptA(p:Pt2):Value:=.agg #[.int .i64 p.1,.int .i64 p.2]
def ptKey(p:Pt2):Lit:=.string (keyBytes [.int .i64 p.1,.int .i64 p.2])
theorem keyLit_int(d:Nat)(x:Int)(h:(Lit.int .i64 x).wf=true):Tryz.prog.keyLits (d+1) 3 [.int .i64 x]=some [.int .i64 x]:=by
 simp[Program.keyLits,Tryz.underlying3,h]
theorem typesM:Tryz.prog.types.size=(Tryz.prog.types.size-1)+1:=by have:(36:Nat)<Tryz.prog.types.size:=rowM;omega
theorem keyTypeM:Tryz.prog.keyType 36=true:=by kernel_rfl
theorem cellsM:Tryz.prog.cellsOf 36=2:=by kernel_rfl
theorem cellsI:Tryz.prog.cellsOf 3=1:=by kernel_rfl
theorem wf_ok{x:Int}(h : -1048576≤x∧x≤1048576):(Lit.int .i64 x).wf=true:=by
 have e1:IntKind.i64.min = -9223372036854775808:=by rfl
 have e2:IntKind.i64.max=9223372036854775807:=by rfl
 simp only[Lit.wf,e1,e2,Bool.and_eq_true,decide_eq_true_eq];omega
theorem key_pt{p:Pt2}(h:okP p.1 p.2=true):keyOf Tryz.prog 36 (ptA p)=some (ptKey p):=by
 have hx:=wf_ok (okP_iff.1 h).1
 have hy:=wf_ok (okP_iff.1 h).2
 have hf:(ptA p).formed Tryz.prog 36=true:=by simp[ptA,Value.formed,Tryz.underlying36,cellsM]
 unfold keyOf
 rw[Tryz.underlying36]
 simp only[keyTypeM,hf,Bool.and_self,if_true]
 have:Tryz.prog.keyLits (Tryz.prog.types.size+1) 36 (ptA p).cells.toList=some [.int .i64 p.1,.int .i64 p.2]:=by
  rw[typesM]
  unfold Program.keyLits
  rw[Tryz.underlying36]
  simp[ptA,Value.cells,cellsM,cellsI,keyLit_int _ _ hx,keyLit_int _ _ hy]
 rw[this]
 rfl
theorem ptA_inj{p q:Pt2}(h:ptA p=ptA q):p=q:=by
 unfold ptA at h
 injection h with h
 have h0:=congrArg (fun a:Array Value=>a[0]?) h
 have h1:=congrArg (fun a:Array Value=>a[1]?) h
 simp at h0 h1
 exact Prod.ext h0 h1
theorem ptKey_inj{p q:Pt2}(hp:okP p.1 p.2=true)(hq:okP q.1 q.2=true)(h:ptKey p=ptKey q):p=q :=
 ptA_inj (keysM.inj (key_pt hp) (h ▸ key_pt hq))
noncomputable abbrev RB:Value→Option (DataW Unit×List MemPlace):=plainElem Tryz.prog 4
def SetP(w:World)(b:Nat)(S:List Pt2):Prop :=
 (∀ p∈S,okP p.1 p.2=true)∧∃ D,w.ownsMap Tryz.prog 36 RB b (Maps.size D) D∧∀ kl,Maps.has D kl=true↔∃ p∈S,ptKey p=kl
theorem own_tight{w:World}{b n:Nat}{D:DataW Unit}(h:w.ownsMap Tryz.prog 36 RB b n D):w.ownsMap Tryz.prog 36 RB b (Maps.size D) D:=by
 obtain⟨es,clock,hb,F,hs,rfl⟩:=h
 exact⟨es,clock,hb,F,by simp[Maps.size,length_sorted],rfl⟩
theorem SetP.congr{w:World}{b:Nat}{S T:List Pt2}(h:SetP w b S)(e:∀ p,p∈S↔p∈T):SetP w b T:=by
 obtain⟨ok,D,h,k⟩:=h
 refine⟨fun p hp=>ok p ((e p).2 hp),D,h,fun kl=>?_⟩
 rw[k]
 constructor
 ·rintro⟨p,hp,hk⟩;exact⟨p,(e p).1 hp,hk⟩
 ·rintro⟨p,hp,hk⟩;exact⟨p,(e p).2 hp,hk⟩
theorem SetP.lt{w:World}{b:Nat}{S:List Pt2}(h:SetP w b S):b<w.heap.size:=by obtain⟨-,D,h,-⟩:=h;exact h.lt
theorem SetP.kept{w w' : World}{b:Nat}{S:List Pt2}(h:SetP w b S){row:Option Nat}(hg:w.grownBy w' row)(hne:some b≠row):SetP w' b S:=by
 obtain⟨ok,D,h,k⟩:=h
 exact⟨ok,D,h.kept hg hne,k⟩
theorem SetP.since{w w' : World}{b:Nat}{S:List Pt2}(h:SetP w b S)(hs:Since w w'):SetP w' b S :=
 h.kept (row:=none) ⟨hs.os,hs.tape,hs.output,hs.size,fun i hi _=>hs.block i hi⟩ (by simp)
theorem SetP.made(w:World):SetP (w.alloc (.map #[] 0)) w.heap.size [] :=
 ⟨(fun p h=>by cases h),.map [],World.ownsMap_made w _ _ _,fun kl=>by simp[Maps.has]⟩
theorem SetP.next{w' : World}{b:Nat}{S:List Pt2}{D:DataW Unit}{p:Pt2}(hok:∀ p∈S,okP p.1 p.2=true)(hp:okP p.1 p.2=true)(hm:IsMap D)(hk:∀ kl,Maps.has D kl=true↔∃ p∈S,ptKey p=kl)
  {n:Nat} (h:w'.ownsMap Tryz.prog 36 RB b n (D.put (ptKey p) (.lit (.bool true)))):SetP w' b (S++[p]):=by
 refine⟨fun q hq=>?_,D.put (ptKey p) (.lit (.bool true)),own_tight h,fun kl=>?_⟩
 ·rcases List.mem_append.1 hq with hq | hq
  ·exact hok q hq
  ·rw[List.mem_singleton] at hq;rw[hq];exact hp
 ·by_cases e:kl=ptKey p
  ·subst e
   rw[has_put_same hm (keysM.key (key_pt hp))]
   simp only[true_iff]
   exact⟨p,by simp,rfl⟩
  ·rw[has_put_other e,hk]
   constructor
   ·rintro⟨q,hq,h⟩;exact⟨q,List.mem_append_left _ hq,h⟩
   ·rintro⟨q,hq,h⟩
    rcases List.mem_append.1 hq with hq | hq
    ·exact⟨q,hq,h⟩
    ·rw[List.mem_singleton] at hq;rw[hq] at h;exact absurd h.symm e
theorem len_le_of_sub{α:Type}:∀ {l m:List α},l.Nodup→(∀ x∈l,x∈m)→l.length≤m.length
 | [],_,_,_=>Nat.zero_le _
 | a :: l,m,hn,hs=>by
  obtain⟨s,t,rfl⟩:=List.append_of_mem (hs a (by simp))
  rw[List.nodup_cons] at hn
  have:=len_le_of_sub (m:=s++t) hn.2 (fun x hx=>by
   rcases List.mem_append.1 (hs x (by simp[hx])) with h | h
   ·exact List.mem_append_left _ h
   ·rcases List.mem_cons.1 h with rfl | h
    ·exact absurd hx hn.1
    ·exact List.mem_append_right _ h)
  simp only[List.length_append,List.length_cons] at this ⊢;omega
theorem srt_nodup{l:List Pt2}(h:Srt l):l.Nodup:=List.Pairwise.imp (fun {x y} (hxy:lx x y) (e:x=y)=>lx_irr _ (e ▸ hxy)) h
theorem SetP.size{b n:Nat}{S:List Pt2}{D:DataW Unit}{w:World}(hok:∀ p∈S,okP p.1 p.2=true)(h:w.ownsMap Tryz.prog 36 RB b n D)(hk:∀ kl,Maps.has D kl=true↔∃ p∈S,ptKey p=kl):Maps.size D=(hullS S).length:=by
 obtain⟨es,rfl,hp,hlit⟩:=h.entries keysM
 have n1:(es.map Prod.fst).Nodup:=by rw[List.Nodup,List.pairwise_map];exact hp
 have n2:((hullS S).map ptKey).Nodup:=by
  rw[List.Nodup,List.pairwise_map]
  refine(srt_nodup (hullS_srt S)).imp_of_mem fun {x y} hx hy hne e=>hne (ptKey_inj (hok x (hullS_mem.1 hx)) (hok y (hullS_mem.1 hy)) e)
 have m:∀ kl,kl∈es.map Prod.fst↔kl∈(hullS S).map ptKey:=fun kl=>by
  have e1:Maps.has (DataW.map es) kl=true↔kl∈es.map Prod.fst:=by
   unfold Maps.has
   rw[List.any_eq_true,List.mem_map]
   constructor
   ·rintro⟨p,hp,he⟩;exact⟨p,hp,WideAt.sameKey_eq he⟩
   ·rintro⟨p,hp,rfl⟩;exact⟨p,hp,WideAt.sameKey_self (hlit p hp)⟩
  rw[← e1,hk,List.mem_map]
  constructor
  ·rintro⟨p,hp,rfl⟩;exact⟨p,hullS_mem.2 hp,rfl⟩
  ·rintro⟨p,hp,rfl⟩;exact⟨p,hullS_mem.1 hp,rfl⟩
 have a:=len_le_of_sub n1 (fun x hx=>(m x).1 hx)
 have c:=len_le_of_sub n2 (fun x hx=>(m x).2 hx)
 simp only[List.length_map] at a c
 show es.length=_
 omega
theorem undM:Tryz.prog.underlying 119=some (.map 36 4):=Tryz.underlying119
theorem SetP.store{w:World}{b:Nat}{S:List Pt2}{p:Pt2}(hset:SetP w b S)(hn:(hullS S).length<maxLen)(hp:okP p.1 p.2=true) :
  ∃ w',(Instr.mapUpdate 119 (.map (some b)) (ptA p) (.bool true)).run Tryz.prog w=.ok () w' ∧ SetP w' b (S++[p])∧Only b w w' := by
 obtain⟨ok,D,h,k⟩:=hset
 obtain⟨w',h1,h2,h3⟩:=h.update (val:=.bool true) keysM undM (by rw[SetP.size ok h k];exact hn) (key_pt hp) (plainElem_bool Tryz.underlying4 true)
 exact⟨w',h1,SetP.next ok hp h.isMap k h2,h3⟩
theorem SetP.len_run{w:World}{b:Nat}{S:List Pt2}(h:SetP w b S)(ty:TypeId):(Builtin.len_ #[119] ty #[.map (some b)]).run Tryz.prog w=.ok (.int .i64 (hullS S).length) w:=by
 obtain⟨ok,D,h,k⟩:=h
 rw[h.len undM ty,SetP.size ok h k]
theorem hull_len_le{S T:List Pt2}(h:∀ p∈S,p∈T):(hullS S).length≤T.length:=len_le_of_sub (srt_nodup (hullS_srt S)) fun p hp=>h p (hullS_mem.1 hp)
section
variable {w : World} {ops : Array Oper} {rest : List Oper} {o : Oper} {a : Act} {Q : Exit → Act → World → Prop}
def SetR(w:World)(b r:Nat)(S L:List Pt2):Prop :=
 (∀ p∈S,okP p.1 p.2=true)∧L.Nodup∧(∀ p∈L,p∈S)∧∃ n D left cnt,w.ranges Tryz.prog 36 RB b r n D left cnt∧∀ kl,left kl=true↔∃ p∈S,p∉L∧ptKey p=kl
theorem SetR.kept{w w' : World}{b r:Nat}{S L:List Pt2}(h:SetR w b r S L){row:Option Nat}(hg:w.grownBy w' row)(hb:some b≠row)(hr:some r≠row):SetR w' b r S L∧w'.rangeLeft b r=w.rangeLeft b r:=by
 obtain⟨ok,hn,hs,n,D,left,cnt,h,k⟩:=h
 have h' := h.kept hg hb hr
 exact⟨⟨ok,hn,hs,n,D,left,cnt,h',k⟩,by rw[h.left_eq,h'.left_eq]⟩
theorem SetR.lt{w:World}{b r:Nat}{S L:List Pt2}(h:SetR w b r S L):r<w.heap.size:=by
 obtain⟨-,-,-,n,D,left,cnt,h,-⟩:=h;exact h.lt
theorem wpList_setrange(hg:o.guard=none)(m:Operand)(hop:o.op=Op.range 119 m){b:Nat}{S:List Pt2}(hm:a.eval m=.map (some b))(hset:SetP w b S)
  (hK:∀ w',SetR w' b w.heap.size S []→w.grownBy w' none→w'.heap.size=w.heap.size+1→wpList Tryz.prog ops Q rest (a.put o.dst (.pointer (some ⟨w.heap.size,0,none⟩))) w'):wpList Tryz.prog ops Q (o :: rest) a w:=by
 obtain⟨ok,D,h,k⟩:=hset
 exact wpList_range_own w hg m _ hop _ _ keysM undM RB b _ D hm h fun w' h' hg' hs' =>
  hK w' ⟨ok,List.nodup_nil,(fun p hp=>by cases hp),_,_,_,_,h',fun kl=>by rw[k];simp⟩ hg' hs'
theorem wpList_setnext(hg:o.guard=none)(it:Operand)(hop:o.op=Op.next it false){b r:Nat}{S L:List Pt2}(hit:a.eval it=.pointer (some ⟨r,0,none⟩))(h:SetR w b r S L)
  (hDone:(∀ p∈S,p∈L)→wpList Tryz.prog ops Q rest (a.put o.dst (.tuple #[.bool false])) w)
  (hMore:∀ (p:Pt2) (c:Value) (w' : World),SetR w' b r S (L++[p])→w'.rangeLeft b r<w.rangeLeft b r→Only r w w' → w'.heap.size=w.heap.size→p∈S →
   (Instr.entry (.pointer (some ⟨r,0,none⟩))).run Tryz.prog w' = .ok (.tuple #[ptA p,c]) w' → wpList Tryz.prog ops Q rest (a.put o.dst (.tuple #[.bool true,ptA p,c])) w') :
  wpList Tryz.prog ops Q (o :: rest) a w:=by
 obtain⟨ok,hn,hs,n,D,left,cnt,h,k⟩:=h
 refine wpList_next_ranges w hg it hop _ keysM RB id id (fun key _ _=>⟨key,rfl⟩) (fun v _ _=>⟨v,rfl⟩) b r n D left cnt hit h ?_ ?_
 ·intro _ hl
  refine hDone fun p hp=>?_
  by_cases hm:p∈L
  ·exact hm
  ·have:=(k (ptKey p)).2 ⟨p,hp,hm,rfl⟩
   rw[hl] at this;cases this
 ·intro x c kl y w' cnt' hkey hlx hv hat hrg hlt hgr hsz hen
  obtain⟨p,hp,hpL,rfl⟩:=(k kl).1 hlx
  obtain rfl:x=ptA p:=keysM.inj hkey (key_pt (ok p hp))
  refine hMore p c w' ⟨ok,?_,?_,n,D,_,cnt',hrg,fun kl=>?_⟩ (by rw[hrg.left_eq,h.left_eq];exact hlt) hgr hsz hp hen
  ·rw[List.nodup_append]
   exact⟨hn,by simp,fun a ha b hb e=>by rw[List.mem_singleton] at hb;rw[e,hb] at ha;exact hpL ha⟩
  ·intro q hq
   rcases List.mem_append.1 hq with hq | hq
   ·exact hs q hq
   ·rw[List.mem_singleton] at hq;rw[hq];exact hp
  ·show(left kl && !kl.sameKey (ptKey p))=true↔_
   rw[Bool.and_eq_true,k]
   constructor
   ·rintro⟨⟨q,hq,hqL,rfl⟩,hne⟩
    refine⟨q,hq,fun hm=>?_,rfl⟩
    rcases List.mem_append.1 hm with hm | hm
    ·exact hqL hm
    ·rw[List.mem_singleton] at hm
     rw[hm,WideAt.sameKey_self (keysM.key (key_pt (ok p hp)))] at hne;cases hne
   ·rintro⟨q,hq,hqL,rfl⟩
    refine⟨⟨q,hq,fun hm=>hqL (List.mem_append_left _ hm),rfl⟩,?_⟩
    rw[sameKey_ne (fun e=>hqL (List.mem_append_right _ (by rw[ptKey_inj (ok q hq) (ok p hp) e];exact List.mem_singleton.2 rfl)))];rfl
end
theorem srt_all{S L:List Pt2}(hn:L.Nodup)(hs:∀ p∈L,p∈S)(ha:∀ p∈S,p∈L):srtL L=hullS S:=by
 refine srt_ext ?_ (hullS_srt S) fun q=>by rw[srtL_mem,hullS_mem];exact⟨hs q,ha q⟩
 have h1:=srtL_pw L
 have h2:(srtL L).Nodup:=by unfold srtL;exact(List.mergeSort_perm L _).nodup_iff.2 hn
 unfold Srt
 exact(h1.and h2).imp fun {x y} h=>by
  rcases lx_tri x y with k | k | k
  ·exact k
  ·exact absurd k h.2
  ·exact absurd k h.1
def Lays(b:Nat)(E:List Pt2)(w w' : World):Prop:=Only b w w' ∧ ∀ S,SetP w b S→∃ T,SetP w' b (S++T)∧∀ t∈T,t∈E
theorem Lays.trans{b:Nat}{E:List Pt2}{a c d:World}(h:Lays b E a c)(k:Lays b E c d):Lays b E a d:=by
 refine⟨h.1.trans k.1,fun S hS=>?_⟩
 obtain⟨T,hT,h1⟩:=h.2 S hS
 obtain⟨U,hU,h2⟩:=k.2 _ hT
 refine⟨T++U,by rw[← List.append_assoc];exact hU,fun t ht=>?_⟩
 rcases List.mem_append.1 ht with ht | ht
 ·exact h1 t ht
 ·exact h2 t ht
theorem Lays.of{b:Nat}{E:List Pt2}{a c:World}(h:Since a c):Lays b E a c :=
 ⟨h.only b,fun S hS=>⟨[],by rw[List.append_nil];exact hS.since h,fun t ht=>by cases ht⟩⟩
@[reducible] def laysG (b : Nat) (E : List Pt2) : RegG where
 base:=b+1
 keep:=fun _=>True
 G:=Lays b E
 rfl_ w:=.of (Since.rfl_ w)
 trans_:=Lays.trans
 size_ h:=h.1.size
 of_:=Lays.of
 new_ {a c} h {g t cs} _ hg k:=Only.blk h.1 k (by omega)
theorem SetP.same{w:World}{b:Nat}{S T:List Pt2}(h:SetP w b S)(k:SetP w b T)(p:Pt2):p∈S↔p∈T:=by
 have key:∀ {S T:List Pt2},SetP w b S→SetP w b T→∀ p,p∈S→p∈T:=fun {S T} h k p hp=>by
  obtain⟨ok1,D1,⟨es1,c1,hb1,-,-,rfl⟩,k1⟩:=h
  obtain⟨ok2,D2,⟨es2,c2,hb2,-,-,rfl⟩,k2⟩:=k
  rw[hb1] at hb2
  injection hb2 with hb2
  injection hb2 with e1 e2
  subst e1
  obtain⟨q,hq,e⟩:=(k2 _).1 ((k1 _).2 ⟨p,hp,rfl⟩)
  rw[← ptKey_inj (ok2 q hq) (ok1 p hp) e];exact hq
 exact⟨key h k p,key k h p⟩
theorem lay_one{w:World}{b:Nat}{A T E:List Pt2}{p:Pt2}(h:SetP w b (A++T))(hT:∀ t∈T,t∈E)(hlen:(A++E).length<maxLen)(hp:okP p.1 p.2=true)(hpE:p∈E) :
  ∃ w',(Instr.mapUpdate 119 (.map (some b)) (.agg #[.int .i64 p.1,.int .i64 p.2]) (.bool true)).run Tryz.prog w=.ok () w' ∧ SetP w' b (A++(T++[p]))∧(∀ t∈T++[p],t∈E)∧Lays b E w w' := by
 have hE:∀ t∈T++[p],t∈E:=fun t ht=>by
  rcases List.mem_append.1 ht with ht | ht
  ·exact hT t ht
  ·rw[List.mem_singleton] at ht;rw[ht];exact hpE
 obtain⟨w',h1,h2,h3⟩:=h.store (Nat.lt_of_le_of_lt (hull_len_le (T:=A++E) fun q hq=>by
  rcases List.mem_append.1 hq with hq | hq
  ·exact List.mem_append_left _ hq
  ·exact List.mem_append_right _ (hT q hq)) hlen) hp
 refine⟨w',h1,by rw[← List.append_assoc];exact h2,hE,h3,fun S hS=>⟨[p],h2.congr fun q=>?_,fun t ht=>by rw[List.mem_singleton] at ht;rw[ht];exact hpE⟩⟩
 rw[List.mem_append (s:=A++T),List.mem_append (s:=S),hS.same h q]
end
end Go.Proofs.YtdnccjdlmepafaaGreat
