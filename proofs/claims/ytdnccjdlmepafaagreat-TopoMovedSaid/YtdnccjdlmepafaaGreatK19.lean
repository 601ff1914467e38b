/-
  A region that draws its order, by new blocks and draws alone; walked once in the order of the text. Conditions: those that each lemma names.
-/
import Derived.Test.YtdnccjdlmepafaaGreatK03
import Derived.Sort.Grow
set_option linter.unusedSimpArgs false
set_option linter.unusedVariables false
set_option linter.constructorNameAsVariable false
namespace Go.Proofs.YtdnccjdlmepafaaGreat
section
open Go.RowKit Go.BigFrame
def SinceD(w w' : World):Prop:=Since w w' ∧ w.drawn≤w'.drawn
section
variable {a b c : World}
theorem SinceD.rfl_(w:World):SinceD w w:=⟨Since.rfl_ w,Nat.le_refl _⟩
theorem SinceD.size(h:SinceD a b):a.heap.size≤b.heap.size:=h.1.size
theorem SinceD.trans(h:SinceD a b)(k:SinceD b c):SinceD a c:=⟨h.1.trans k.1,Nat.le_trans h.2 k.2⟩
theorem SinceD.alloc(h:SinceD a b)(o:Obj):SinceD a (b.alloc o):=⟨h.1.alloc o,h.2⟩
theorem SinceD.drew(h:SinceD a b):SinceD a b.drew:=⟨h.1.drew,Nat.le_succ_of_le h.2⟩
theorem SinceD.setCell(h:SinceD a b){p:Addr}(hp:a.heap.size≤p.block)(v:Value):SinceD a (b.setCell p v):=⟨h.1.setCell hp v,by rw[show(b.setCell p v).drawn=b.drawn by unfold World.setCell;split <;> rfl];exact h.2⟩
theorem SinceD.blk(h:SinceD a b){g:Nat}{t:TypeId}{cs:Array Value}(k:Blk a g t cs):Blk b g t cs:=h.1.blk k
theorem SinceD.grow(h:SinceD a b):∃ n os,b=Go.Sort.grow (a.drewN n) os:=by
 obtain⟨⟨h1,h2,h3,h4,h5⟩,h6⟩:=h
 refine⟨b.drawn-a.drawn,b.heap.extract a.heap.size,?_⟩
 obtain⟨hp,tp,dr,os,out⟩:=b
 simp only at h1 h2 h3 h4 h5 h6
 subst h1 h2 h3
 unfold Go.Sort.grow World.drewN
 simp only
 congr 1
 ·apply Array.ext_getElem?
  intro i
  rw[Array.getElem?_append]
  split
  ·exact h5 i (by assumption)
  ·rw[Array.getElem?_extract]
   split
   ·congr 1;omega
   ·rw[Array.getElem?_eq_none];omega
 ·omega
end
def Spec.factD(base:Nat):Spec→Value→World→Prop
 | .det _,_,_=>True
 | .mk f t cs,v,w=>∃ g,v=f g∧Blk w g t cs∧base≤g
 | .any R,v,w=>R v w
def Spec.monoD:Spec→Prop
 | .any R=>∀ v w w',R v w→SinceD w w' → R v w'
 | .mk f _ _=>∀ g g',f g=f g' → g=g'
 | _=>True
def runVD(P:Program)(o:Oper)(a:Act)(w:World)(post:Value→World→Prop):Prop :=
 match (execOp a.eval o).run P w with
 | .ok (.value v) w' => post v w'
 | .ok .skip w' => post undef w'
 | .ok (.enter f args) w' => Calls P f args w' fun e w'' => ∃ v,e=.returned v∧post v w''
 | _=>False
def Spec.asksD(P:Program)(ops:Array Oper)(S:World→Prop)(o:Oper)(a:Act)(F:World→Prop):Spec→Prop
 | .det c=>if Region.wanted o (yielded ops a.tmps)=true then(∀ w w',F w→SinceD w w' → F w')→∀ wx,S wx→F wx→o.quiet P a (Cls fun w' => S w' ∧ F w' ∧ SinceD wx w') (fun a' => a' = a.put o.dst c) else c=undef
 | .mk f t cs=>Region.wanted o (yielded ops a.tmps)=true∧∀ w,(execOp a.eval o).run P w=.ok (.value (f w.heap.size)) (w.alloc (.cells cs t))
 | .any R=>Region.wanted o (yielded ops a.tmps)=true∧∀ w,S w→F w→runVD P o a w fun v w' => R v w' ∧ SinceD w w'
def wpOD(P:Program)(ops:Array Oper)(S:World→Prop)(base:Nat)(K:Act→World→Prop):List Oper→List Spec→List (World→Prop)→List (Nat→Prop)→Act→Prop
 | [],[],Fs,Bs,a=>∀ w,S w→allF Fs w→Bs.Pairwise (fun p q=>∀ g g',p g→q g' → g≠g')→K a w
 | o :: l,s :: ss,Fs,Bs,a=>s.monoD∧s.asksD P ops S o a (factsOf Fs (pres o))∧∀ v,s.shape v→wpOD P ops S base K l ss (Fs++[s.factD base v]) (Bs++[s.blk v]) (a.put o.dst v)
 | _,_,_,_,_=>False
def factLD(base:Nat):List Spec→List Value→List (World→Prop)
 | s :: ss,v :: vs=>s.factD base v :: factLD base ss vs
 | _,_=>[]
section
variable {P : Program} {ops : Array Oper} {S : World → Prop} {base : Nat} {K : Act → World → Prop}
theorem wpO_lenD:∀ {l:List Oper} {ss:List Spec} {Fs:List (World→Prop)} {Bs:List (Nat→Prop)} {a:Act} {vs:List Value},wpOD P ops S base K l ss Fs Bs a→shapeL ss vs→l.length=ss.length
 | [],[],_,_,_,_,_,_=>rfl
 | o :: l,s :: ss,Fs,Bs,a,v :: vs,h,hs=>by simp[wpO_lenD (h.2.2 v hs.1) hs.2]
 | [],_ :: _,_,_,_,_,h,_=>by unfold wpOD at h;exact h.elim
 | _ :: _,[],_,_,_,_,h,_=>by unfold wpOD at h;exact h.elim
 | _ :: _,_ :: _,_,_,_,[],_,hs=>hs.elim
theorem wpO_getD:∀ {l:List Oper} {ss:List Spec} {Fs:List (World→Prop)} {Bs:List (Nat→Prop)} {a:Act} {vs:List Value},wpOD P ops S base K l ss Fs Bs a→shapeL ss vs →
  ∀ (i:Nat) (o:Oper) (s:Spec),l[i]? = some o→ss[i]? = some s→s.monoD∧s.asksD P ops S o (fr (l.take i) (vs.take i) a) (factsOf (Fs++factLD base (ss.take i) (vs.take i)) (pres o))
 | o :: l,s :: ss,Fs,Bs,a,v :: vs,h,hs,0,o',s',ho,hs' => by
  simp at ho hs'
  subst ho hs'
  simpa[fr,factLD] using ⟨h.1,h.2.1⟩
 | o :: l,s :: ss,Fs,Bs,a,v :: vs,h,hs,i+1,o',s',ho,hs' => by
  simp at ho hs'
  have:=wpO_getD (h.2.2 v hs.1) hs.2 i o' s' ho hs'
  simpa[fr,factLD] using this
 | [],_,_,_,_,_,_,_,_,_,_,ho,_=>by simp at ho
 | _ :: _,[],_,_,_,_,h,_,_,_,_,_,_=>by unfold wpOD at h;exact h.elim
 | _ :: _,_ :: _,_,_,_,[],_,hs,_,_,_,_,_=>hs.elim
theorem wpO_finD:∀ {l:List Oper} {ss:List Spec} {Fs:List (World→Prop)} {Bs:List (Nat→Prop)} {a:Act} {vs:List Value},wpOD P ops S base K l ss Fs Bs a→shapeL ss vs →
  ∀ w,S w→allF (Fs++factLD base ss vs) w→(Bs++blkL ss vs).Pairwise (fun p q=>∀ g g',p g→q g' → g≠g')→K (fr l vs a) w
 | [],[],Fs,Bs,a,[],h,_,w,hw,hf,hb=>by
  unfold wpOD at h
  exact h w hw (by simpa[factLD] using hf) (by simpa[blkL] using hb)
 | o :: l,s :: ss,Fs,Bs,a,v :: vs,h,hs,w,hw,hf,hb=>wpO_finD (h.2.2 v hs.1) hs.2 w hw (by simpa[factLD] using hf) (by simpa[blkL] using hb)
 | [],_ :: _,_,_,_,_,h,_,_,_,_,_=>by unfold wpOD at h;exact h.elim
 | _ :: _,[],_,_,_,_,h,_,_,_,_,_=>by unfold wpOD at h;exact h.elim
 | [],[],_,_,_,_ :: _,_,hs,_,_,_,_=>hs.elim
 | _ :: _,_ :: _,_,_,_,[],_,hs,_,_,_,_=>hs.elim
structure HdD(P:Program)(ops:Array Oper)(S:World→Prop)(base n:Nat)(ss:List Spec)(a0:Act)(listed:Array Bool)(a:Act)(w:World)(vs:List Value):Prop where
 len:vs.length=n
 shape:shapeL ss vs
 defs:a.defers=a0.defers
 siz:a.tmps.size=a0.tmps.size
 out:∀ t:Nat,(∀ (j:Nat) o,j<n→ops[j]? = some o→listed.getD j false=true→o.dst≠some t)→a.tmps[t]? = a0.tmps[t]?
 inn:∀ (j:Nat) o (t:Nat),j<n→ops[j]? = some o→listed.getD j false=true→o.dst=some t→t<a0.tmps.size→a.tmps[t]? = vs[j]?
 fact:∀ (j:Nat) s v,j<n→listed.getD j false=true→ss[j]? = some s→vs[j]? = some v→s.factD base v w
 dis:∀ (j k:Nat) s s' v v',j<k→listed.getD j false=true→listed.getD k false=true→ss[j]? = some s→ss[k]? = some s' → vs[j]? = some v→vs[k]? = some v' → ∀ g g',s.blk v g→s'.blk v' g' → g≠g'
 cls:S w
 bas:base≤w.heap.size
theorem HdD.sees{n i:Nat}{ss:List Spec}{a0 a:Act}{listed:Array Bool}{w:World}{vs:List Value}{o:Oper}(h:HdD P ops S base n ss a0 listed a w vs)(hB:Region.looksB ops n=true)(hi:i<n)(ho:ops[i]? = some o)
  (hr:∀ e∈o.after,Region.binds .any e=true→listed.getD e.on false=true):∀ t∈o.looksAt ops,a.tmps[t]? = (fr (ops.toList.take i) (vs.take i) a0).tmps[t]? := by
 intro t ht
 obtain⟨-,hl⟩:=looksB_spec hB hi ho
 by_cases hex:∃ (j:Nat) (oj:Oper),j<n∧ops[j]? = some oj∧oj.dst=some t
 ·obtain⟨j,oj,hj,hoj,hd⟩:=hex
  obtain⟨hji,hp⟩:=(hl j oj t hj hoj hd).2 ht
  have hlj:listed.getD j false=true:=by
   unfold pres at hp
   obtain⟨e,he,rfl⟩:=List.mem_map.1 hp
   rw[List.mem_filter] at he
   exact hr e (by simpa using he.1) he.2
  have huniq:∀ (k:Nat) o',k≠j→(ops.toList.take i)[k]? = some o' → o'.dst≠some t:=fun k o' hk hko hd' => by
   obtain⟨hki,hko'⟩:=take_some hko
   obtain⟨-,hlk⟩:=looksB_spec hB (show k<n by omega) (by simpa using hko')
   exact(hlk j oj t hj hoj hd).1 (Ne.symm hk) hd'
  rcases Nat.lt_or_ge t a0.tmps.size with hlt | hge
  ·rw[h.inn j oj t hj hoj hlj hd hlt,fr_in _ _ a0 t j oj (by rw[take_get hji];simpa using hoj) (by rw[List.length_take,h.len];omega) hd huniq hlt,take_get hji]
  ·rw[Array.getElem?_eq_none (by rw[h.siz];exact hge),Array.getElem?_eq_none (by rw[fr_size];exact hge)]
 ·rw[h.out t fun j oj hj hoj _ hd=>hex ⟨j,oj,hj,hoj,hd⟩,fr_out _ _ a0 t fun j oj hoj hd=>?_]
  obtain⟨hji,hoj'⟩:=take_some hoj
  exact hex ⟨j,oj,by omega,by simpa using hoj',hd⟩
theorem Spec.keepD{s:Spec}(h:s.monoD){v:Value}{w w' : World}(hf:s.factD base v w)(hs:SinceD w w'):s.factD base v w' := by
 cases s with
 | det c=>trivial
 | mk f t cs =>
  obtain⟨g,e,hb,hg⟩:=hf
  exact⟨g,e,hs.blk hb,hg⟩
 | any R=>exact h _ _ _ hf hs
theorem HdD.step{n i:Nat}{ss:List Spec}{a0 a:Act}{listed:Array Bool}{w w' : World}{vs:List Value}{o:Oper}{s:Spec}{v:Value}(h:HdD P ops S base n ss a0 listed a w vs)(hB:Region.looksB ops n=true)(hn:n≤ops.size)(hsz:listed.size=ops.size)
  (hi:i<n) (ho:ops[i]? = some o) (hs:ss[i]? = some s) (hm:∀ (j:Nat) s,ss[j]? = some s→s.monoD) (hsh:shapeL ss (vs.set i v)) (hf:s.factD base v w') (hw:SinceD w w') (hc:S w') (hd:∀ g,s.blk v g→w.heap.size≤g) :
  HdD P ops S base n ss a0 (listed.setIfInBounds i true) (a.put o.dst v) w' (vs.set i v):=by
 have hil:i<listed.size:=by omega
 have hiv:i<vs.length:=by rw[h.len];exact hi
 obtain⟨-,hl⟩:=looksB_spec hB hi ho
 have below:∀ (j:Nat) s' v',listed.getD j false=true→j<n→ss[j]? = some s' → vs[j]? = some v' → ∀ g,s'.blk v' g→g<w.heap.size:=by
  intro j s' v' hlj hj hsj hvj g hg
  have hf:=h.fact j s' v' hj hlj hsj hvj
  cases s' with
  | det c=>exact hg.elim
  | any R=>exact hg.elim
  | mk f t cs =>
   obtain⟨g',e,hb,-⟩:=hf
   have:g' = g:=hm j _ hsj g' g (e.symm.trans hg)
   subst this
   exact hb.lt
 have lt_n:∀ (j:Nat) s',ss[j]? = some s' → j<n:=fun j s' hj=>by
  have h1:=(List.getElem?_eq_some_iff.1 hj).1
  have h2:=shapeL_len h.shape
  have h3:=h.len
  omega
 refine⟨by simpa using h.len,hsh,?_,?_,fun t ht=>?_,fun j oj t hj hoj hlj hdj hlt=>?_,fun j s' v' hj hlj hsj hvj=>?_,fun j k s1 s2 v1 v2 hjk hlj hlk h1 h2 hv1 hv2 g g' hg hg' => ?_,hc,Nat.le_trans h.bas hw.size⟩
 ·rw[← h.defs];cases e:o.dst <;> simp[Act.put]
 ·rw[← h.siz];cases e:o.dst <;> simp[Act.put]
 ·rw[put_out (ht i o hi ho (set_same hil))]
  refine h.out t fun j oj hj hoj hlj=>ht j oj hj hoj ?_
  exact getD_set_true hlj
 ·by_cases e:j=i
  ·subst e
   obtain rfl:oj=o:=Option.some.inj (hoj.symm.trans ho)
   rw[hdj,put_in (by rw[h.siz];exact hlt),List.getElem?_set_self hiv]
  ·rw[put_out ((hl j oj t hj hoj hdj).1 e),List.getElem?_set_ne (Ne.symm e)]
   rw[getD_set_ne false (Ne.symm e)] at hlj
   exact h.inn j oj t hj hoj hlj hdj hlt
 ·by_cases e:j=i
  ·subst e
   obtain rfl:s' = s:=Option.some.inj (hsj.symm.trans hs)
   rw[List.getElem?_set_self hiv] at hvj
   injection hvj with hvj
   subst hvj
   exact hf
  ·rw[getD_set_ne false (Ne.symm e)] at hlj
   rw[List.getElem?_set_ne (Ne.symm e)] at hvj
   exact Spec.keepD (hm j s' hsj) (h.fact j s' v' hj hlj hsj hvj) hw
 ·have hj:=lt_n j s1 h1
  have hk:=lt_n k s2 h2
  by_cases e:j=i
  ·subst e
   obtain rfl:s1=s:=Option.some.inj (h1.symm.trans hs)
   rw[List.getElem?_set_self hiv] at hv1
   injection hv1 with hv1
   subst hv1
   rw[getD_set_ne false (by omega)] at hlk
   rw[List.getElem?_set_ne (by omega)] at hv2
   have:=below k s2 v2 hlk hk h2 hv2 g' hg'
   have:=hd g hg
   omega
  ·by_cases e' : k=i
   ·subst e'
    obtain rfl:s2=s:=Option.some.inj (h2.symm.trans hs)
    rw[List.getElem?_set_self hiv] at hv2
    injection hv2 with hv2
    subst hv2
    rw[getD_set_ne false (by omega)] at hlj
    rw[List.getElem?_set_ne (by omega)] at hv1
    have:=below j s1 v1 hlj hj h1 hv1 g hg
    have:=hd g' hg'
    omega
   ·rw[getD_set_ne false (Ne.symm e)] at hlj
    rw[getD_set_ne false (Ne.symm e')] at hlk
    rw[List.getElem?_set_ne (Ne.symm e)] at hv1
    rw[List.getElem?_set_ne (Ne.symm e')] at hv2
    exact h.dis j k s1 s2 v1 v2 hjk hlj hlk h1 h2 hv1 hv2 g g' hg hg'
theorem factL_getD:∀ {ss:List Spec} {vs:List Value} {j:Nat} {F:World→Prop},(factLD base ss vs)[j]? = some F→∃ s v,ss[j]? = some s∧vs[j]? = some v∧F=s.factD base v
 | s :: ss,v :: vs,0,F,h=>by
  simp[factLD] at h
  exact⟨s,v,rfl,rfl,h.symm⟩
 | s :: ss,v :: vs,j+1,F,h=>by
  simp only[factLD,List.getElem?_cons_succ] at h
  simpa using factL_getD h
 | [],_,_,_,h=>by simp[factLD] at h
 | _ :: _,[],_,_,h=>by simp[factLD] at h
theorem factsOf_keepD{Fs:List (World→Prop)}(hm:∀ F∈Fs,∀ w w',F w→SinceD w w' → F w'){w w' : World}:∀ {js:List Nat},factsOf Fs js w→SinceD w w' → factsOf Fs js w'
 | [],_,_=>trivial
 | j :: js,h,k=>⟨by
     have h1:=h.1
     cases e:Fs[j]? with
     | none=>simp[List.getD,e]
     | some F =>
      simp only[List.getD,e,Option.getD_some] at h1 ⊢
      exact hm F (List.mem_of_getElem? e) w w' h1 k,factsOf_keepD hm h.2 k⟩
theorem allF_mkD{w:World}:∀ {ss:List Spec} {vs:List Value},(∀ (j:Nat) s v,ss[j]? = some s→vs[j]? = some v→s.factD base v w)→allF (factLD base ss vs) w
 | s :: ss,v :: vs,h=>⟨h 0 s v rfl rfl,allF_mkD fun j s' v' hs hv=>h (j+1) s' v' (by simpa using hs) (by simpa using hv)⟩
 | [],_,_=>by simp[factLD,allF]
 | _ :: _,[],_=>by simp[factLD,allF]
theorem facts_anyD{Q:Exit→Act→World→Prop}{n:Nat}{ss:List Spec}{a0:Act}(hsel:Region.noSelect ops=true)(hn:n≤ops.size)(hsc:n=ops.size∨(Region.sinkB .any ops n=true∧Region.chainB .any ops n=true))(hB:Region.looksB ops n=true)
  (hseq:Region.seqB .any ops (ops.size-n) n (fullL ops.size n)=true) (hO:wpOD P ops S base (fun a w=>wpList P ops Q (ops.toList.drop n) a w) (ops.toList.take n) ss [] [] a0) (hsl:ss.length=n) (hmono:∀ w w',S w→SinceD w w' → S w') :
  ∀ (f:Nat) (listed:Array Bool) (a:Act) (w:World) (vs:List Value),HeadInv .any ops n listed→cnt n listed=f→HdD P ops S base n ss a0 listed a w vs→wpAny P .any ops Q (f+(ops.size-n)) listed a w:=by
 have hgood:∀ (j:Nat) s,ss[j]? = some s→s.monoD:=fun j s hj=>by
  obtain⟨vs,hvs⟩:=shapeL_some ss
  have hjn:j<n:=by have:=(List.getElem?_eq_some_iff.1 hj).1;omega
  have hjo:j<ops.toList.length:=by simp;omega
  exact(wpO_getD hO hvs j (ops.toList[j]) s (by rw[take_get hjn];exact List.getElem?_eq_getElem hjo) hj).1
 intro f
 induction f with
 | zero =>
  intro listed a w vs inv hc h
  have hall:∀ i,i<n→listed.getD i true=true:=fun i hi=>by
   cases e:listed.getD i true with
   | true=>rfl
   | false=>have:=cnt_pos hi e;omega
  have hall' : ∀ i,i<n→listed.getD i false=true:=fun i hi=>by
   have:=hall i hi
   have hlt:i<listed.size:=by rw[inv.size];omega
   simpa[hlt] using this
  have hfin:=wpO_finD hO h.shape w h.cls (by
   rw[List.nil_append]
   exact allF_mkD fun j s v hs hv=>h.fact j s v (by have:=(List.getElem?_eq_some_iff.1 hs).1;omega) (hall' j (by have:=(List.getElem?_eq_some_iff.1 hs).1;omega)) hs hv) (by
   rw[List.nil_append]
   exact blkL_pair fun j k s s' v v' hjk h1 h2 h3 h4=>h.dis j k s s' v v' hjk (hall' j (by have:=(List.getElem?_eq_some_iff.1 h1).1;omega)) (hall' k (by have:=(List.getElem?_eq_some_iff.1 h2).1;omega)) h1 h2 h3 h4)
  have ea:a=fr (ops.toList.take n) vs a0:=by
   obtain⟨tm,df⟩:=a
   have e1:=h.defs
   have e2:=h.siz
   have e3:=h.out
   have e4:=h.inn
   dsimp only at e1 e2 e3 e4
   have:tm=(fr (ops.toList.take n) vs a0).tmps:=by
    apply Array.ext_getElem?
    intro t
    by_cases hex:∃ (j:Nat) (oj:Oper),j<n∧ops[j]? = some oj∧oj.dst=some t
    ·obtain⟨j,oj,hj,hoj,hd⟩:=hex
     rcases Nat.lt_or_ge t a0.tmps.size with hlt | hge
     ·rw[e4 j oj t hj hoj (hall' j hj) hd hlt,fr_in _ _ a0 t j oj (by rw[take_get hj];simpa using hoj) (by rw[h.len];exact hj) hd ?_ hlt]
      intro k o' hk hko hd'
      obtain⟨hkn,hko'⟩:=take_some hko
      obtain⟨-,hlk⟩:=looksB_spec hB hkn (by simpa using hko')
      exact(hlk j oj t hj hoj hd).1 (Ne.symm hk) hd'
     ·rw[Array.getElem?_eq_none (by omega),Array.getElem?_eq_none (by rw[fr_size];exact hge)]
    ·rw[e3 t fun j oj hj hoj _ hd=>hex ⟨j,oj,hj,hoj,hd⟩,fr_out _ _ a0 t fun j oj hoj hd=>?_]
     obtain⟨hji,hoj'⟩:=take_some hoj
     exact hex ⟨j,oj,hji,by simpa using hoj',hd⟩
   have hdf:df=(fr (ops.toList.take n) vs a0).defers:=by rw[fr_defers];exact e1
   subst this hdf
   rfl
  rw[← ea] at hfin
  have hl:=full_of inv hn hall
  have hdl:(ops.toList.drop n).length=ops.size-n:=by simp
  have:=wpAny_of_seq (md:=.any) (Q' := Q) (ops.toList.drop n) n listed a w (fun j=>by simp[List.getElem?_drop]) (by rw[hdl,hl];exact hseq) hfin
  rw[hdl] at this
  rw[Nat.zero_add]
  exact this
 | succ f ih =>
  intro listed a w vs inv hc h
  rw[show f+1+(ops.size-n)=(f+(ops.size-n))+1 by omega]
  have hex:∃ i,i<n∧listed.getD i true=false∧∀ j,j<i→listed.getD j true=true:=by
   rcases first_un (n:=n) (listed:=listed) n (Nat.le_refl _) with h1 | h1
   ·have:=cnt_zero h1;omega
   ·exact h1
  obtain⟨i0,hi0,hu0,hm0⟩:=hex
  refine⟨fun hr=>?_,fun i hi=>?_⟩
  ·exfalso
   have ho0:ops[i0]? = some ops[i0]:=Array.getElem?_eq_getElem (by omega)
   obtain⟨hl,-⟩:=looksB_spec hB hi0 ho0
   have:i0∈Region.ready .any ops listed:=mem_ready.2 ⟨hu0,_,ho0,fun e he hb=>by
    have hlt:=hl e he hb
    have:=hm0 e.on hlt
    have hsz:e.on<listed.size:=by rw[inv.size];omega
    simpa[hsz] using this⟩
   rw[hr] at this
   cases this
  ·obtain⟨hun,o,ho,hall⟩:=mem_ready.1 hi
   have hin:i<n:=by
    rcases Nat.lt_or_ge i n with h1 | h1
    ·exact h1
    ·have hio:=(Array.getElem?_eq_some_iff.1 ho).1
     rcases hsc with hsc | ⟨hs1,hs2⟩
     ·omega
     ·exact absurd hi (tail_waits hs1 hs2 (by omega) inv _ i0 rfl hi0 hu0 i h1)
   have hsz:=inv.size
   have his:i<listed.size:=by rw[hsz];omega
   have hss:ss[i]? = some ss[i]:=List.getElem?_eq_getElem (by omega)
   generalize hsi:ss[i]=s at hss
   have hsee:=h.sees hB hin ho hall
   have hex:=eval_eq (ops:=ops) (o:=o) (Region.noSelect_spec hsel i o · · ho) hsee
   have hwa:=wanted_eq (ops:=ops) (o:=o) hsee
   obtain⟨hmo,hask⟩:=wpO_getD hO h.shape i o s (by rw[take_get hin];simpa using ho) hss
   rw[List.take_take,Nat.min_eq_left (by omega),List.nil_append] at hask
   have hF:factsOf (factLD base (ss.take i) (vs.take i)) (pres o) w:=factsOf_mk fun j hj F hF=>by
    obtain⟨s',v',h1,h2,rfl⟩:=factL_getD hF
    obtain⟨hji,h1⟩:=take_some h1
    obtain⟨-,h2⟩:=take_some h2
    unfold pres at hj
    obtain⟨e,he,rfl⟩:=List.mem_map.1 hj
    rw[List.mem_filter] at he
    exact h.fact e.on s' v' (by omega) (hall e (by simpa using he.1) he.2) h1 h2
   have hFm:∀ w w',factsOf (factLD base (ss.take i) (vs.take i)) (pres o) w→SinceD w w' → factsOf (factLD base (ss.take i) (vs.take i)) (pres o) w' := fun w w' h k=>factsOf_keepD (fun F hF=>by
    obtain⟨j,hj⟩:=List.getElem?_of_mem hF
    obtain⟨s',v',h1,h2,rfl⟩:=factL_getD hj
    obtain⟨-,h1⟩:=take_some h1
    exact fun w w' hf hk=>Spec.keepD (hgood j s' h1) hf hk) h k
   have go:∀ (v:Value) (w' : World),s.shape v→s.factD base v w' → SinceD w w' → (∀ g,s.blk v g→w.heap.size≤g)→wpAny P .any ops Q (f+(ops.size-n)) (listed.setIfInBounds i true) (a.put o.dst v) w' := fun v w' hv hf hw hd =>
    ih _ _ _ _ (inv.set hi hin) (by have:=(cnt_set his hun n).2 hin;omega) (h.step hB hn hsz hin ho hss hgood (shapeL_set h.shape hss hv) hf hw (hmono _ _ h.cls hw) hd)
   generalize hA:fr (ops.toList.take i) (vs.take i) a0=A at *
   have hAs:a.tmps.size=A.tmps.size:=by rw[← hA,fr_size];exact h.siz
   unfold wpOp
   simp only[ho]
   rw[hwa]
   cases s with
   | det c =>
    unfold Spec.asksD at hask
    dsimp only at hask
    by_cases hw:Region.wanted o (yielded ops A.tmps)=true
    ·rw[if_pos hw] at hask ⊢
     obtain⟨v,hv,hp⟩:=hask hFm w h.cls hF
     have hq:=hv w ⟨h.cls,hF,SinceD.rfl_ w⟩
     have hpc:a.put o.dst v=a.put o.dst c:=put_congr hp hAs
     left
     unfold Oper.wp
     rw[hex]
     unfold Oper.quietAt at hq
     generalize (execOp A.eval o).run P w=r at hq
     unfold Oper.quietUpon at hq
     split at hq
     ·obtain⟨rfl,rfl⟩:=hq
      show wpAny P .any ops Q _ _ (a.put o.dst _) _
      rw[hpc]
      exact go c _ rfl trivial (SinceD.rfl_ _) (fun g hg=>hg.elim)
     ·obtain⟨rfl,rfl⟩:=hq
      show wpAny P .any ops Q _ _ (a.put o.dst _) _
      rw[hpc]
      exact go c _ rfl trivial (SinceD.rfl_ _) (fun g hg=>hg.elim)
     ·obtain⟨rfl,hcall⟩:=hq
      rw[Oper.upon_enter]
      refine hcall.mono ?_
      rintro e w'' ⟨rfl,hC⟩
      show wpAny P .any ops Q _ _ (a.put o.dst _) _
      rw[hpc]
      exact go c _ rfl trivial hC.out.2.2 (fun g hg=>hg.elim)
     ·exact hq.elim
    ·rw[if_neg hw] at hask ⊢
     subst hask
     exact go undef w rfl trivial (SinceD.rfl_ _) (fun g hg=>hg.elim)
   | mk fn t cs =>
    obtain⟨hw,hrun⟩:=hask
    rw[if_pos hw]
    left
    unfold Oper.wp
    rw[hex,hrun w]
    show wpAny P .any ops Q _ _ (a.put o.dst _) _
    refine go _ _ ⟨_,rfl⟩ ⟨_,rfl,Blk.new w t cs,h.bas⟩ ((SinceD.rfl_ w).alloc _) (fun g hg=>?_)
    have:w.heap.size=g:=hmo _ _ hg
    omega
   | any R =>
    obtain⟨hw,hrun⟩:=hask
    rw[if_pos hw]
    left
    unfold Oper.wp
    rw[hex]
    have hr:=hrun w h.cls hF
    unfold runVD at hr
    generalize (execOp A.eval o).run P w=r at hr
    split at hr
    ·exact go _ _ trivial hr.1 hr.2 (fun g hg=>hg.elim)
    ·exact go _ _ trivial hr.1 hr.2 (fun g hg=>hg.elim)
    ·rw[Oper.upon_enter]
     refine hr.mono ?_
     rintro e w'' ⟨v,rfl,h1,h2⟩
     exact go v _ trivial h1 h2 (fun g hg=>hg.elim)
    ·exact hr.elim
end
theorem cls_callD{S F:World→Prop}(hM:∀ w w',S w→SinceD w w' → S w'){wx w w' : World}(hF:∀ w w',F w→SinceD w w' → F w')(hC:Cls (fun w' => S w' ∧ F w' ∧ SinceD wx w') w)(h:SinceD w w'):Cls (fun w' => S w' ∧ F w' ∧ SinceD wx w') w' :=
 ⟨hM _ _ hC.out.1 h,hF _ _ hC.out.2.1 h,hC.out.2.2.trans h⟩
theorem region_factsD{P:Program}{id:Nat}{Q:Exit→Act→World→Prop}{a:Act}{w:World}{l:List Oper}(n:Nat)(S:World→Prop)(hm:P.follows .mixedOrders=true)(hB:Region.factsB l.toArray n=true)(hS:S w.drew)(hmono:∀ w w',S w→SinceD w w' → S w')(ss:List Spec)
  (h:wpOD P l.toArray S w.heap.size (fun a' w' => wpList P l.toArray Q (l.drop n) a' w') (l.take n) ss [] [] a):(Code.region id l.toArray true).wp P Q a w:=by
 unfold Region.factsB at hB
 simp only[Bool.and_eq_true,Bool.or_eq_true,decide_eq_true_eq] at hB
 obtain⟨⟨⟨⟨h1,h2⟩,h3⟩,h4⟩,h5⟩:=hB
 obtain⟨vs,hvs⟩:=shapeL_some ss
 have hlen:(l.take n).length=n:=by simp at h2 ⊢;omega
 have hss:ss.length=n:=by rw[← wpO_lenD h hvs,hlen]
 refine wp_region_any hm ?_
 have inv0:HeadInv .any l.toArray n (Array.replicate l.toArray.size false) :=
  ⟨by simp,fun j oj _ hl=>(by rw[getD_replicate_false] at hl;cases hl),fun t _ ht=>getD_in (by simpa using ht) (getD_replicate_false _ _)⟩
 have hc:cnt n (Array.replicate l.toArray.size false)=n:=by
  unfold cnt
  rw[List.countP_eq_length.2,List.length_range]
  intro i hi
  have hin:=List.mem_range.1 hi
  simp only[List.size_toArray] at h2 ⊢
  have:i<l.length:=by omega
  simp[this]
 have hd0:HdD P l.toArray S w.heap.size n ss a (Array.replicate l.toArray.size false) a { w with drawn:=w.drawn+1 } vs :=
  ⟨by rw[← shapeL_len hvs,hss],hvs,rfl,rfl,fun t _=>rfl,fun j o t _ _ hl=>(by rw[getD_replicate_false] at hl;cases hl),fun j s v _ hl=>(by rw[getD_replicate_false] at hl;cases hl),fun j k s s' v v' _ hl=>(by rw[getD_replicate_false] at hl;cases hl),hS,Nat.le_refl _⟩
 have:=facts_anyD h1 h2 h3 h4 h5 (by simpa using h) hss hmono n _ _ _ _ inv0 hc hd0
 rwa[show n+(l.toArray.size-n)=l.toArray.size by omega] at this
section
variable {P : Program} {ops : Array Oper} {S : World → Prop} {base : Nat} {K : Act → World → Prop} {l : List Oper} {o : Oper} {ss : List Spec} {Fs : List (World → Prop)} {Bs : List (Nat → Prop)} {a : Act}
theorem wpO_nilD(h:∀ w,S w→allF Fs w→Bs.Pairwise (fun p q=>∀ g g',p g→q g' → g≠g')→K a w):wpOD P ops S base K [] [] Fs Bs a:=h
theorem wpO_detD{c:Value}(hw:Region.wanted o (yielded ops a.tmps)=true)(h:(∀ w w',factsOf Fs (pres o) w→SinceD w w' → factsOf Fs (pres o) w')→∀ wx,S wx→factsOf Fs (pres o) wx→∀ K' : Act→Prop,(∀ a',a' = a.put o.dst c→K' a')→o.quiet P a (Cls fun w' => S w' ∧ factsOf Fs (pres o) w' ∧ SinceD wx w') K')
  (k:wpOD P ops S base K l ss (Fs++[fun _=>True]) (Bs++[fun _=>False]) (a.put o.dst c)):wpOD P ops S base K (o :: l) (.det c :: ss) Fs Bs a :=
 ⟨trivial,by
  unfold Spec.asksD
  dsimp only
  rw[if_pos hw]
  exact fun hm wx h1 h2=>h hm wx h1 h2 _ (fun a' h=>h),fun v hv=>by cases hv;exact k⟩
end
end
end Go.Proofs.YtdnccjdlmepafaaGreat
