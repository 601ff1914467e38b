/-
  A region that draws its order, over whatever it may do to memory; as FactsG, but a new block of whatever operation's result is told apart from the others too; Regions that append to two rows of one's own; A region that draws its order; as FactsN, but some pure operations of the head are taken ahead, so that the tail need not wait for them. Conditions: those that each lemma names.
-/
import Derived.Test.YtdnccjdlmepafaaGreatK11
import Derived.Test.YtdnccjdlmepafaaGreatK18
import Derived.Deep.AppendLies
set_option linter.unusedSimpArgs false
set_option linter.unusedVariables false
set_option linter.constructorNameAsVariable false
namespace Go.Proofs.YtdnccjdlmepafaaGreat
section
open Go.RowKit Go.BigFrame
variable [RegG]
def Spec.blkN:Spec→Value→Nat→Prop
 | .mk f _ _,v,g=>v=f g
 | .any _,v,g=>v.ownBlock=some g∧RegG.base≤g
 | .det _,_,_=>False
def blkLN:List Spec→List Value→List (Nat→Prop)
 | s :: ss,v :: vs=>s.blkN v :: blkLN ss vs
 | _,_=>[]
theorem blkLN_mem{p:Nat→Prop}:∀ {ss:List Spec} {vs:List Value},p∈blkLN ss vs→∃ (k:Nat) (s:Spec) (v:Value),ss[k]? = some s∧vs[k]? = some v∧p=s.blkN v
 | s :: ss,v :: vs,h=>by
  simp only[blkLN,List.mem_cons] at h
  rcases h with h | h
  ·exact⟨0,s,v,rfl,rfl,h⟩
  ·obtain⟨k,s',v',h1,h2,h3⟩:=blkLN_mem h
   exact⟨k+1,s',v',by simpa using h1,by simpa using h2,h3⟩
 | [],_,h=>by simp[blkLN] at h
 | _ :: _,[],h=>by simp[blkLN] at h
theorem blkLN_pair:∀ {ss:List Spec} {vs:List Value},(∀ (j k:Nat) s s' v v',j<k→ss[j]? = some s→ss[k]? = some s' → vs[j]? = some v→vs[k]? = some v' → ∀ g g',s.blkN v g→s'.blkN v' g' → g≠g') →
  (blkLN ss vs).Pairwise (fun p q=>∀ g g',p g→q g' → g≠g')
 | s :: ss,v :: vs,h=>by
  refine List.pairwise_cons.2 ⟨fun q hq g g' hg hg' => ?_,blkLN_pair fun j k s1 s2 v1 v2 hjk h1 h2 h3 h4=>h (j+1) (k+1) s1 s2 v1 v2 (by omega) (by simpa using h1) (by simpa using h2) (by simpa using h3) (by simpa using h4)⟩
  obtain⟨k,s',v',h1,h2,rfl⟩:=blkLN_mem hq
  exact h 0 (k+1) s s' v v' (by omega) rfl (by simpa using h1) rfl (by simpa using h2) g g' hg hg'
 | [],_,_=>by simp[blkLN]
 | _ :: _,[],_=>by simp[blkLN]
def Spec.factN(base:Nat):Spec→Value→World→Prop
 | .det _,_,_=>True
 | .mk f t cs,v,w=>∃ g,v=f g∧Blk w g t cs∧base≤g∧RegG.base≤g
 | .any R,v,w=>R v w∧∀ g,v.ownBlock=some g→RegG.base≤g→g<w.heap.size
def Spec.asksN(P:Program)(ops:Array Oper)(S:World→Prop)(o:Oper)(a:Act)(F:World→Prop):Spec→Prop
 | .det c=>if Region.wanted o (yielded ops a.tmps)=true then(∀ w w',F w→SinceG w w' → F w')→∀ wx,S wx→F wx→o.quiet P a (Cls fun w' => S w' ∧ F w' ∧ SinceG wx w') (fun a' => a' = a.put o.dst c) else c=undef
 | .mk f t cs=>Region.wanted o (yielded ops a.tmps)=true∧∀ w,(execOp a.eval o).run P w=.ok (.value (f w.heap.size)) (w.alloc (.cells cs t))
 | .any R=>Region.wanted o (yielded ops a.tmps)=true∧∀ w,S w→F w→runVG P o a w fun v w' => R v w' ∧ SinceG w w' ∧ ∀ g,v.ownBlock=some g→RegG.base≤g→w.heap.size≤g∧g<w'.heap.size
def wpON(P:Program)(ops:Array Oper)(S:World→Prop)(base:Nat)(K:Act→World→Prop):List Oper→List Spec→List (World→Prop)→List (Nat→Prop)→Act→Prop
 | [],[],Fs,Bs,a=>∀ w,S w→allF Fs w→Bs.Pairwise (fun p q=>∀ g g',p g→q g' → g≠g')→K a w
 | o :: l,s :: ss,Fs,Bs,a=>s.monoG∧s.asksN P ops S o a (factsOf Fs (pres o))∧∀ v,s.shape v→wpON P ops S base K l ss (Fs++[s.factN base v]) (Bs++[s.blkN v]) (a.put o.dst v)
 | _,_,_,_,_=>False
def factLN(base:Nat):List Spec→List Value→List (World→Prop)
 | s :: ss,v :: vs=>s.factN base v :: factLN base ss vs
 | _,_=>[]
section
variable {P : Program} {ops : Array Oper} {S : World → Prop} {base : Nat} {K : Act → World → Prop}
theorem wpO_lenN:∀ {l:List Oper} {ss:List Spec} {Fs:List (World→Prop)} {Bs:List (Nat→Prop)} {a:Act} {vs:List Value},wpON P ops S base K l ss Fs Bs a→shapeL ss vs→l.length=ss.length
 | [],[],_,_,_,_,_,_=>rfl
 | o :: l,s :: ss,Fs,Bs,a,v :: vs,h,hs=>by simp[wpO_lenN (h.2.2 v hs.1) hs.2]
 | [],_ :: _,_,_,_,_,h,_=>by unfold wpON at h;exact h.elim
 | _ :: _,[],_,_,_,_,h,_=>by unfold wpON at h;exact h.elim
 | _ :: _,_ :: _,_,_,_,[],_,hs=>hs.elim
theorem wpO_getN:∀ {l:List Oper} {ss:List Spec} {Fs:List (World→Prop)} {Bs:List (Nat→Prop)} {a:Act} {vs:List Value},wpON P ops S base K l ss Fs Bs a→shapeL ss vs →
  ∀ (i:Nat) (o:Oper) (s:Spec),l[i]? = some o→ss[i]? = some s→s.monoG∧s.asksN P ops S o (fr (l.take i) (vs.take i) a) (factsOf (Fs++factLN base (ss.take i) (vs.take i)) (pres o))
 | o :: l,s :: ss,Fs,Bs,a,v :: vs,h,hs,0,o',s',ho,hs' => by
  simp at ho hs'
  subst ho hs'
  simpa[fr,factLN] using ⟨h.1,h.2.1⟩
 | o :: l,s :: ss,Fs,Bs,a,v :: vs,h,hs,i+1,o',s',ho,hs' => by
  simp at ho hs'
  have:=wpO_getN (h.2.2 v hs.1) hs.2 i o' s' ho hs'
  simpa[fr,factLN] using this
 | [],_,_,_,_,_,_,_,_,_,_,ho,_=>by simp at ho
 | _ :: _,[],_,_,_,_,h,_,_,_,_,_,_=>by unfold wpON at h;exact h.elim
 | _ :: _,_ :: _,_,_,_,[],_,hs,_,_,_,_,_=>hs.elim
theorem wpO_finN:∀ {l:List Oper} {ss:List Spec} {Fs:List (World→Prop)} {Bs:List (Nat→Prop)} {a:Act} {vs:List Value},wpON P ops S base K l ss Fs Bs a→shapeL ss vs →
  ∀ w,S w→allF (Fs++factLN base ss vs) w→(Bs++blkLN ss vs).Pairwise (fun p q=>∀ g g',p g→q g' → g≠g')→K (fr l vs a) w
 | [],[],Fs,Bs,a,[],h,_,w,hw,hf,hb=>by
  unfold wpON at h
  exact h w hw (by simpa[factLN] using hf) (by simpa[blkLN] using hb)
 | o :: l,s :: ss,Fs,Bs,a,v :: vs,h,hs,w,hw,hf,hb=>wpO_finN (h.2.2 v hs.1) hs.2 w hw (by simpa[factLN] using hf) (by simpa[blkLN] using hb)
 | [],_ :: _,_,_,_,_,h,_,_,_,_,_=>by unfold wpON at h;exact h.elim
 | _ :: _,[],_,_,_,_,h,_,_,_,_,_=>by unfold wpON at h;exact h.elim
 | [],[],_,_,_,_ :: _,_,hs,_,_,_,_=>hs.elim
 | _ :: _,_ :: _,_,_,_,[],_,hs,_,_,_,_=>hs.elim
structure HdN(P:Program)(ops:Array Oper)(S:World→Prop)(base n:Nat)(ss:List Spec)(a0:Act)(listed:Array Bool)(a:Act)(w:World)(vs:List Value):Prop where
 len:vs.length=n
 shape:shapeL ss vs
 defs:a.defers=a0.defers
 siz:a.tmps.size=a0.tmps.size
 out:∀ t:Nat,(∀ (j:Nat) o,j<n→ops[j]? = some o→listed.getD j false=true→o.dst≠some t)→a.tmps[t]? = a0.tmps[t]?
 inn:∀ (j:Nat) o (t:Nat),j<n→ops[j]? = some o→listed.getD j false=true→o.dst=some t→t<a0.tmps.size→a.tmps[t]? = vs[j]?
 fact:∀ (j:Nat) s v,j<n→listed.getD j false=true→ss[j]? = some s→vs[j]? = some v→s.factN base v w
 dis:∀ (j k:Nat) s s' v v',j<k→listed.getD j false=true→listed.getD k false=true→ss[j]? = some s→ss[k]? = some s' → vs[j]? = some v→vs[k]? = some v' → ∀ g g',s.blkN v g→s'.blkN v' g' → g≠g'
 cls:S w
 bas:base≤w.heap.size
theorem HdN.sees{n i:Nat}{ss:List Spec}{a0 a:Act}{listed:Array Bool}{w:World}{vs:List Value}{o:Oper}(h:HdN P ops S base n ss a0 listed a w vs)(hB:Region.looksB ops n=true)(hi:i<n)(ho:ops[i]? = some o)
  (hr:∀ e∈o.after,Region.binds .any e=true→listed.getD e.on false=true):∀ t∈o.looksAt ops,a.tmps[t]? = (fr (ops.toList.take i) (vs.take i) a0).tmps[t]? := by
 intro t ht
 obtain⟨-,hl⟩:=looksB_spec hB hi ho
 by_cases hex:∃ (j:Nat) (oj:Oper),j<n∧ops[j]? = some oj∧oj.dst=some t
 ·obtain⟨j,oj,hj,hoj,hd⟩:=hex
  obtain⟨hji,hp⟩:=(hl j oj t hj hoj hd).2 ht
  have hlj:listed.getD j false=true:=by
   unfold pres at hp
   obtain⟨e,he,rfl⟩:=List.mem_map.1 hp
   rw[List.mem_filter] at he
   exact hr e (by simpa using he.1) he.2
  have huniq:∀ (k:Nat) o',k≠j→(ops.toList.take i)[k]? = some o' → o'.dst≠some t:=fun k o' hk hko hd' => by
   obtain⟨hki,hko'⟩:=take_some hko
   obtain⟨-,hlk⟩:=looksB_spec hB (show k<n by omega) (by simpa using hko')
   exact(hlk j oj t hj hoj hd).1 (Ne.symm hk) hd'
  rcases Nat.lt_or_ge t a0.tmps.size with hlt | hge
  ·rw[h.inn j oj t hj hoj hlj hd hlt,fr_in _ _ a0 t j oj (by rw[take_get hji];simpa using hoj) (by rw[List.length_take,h.len];omega) hd huniq hlt,take_get hji]
  ·rw[Array.getElem?_eq_none (by rw[h.siz];exact hge),Array.getElem?_eq_none (by rw[fr_size];exact hge)]
 ·rw[h.out t fun j oj hj hoj _ hd=>hex ⟨j,oj,hj,hoj,hd⟩,fr_out _ _ a0 t fun j oj hoj hd=>?_]
  obtain⟨hji,hoj'⟩:=take_some hoj
  exact hex ⟨j,oj,by omega,by simpa using hoj',hd⟩
theorem Spec.keepN{s:Spec}(h:s.monoG){v:Value}{w w' : World}(hf:s.factN base v w)(hs:SinceG w w'):s.factN base v w' := by
 cases s with
 | det c=>trivial
 | mk f t cs =>
  obtain⟨g,e,hb,hg,ht⟩:=hf
  exact⟨g,e,hs.blk h.2 ht hb,hg,ht⟩
 | any R=>exact⟨h _ _ _ hf.1 hs,fun g e k=>Nat.lt_of_lt_of_le (hf.2 g e k) hs.size⟩
theorem HdN.step{n i:Nat}{ss:List Spec}{a0 a:Act}{listed:Array Bool}{w w' : World}{vs:List Value}{o:Oper}{s:Spec}{v:Value}(h:HdN P ops S base n ss a0 listed a w vs)(hB:Region.looksB ops n=true)(hn:n≤ops.size)(hsz:listed.size=ops.size)
  (hi:i<n) (ho:ops[i]? = some o) (hs:ss[i]? = some s) (hm:∀ (j:Nat) s,ss[j]? = some s→s.monoG) (hsh:shapeL ss (vs.set i v)) (hf:s.factN base v w') (hw:SinceG w w') (hc:S w') (hd:∀ g,s.blkN v g→w.heap.size≤g) :
  HdN P ops S base n ss a0 (listed.setIfInBounds i true) (a.put o.dst v) w' (vs.set i v):=by
 have hil:i<listed.size:=by omega
 have hiv:i<vs.length:=by rw[h.len];exact hi
 obtain⟨-,hl⟩:=looksB_spec hB hi ho
 have below:∀ (j:Nat) s' v',listed.getD j false=true→j<n→ss[j]? = some s' → vs[j]? = some v' → ∀ g,s'.blkN v' g→g<w.heap.size:=by
  intro j s' v' hlj hj hsj hvj g hg
  have hf:=h.fact j s' v' hj hlj hsj hvj
  cases s' with
  | det c=>exact hg.elim
  | any R=>exact hf.2 g hg.1 hg.2
  | mk f t cs =>
   obtain⟨g',e,hb,-⟩:=hf
   have:g' = g:=(hm j _ hsj).1 g' g (e.symm.trans hg)
   subst this
   exact hb.lt
 have lt_n:∀ (j:Nat) s',ss[j]? = some s' → j<n:=fun j s' hj=>by
  have h1:=(List.getElem?_eq_some_iff.1 hj).1
  have h2:=shapeL_len h.shape
  have h3:=h.len
  omega
 refine⟨by simpa using h.len,hsh,?_,?_,fun t ht=>?_,fun j oj t hj hoj hlj hdj hlt=>?_,fun j s' v' hj hlj hsj hvj=>?_,fun j k s1 s2 v1 v2 hjk hlj hlk h1 h2 hv1 hv2 g g' hg hg' => ?_,hc,Nat.le_trans h.bas hw.size⟩
 ·rw[← h.defs];cases e:o.dst <;> simp[Act.put]
 ·rw[← h.siz];cases e:o.dst <;> simp[Act.put]
 ·rw[put_out (ht i o hi ho (set_same hil))]
  refine h.out t fun j oj hj hoj hlj=>ht j oj hj hoj ?_
  exact getD_set_true hlj
 ·by_cases e:j=i
  ·subst e
   obtain rfl:oj=o:=Option.some.inj (hoj.symm.trans ho)
   rw[hdj,put_in (by rw[h.siz];exact hlt),List.getElem?_set_self hiv]
  ·rw[put_out ((hl j oj t hj hoj hdj).1 e),List.getElem?_set_ne (Ne.symm e)]
   rw[getD_set_ne false (Ne.symm e)] at hlj
   exact h.inn j oj t hj hoj hlj hdj hlt
 ·by_cases e:j=i
  ·subst e
   obtain rfl:s' = s:=Option.some.inj (hsj.symm.trans hs)
   rw[List.getElem?_set_self hiv] at hvj
   injection hvj with hvj
   subst hvj
   exact hf
  ·rw[getD_set_ne false (Ne.symm e)] at hlj
   rw[List.getElem?_set_ne (Ne.symm e)] at hvj
   exact Spec.keepN (hm j s' hsj) (h.fact j s' v' hj hlj hsj hvj) hw
 ·have hj:=lt_n j s1 h1
  have hk:=lt_n k s2 h2
  by_cases e:j=i
  ·subst e
   obtain rfl:s1=s:=Option.some.inj (h1.symm.trans hs)
   rw[List.getElem?_set_self hiv] at hv1
   injection hv1 with hv1
   subst hv1
   rw[getD_set_ne false (by omega)] at hlk
   rw[List.getElem?_set_ne (by omega)] at hv2
   have:=below k s2 v2 hlk hk h2 hv2 g' hg'
   have:=hd g hg
   omega
  ·by_cases e' : k=i
   ·subst e'
    obtain rfl:s2=s:=Option.some.inj (h2.symm.trans hs)
    rw[List.getElem?_set_self hiv] at hv2
    injection hv2 with hv2
    subst hv2
    rw[getD_set_ne false (by omega)] at hlj
    rw[List.getElem?_set_ne (by omega)] at hv1
    have:=below j s1 v1 hlj hj h1 hv1 g hg
    have:=hd g' hg'
    omega
   ·rw[getD_set_ne false (Ne.symm e)] at hlj
    rw[getD_set_ne false (Ne.symm e')] at hlk
    rw[List.getElem?_set_ne (Ne.symm e)] at hv1
    rw[List.getElem?_set_ne (Ne.symm e')] at hv2
    exact h.dis j k s1 s2 v1 v2 hjk hlj hlk h1 h2 hv1 hv2 g g' hg hg'
theorem factL_getN:∀ {ss:List Spec} {vs:List Value} {j:Nat} {F:World→Prop},(factLN base ss vs)[j]? = some F→∃ s v,ss[j]? = some s∧vs[j]? = some v∧F=s.factN base v
 | s :: ss,v :: vs,0,F,h=>by
  simp[factLN] at h
  exact⟨s,v,rfl,rfl,h.symm⟩
 | s :: ss,v :: vs,j+1,F,h=>by
  simp only[factLN,List.getElem?_cons_succ] at h
  simpa using factL_getN h
 | [],_,_,_,h=>by simp[factLN] at h
 | _ :: _,[],_,_,h=>by simp[factLN] at h
theorem factsOf_keepN{Fs:List (World→Prop)}(hm:∀ F∈Fs,∀ w w',F w→SinceG w w' → F w'){w w' : World}:∀ {js:List Nat},factsOf Fs js w→SinceG w w' → factsOf Fs js w'
 | [],_,_=>trivial
 | j :: js,h,k=>⟨by
     have h1:=h.1
     cases e:Fs[j]? with
     | none=>simp[List.getD,e]
     | some F =>
      simp only[List.getD,e,Option.getD_some] at h1 ⊢
      exact hm F (List.mem_of_getElem? e) w w' h1 k,factsOf_keepN hm h.2 k⟩
theorem allF_mkN{w:World}:∀ {ss:List Spec} {vs:List Value},(∀ (j:Nat) s v,ss[j]? = some s→vs[j]? = some v→s.factN base v w)→allF (factLN base ss vs) w
 | s :: ss,v :: vs,h=>⟨h 0 s v rfl rfl,allF_mkN fun j s' v' hs hv=>h (j+1) s' v' (by simpa using hs) (by simpa using hv)⟩
 | [],_,_=>by simp[factLN,allF]
 | _ :: _,[],_=>by simp[factLN,allF]
end
section
variable {P : Program} {ops : Array Oper} {S : World → Prop} {base : Nat} {K : Act → World → Prop} {l : List Oper} {o : Oper} {ss : List Spec} {Fs : List (World → Prop)} {Bs : List (Nat → Prop)} {a : Act}
theorem wpO_nilN(h:∀ w,S w→allF Fs w→Bs.Pairwise (fun p q=>∀ g g',p g→q g' → g≠g')→K a w):wpON P ops S base K [] [] Fs Bs a:=h
theorem wpO_detN{c:Value}(hw:Region.wanted o (yielded ops a.tmps)=true)(h:(∀ w w',factsOf Fs (pres o) w→SinceG w w' → factsOf Fs (pres o) w')→∀ wx,S wx→factsOf Fs (pres o) wx→∀ K' : Act→Prop,(∀ a',a' = a.put o.dst c→K' a')→o.quiet P a (Cls fun w' => S w' ∧ factsOf Fs (pres o) w' ∧ SinceG wx w') K')
  (k:wpON P ops S base K l ss (Fs++[fun _=>True]) (Bs++[fun _=>False]) (a.put o.dst c)):wpON P ops S base K (o :: l) (.det c :: ss) Fs Bs a :=
 ⟨trivial,by
  unfold Spec.asksN
  dsimp only
  rw[if_pos hw]
  exact fun hm wx h1 h2=>h hm wx h1 h2 _ (fun a' h=>h),fun v hv=>by cases hv;exact k⟩
theorem wpO_mkN{f:Nat→Value}{t:TypeId}{cs:Array Value}(hk:RegG.keep t)(hi:∀ g g',f g=f g' → g=g')(hw:Region.wanted o (yielded ops a.tmps)=true)(h:∀ w,(execOp a.eval o).run P w=.ok (.value (f w.heap.size)) (w.alloc (.cells cs t)))
  (k:∀ g,wpON P ops S base K l ss (Fs++[fun w=>Blk w g t cs∧base≤g∧RegG.base≤g]) (Bs++[fun g' => g=g']) (a.put o.dst (f g))):wpON P ops S base K (o :: l) (.mk f t cs :: ss) Fs Bs a :=
 ⟨⟨hi,hk⟩,⟨hw,h⟩,fun v hv=>by
  obtain⟨g,rfl⟩:=hv
  have e1:Spec.factN base (.mk f t cs) (f g)=fun w=>Blk w g t cs∧base≤g∧RegG.base≤g:=by
   funext w
   apply propext
   constructor
   ·rintro⟨g',e,h⟩
    rw[hi _ _ e];exact h
   ·exact fun h=>⟨g,rfl,h⟩
  have e2:Spec.blkN (.mk f t cs) (f g)=fun g' => g=g' := by
   funext g'
   apply propext
   exact⟨fun h=>hi _ _ h,fun h=>by rw[← h];rfl⟩
  rw[e1,e2]
  exact k g⟩
theorem wpO_anyN{R:Value→World→Prop}(hR:∀ v w w',R v w→SinceG w w' → R v w')(hw:Region.wanted o (yielded ops a.tmps)=true)(h:∀ w,S w→factsOf Fs (pres o) w→runVG P o a w fun v w' => R v w' ∧ SinceG w w' ∧ ∀ g,v.ownBlock=some g→RegG.base≤g→w.heap.size≤g∧g<w'.heap.size)
  (k:∀ v,wpON P ops S base K l ss (Fs++[fun w=>R v w∧∀ g,v.ownBlock=some g→RegG.base≤g→g<w.heap.size]) (Bs++[fun g=>v.ownBlock=some g∧RegG.base≤g]) (a.put o.dst v)):wpON P ops S base K (o :: l) (.any R :: ss) Fs Bs a :=
 ⟨hR,⟨hw,h⟩,fun v _=>k v⟩
end
end
section
open Go.RowKit Go.BigFrame
def NewB(base:Nat)(w:World)(v' : Value)(w' : World):Prop:=∀ g,v'.ownBlock=some g→base≤g→w.heap.size≤g∧g<w'.heap.size
theorem ap_runN{P:Program}{B base:Nat}{As:List Ap}(hap:∀ A∈As,∀ A' ∈ As,A' ≠ A→∀ g,A.v.ownBlock=some g→A'.v.ownBlock≠some g)(hb:∀ A∈As,∀ g,A.v.ownBlock=some g→g<base)
  {A:Ap} (hA:A∈As) {w:World} (hpre:w.ownsRow B A.t A.k A.v A.n A.xs) (hBw:B≤w.heap.size) (hbw:base≤w.heap.size) (st ty:TypeId) (i:TypeInfo) (z:Value) (bytes:Nat) (ht:P.underlying st=some (.slice A.t)) (hi:P.info? A.t=some i) (hz:i.zero=some z)
  (hsize:i.size=A.k) (hby:i.bytes=bytes) (hzs:z.cells.size=A.k) (hk:0<A.k) (a:Addr) (c:Nat) (hl:A.news.length=A.m*A.k) (hnews:∀ j u,A.news[j]? = some u→w.cell? (a.add j)=some u) (h1:∀ u∈A.news,u.oneCell' = true)
  (hm:A.n+A.m≤maxLen) (hbytes:(A.n+A.m)*bytes≤140737488355328) :
  ∃ v' w',(Builtin.append_ #[st,st] ty #[A.v,.slice (some a) A.m c]).run P w=.ok v' w' ∧ (w'.ownsRow B A.t A.k v' (A.n+A.m) (A.xs++A.news)∧(v'.ownBlock=A.v.ownBlock∨∃ b,v'.ownBlock=some b∧base≤b))∧ApK B base As w w' ∧ NewB base w v' w' := by
 obtain⟨v',w',h,hown,hK⟩:=ap_run hap hb hA hpre hBw hbw st ty i z bytes ht hi hz hsize hby hzs hk a c hl hnews h1 hm hbytes
 obtain⟨v0,w0,hr,-,-,-,hloc⟩:=run_append_own_at (P:=P) w B st ty A.t i z A.k bytes ht hi hz hsize hby hzs hk A.v A.n A.xs hpre a A.m c A.news hl hnews h1 hm hbytes hBw
 rw[h] at hr
 injection hr with e1 e2
 subst e1 e2
 refine⟨v',w',h,hown,hK,fun g hg hbg=>⟨?_,(hown.1.lt g hg).2⟩⟩
 rcases hloc with k | k
 ·rw[k] at hg
  have:=hb A hA g hg
  omega
 ·rw[k] at hg
  injection hg with hg
  omega
theorem runVG_appN{P:Program}{o:Oper}{a:Act}{w:World}{R:Value→World→Prop}{G:World→World→Prop}{base:Nat}(s x:Operand)(t:TypeId)(ho:o.op=.call { callee:=.builtin .append,args := #[s,x],argTypes := #[t,t] }){v u:Value}(hs:a.eval s=v)(hx:a.eval x=u)
  (hr:∃ v' w',(Builtin.append_ #[t,t] o.type #[v,u]).run P w=.ok v' w' ∧ R v' w' ∧ G w w' ∧ NewB base w v' w'):runVG P o a w fun v' w' => R v' w' ∧ G w w' ∧ ∀ g,v'.ownBlock=some g→base≤g→w.heap.size≤g∧g<w'.heap.size :=
 runVG_app s x t ho hs hx (post:=fun v' w' => R v' w' ∧ G w w' ∧ ∀ g,v'.ownBlock=some g→base≤g→w.heap.size≤g∧g<w'.heap.size) hr
theorem ap_two{P:Program}{B base:Nat}{As:List Ap}{A:Ap}{v:Value}{t:TypeId}{k n m:Nat}{xs news:List Value}(hA:A∈As)(e:A=⟨v,t,k,n,xs,m,news⟩)(hap:∀ A∈As,∀ A' ∈ As,A' ≠ A→∀ g,A.v.ownBlock=some g→A'.v.ownBlock≠some g)(hb:∀ A' ∈ As,∀ g,A'.v.ownBlock=some g→B≤g∧g<base){w0 w:World}(h0:w0.ownsRow B t k v n xs)(hK:ApK B base As w0 w)(hBw:B≤w0.heap.size)(hbw:base≤w0.heap.size)
  (st ty:TypeId) (i:TypeInfo) (z:Value) (bytes:Nat) (ht:P.underlying st=some (.slice t)) (hi:P.info? t=some i) (hz:i.zero=some z)
  (hsize:i.size=k) (hby:i.bytes=bytes) (hzs:z.cells.size=k) (hk:0<k) (a:Addr) (c:Nat) (hl:news.length=m*k) (hnews:∀ j u,news[j]? = some u→w.cell? (a.add j)=some u) (h1:∀ u∈news,u.oneCell' = true)
  (hm:n+m≤maxLen) (hbytes:(n+m)*bytes≤140737488355328) :
  ∃ v' w',(Builtin.append_ #[st,st] ty #[v,.slice (some a) m c]).run P w=.ok v' w' ∧ (w'.ownsRow B A.t A.k v' (A.n+A.m) (A.xs++A.news)∧(v'.ownBlock=A.v.ownBlock∨∃ b,v'.ownBlock=some b∧base≤b))∧ApK B base As w w' ∧ NewB base w v' w' := by
 subst e
 exact ap_runN hap (fun A' hA' g e=>(hb A' hA' g e).2) hA (hK.pre _ hA h0) (Nat.le_trans hBw hK.size) (Nat.le_trans hbw hK.size) st ty i z bytes ht hi hz hsize hby hzs hk a c hl hnews h1 hm hbytes
theorem own_apart{w w' : World}{B base n k:Nat}{t:TypeId}{As:List Ap}{v:Value}{xs:List Value}(h:w.ownsRow B t k v n xs)(hK:ApK B base As w w')(hne:∀ A∈As,∀ g,v.ownBlock=some g→A.v.ownBlock≠some g):w'.ownsRow B t k v n xs:=by
 obtain⟨hl,⟨h1,h2⟩ | ⟨g,cap,cur,h1,hB,hg,hc,hm,hs,ht⟩⟩:=h
 ·exact⟨hl,.inl ⟨h1,h2⟩⟩
 ·exact⟨hl,.inr ⟨g,cap,cur,h1,hB,hK.blk (g:=g) (fun A hA e=>hne A hA g (by rw[h1];rfl) e) hg,hc,hm,hs,ht⟩⟩
theorem Rws.app2{w w' : World}{B base:Nat}{L:List Rw}{A1 A2:Ap}(h:Rws w B L){i j:Nat}{r1 r2:Rw}(hij:i≠j)(hi:L[i]? = some r1)(hj:L[j]? = some r2)(hv1:A1.v=r1.v)(hv2:A2.v=r2.v)(hb:w.heap.size≤base)(hK:ApK B base [A1,A2] w w')(r1' r2' : Rw)
  (ho1:w'.ownsRow B r1'.t r1'.k r1'.v r1'.n r1'.xs) (ho2:w'.ownsRow B r2'.t r2'.k r2'.v r2'.n r2'.xs) (hl1:r1'.v.ownBlock=A1.v.ownBlock∨∃ b,r1'.v.ownBlock=some b∧base≤b) (hl2:r2'.v.ownBlock=A2.v.ownBlock∨∃ b,r2'.v.ownBlock=some b∧base≤b)
  (hne:∀ g g',(r1'.v.ownBlock=some g∧base≤g)→(r2'.v.ownBlock=some g' ∧ base≤g')→g≠g'):Rws w' B ((L.set i r1').set j r2'):=by
 have hil:i<L.length:=(List.getElem?_eq_some_iff.1 hi).1
 have hjl:j<L.length:=(List.getElem?_eq_some_iff.1 hj).1
 have at_:∀ (k:Nat) (s:Rw),((L.set i r1').set j r2')[k]? = some s→(k=j∧s=r2')∨(k=i∧k≠j∧s=r1')∨(k≠i∧k≠j∧L[k]? = some s):=fun k s hk=>by
  by_cases e:k=j
  ·subst e
   rw[List.getElem?_set_self (by rw[List.length_set];exact hjl)] at hk
   exact .inl ⟨rfl,(Option.some.inj hk).symm⟩
  ·rw[List.getElem?_set_ne (Ne.symm e)] at hk
   by_cases e2:k=i
   ·subst e2
    rw[List.getElem?_set_self hil] at hk
    exact .inr (.inl ⟨rfl,e,(Option.some.inj hk).symm⟩)
   ·rw[List.getElem?_set_ne (Ne.symm e2)] at hk
    exact .inr (.inr ⟨e2,e,hk⟩)
 have lt_:∀ (k:Nat) (s:Rw),L[k]? = some s→∀ g,s.v.ownBlock=some g→g<base:=fun k s hk g e=>Nat.lt_of_lt_of_le ((h.ok k s hk).lt g e).2 hb
 have o1:∀ (k:Nat) (s:Rw),k≠i→L[k]? = some s→ApartV s.v r1'.v:=fun k s hki hk g e1 e2=>by
  rcases hl1 with q | ⟨b,q,q'⟩
  ·rw[q,hv1] at e2
   exact h.ap k i s r1 hki hk hi g e1 e2
  ·rw[e2] at q
   injection q with q
   have:=lt_ k s hk g e1
   omega
 have o2:∀ (k:Nat) (s:Rw),k≠j→L[k]? = some s→ApartV s.v r2'.v:=fun k s hkj hk g e1 e2=>by
  rcases hl2 with q | ⟨b,q,q'⟩
  ·rw[q,hv2] at e2
   exact h.ap k j s r2 hkj hk hj g e1 e2
  ·rw[e2] at q
   injection q with q
   have:=lt_ k s hk g e1
   omega
 have o12:ApartV r1'.v r2'.v:=fun g e1 e2=>by
  rcases hl1 with q | ⟨b,q,q'⟩
  ·rcases hl2 with p | ⟨c,p,p'⟩
   ·rw[q,hv1] at e1
    rw[p,hv2] at e2
    exact h.ap i j r1 r2 hij hi hj g e1 e2
   ·rw[q,hv1] at e1
    rw[e2] at p
    injection p with p
    have:=lt_ i r1 hi g e1
    omega
  ·rcases hl2 with p | ⟨c,p,p'⟩
   ·rw[p,hv2] at e2
    rw[e1] at q
    injection q with q
    have:=lt_ j r2 hj g e2
    omega
   ·have eb:g=b:=by rw[e1] at q;injection q
    exact hne g g ⟨e1,by omega⟩ ⟨e2,by omega⟩ rfl
 refine⟨fun k s hk=>?_,fun k l s u hkl hk hl=>?_⟩
 ·rcases at_ k s hk with⟨rfl,rfl⟩ | ⟨rfl,-,rfl⟩ | ⟨e1,e2,hk⟩
  ·exact ho2
  ·exact ho1
  ·have hown:=h.ok k s hk
   refine own_apart hown hK fun A hA g e1' e2' => ?_
   simp only[List.mem_cons,List.not_mem_nil,or_false] at hA
   rcases hA with rfl | rfl
   ·rw[hv1] at e2'
    exact h.ap k i s r1 e1 hk hi g e1' e2'
   ·rw[hv2] at e2'
    exact h.ap k j s r2 e2 hk hj g e1' e2'
 ·rcases at_ k s hk with⟨e,rfl⟩ | ⟨e,-,rfl⟩ | ⟨e1,e2,hk'⟩ <;> rcases at_ l u hl with⟨f,rfl⟩ | ⟨f,f',rfl⟩ | ⟨f1,f2,hl'⟩
  ·omega
  ·exact o12.symm
  ·exact(o2 l u f2 hl').symm
  ·exact o12
  ·omega
  ·exact(o1 l u f1 hl').symm
  ·exact o2 k s e2 hk'
  ·exact o1 k s e1 hk'
  ·exact h.ap k l s u hkl hk' hl'
structure AppR(w w' : World)(B:Nat)(L:List Rw)(i:Nat)(r:Rw)(g n c:Nat)(xs:List Value):Prop where
 rows:Rws w' B (L.set i ⟨.slice (some ⟨g,0,none⟩) n c,r.t,r.k,n,xs⟩)
 grown:w.grownBy w' r.v.ownBlock
theorem AppR.since{w w' w0:World}{B i g n c:Nat}{L:List Rw}{r:Rw}{xs:List Value}(h:AppR w w' B L i r g n c xs)(hR:Rws w B L)(hi:L[i]? = some r)(hs:Since w0 w)(hB:w0.heap.size≤B):Since w0 w' :=
 ⟨h.grown.os.trans hs.os,h.grown.tape.trans hs.tape,h.grown.output.trans hs.output,Nat.le_trans hs.size h.grown.size,fun k hk=>(h.grown.block k (Nat.lt_of_lt_of_le hk hs.size) fun e=>by have:=((hR.ok i r hi).lt k e.symm).1;omega).trans (hs.block k hk)⟩
theorem AppR.blk{w w' : World}{B i g n c:Nat}{L:List Rw}{r:Rw}{xs:List Value}(h:AppR w w' B L i r g n c xs)(hR:Rws w B L)(hi:L[i]? = some r){k:Nat}{t:TypeId}{cs:Array Value}(hb:Blk w k t cs)(hk:k<B):Blk w' k t cs :=
 (h.grown.block k hb.lt fun e=>by have:=((hR.ok i r hi).lt k e.symm).1;omega).trans hb
end
section
open Go.RowKit Go.BigFrame
def Region.sinkE(md:Region.Mode)(ops:Array Oper)(n:Nat)(E:List Nat):Bool :=
 (List.range n).all fun i=>E.contains i || (List.range (n+1)).any fun j=>decide (i<j) && Region.waitsFor md ops j i
theorem tail_waitsE{md:Region.Mode}{ops:Array Oper}{n:Nat}{E:List Nat}{listed:Array Bool}(hs:Region.sinkE md ops n E=true)(hc:Region.chainB md ops n=true)(hn:n<ops.size)(hE:∀ e∈E,listed.getD e false=true)(inv:HeadInv md ops n listed) :
  ∀ (d i:Nat),n-i=d→i<n→listed.getD i true=false→∀ t,n≤t→t∉Region.ready md ops listed:=by
 intro d
 induction d using Nat.strongRecOn with
 | _ d ih =>
  intro i hd hi hun t ht hr
  obtain⟨_,ot,hot,hall⟩:=mem_ready.1 hr
  have htlt:t<ops.size:=(Array.getElem?_eq_some_iff.1 hot).1
  by_cases htn:t=n
  ·subst htn
   have h1:=List.all_eq_true.1 hs i (List.mem_range.2 hi)
   rw[Bool.or_eq_true] at h1
   rcases h1 with h1 | h1
   ·have:=hE i (by simpa using h1)
    rw[getD_both hun] at this
    cases this
   obtain⟨j,hj,hj2⟩:=List.any_eq_true.1 h1
   simp only[Bool.and_eq_true,decide_eq_true_eq] at hj2
   obtain⟨oj,hoj,e,he,hb,hon⟩:=Region.waitsFor_spec hj2.2
   have hjle:j≤t:=by have:=List.mem_range.1 hj;omega
   by_cases hjt:j=t
   ·subst hjt
    have:oj=ot:=Option.some.inj (hoj.symm.trans hot)
    subst this
    have h2:=hall e he hb
    rw[hon,getD_both hun] at h2
    cases h2
   ·cases hl:listed.getD j false with
    | true =>
     have h2:=inv.closed j oj hoj hl e he hb
     rw[hon,getD_both hun] at h2
     cases h2
    | false =>
     have hjs:j<listed.size:=by rw[inv.size];omega
     exact ih (t-j) (by omega) j rfl (by omega) (getD_in hjs hl) t (Nat.le_refl _) hr
  ·have h1:=List.all_eq_true.1 hc t (List.mem_range.2 htlt)
   simp only[Bool.or_eq_true,decide_eq_true_eq] at h1
   rcases h1 with h1 | h1
   ·omega
   ·obtain⟨o',ho',e,he,hb,hon⟩:=Region.waitsFor_spec h1
    have:o' = ot:=Option.some.inj (ho'.symm.trans hot)
    subst this
    have h2:=hall e he hb
    rw[hon,getD_both (inv.tail (t-1) (by omega) (by omega))] at h2
    cases h2
def Region.startB(md:Region.Mode)(ops:Array Oper)(n:Nat)(E:List Nat)(listed:Array Bool):Bool :=
 decide (listed.size=ops.size) && ((List.range ops.size).all fun i=>listed.getD i false == E.contains i) && (E.all fun i=>decide (i<n) && match ops[i]? with
  | some o=>o.after.toList.all fun e => !Region.binds md e || E.contains e.on
  | none=>false)
theorem startB_inv{md:Region.Mode}{ops:Array Oper}{n:Nat}{E:List Nat}{listed:Array Bool}(h:Region.startB md ops n E listed=true)(hn:n≤ops.size):HeadInv md ops n listed∧(∀ i,listed.getD i false=true↔i∈E)∧∀ e∈E,e<n:=by
 unfold Region.startB at h
 simp only[Bool.and_eq_true,decide_eq_true_eq,List.all_eq_true,List.mem_range,beq_iff_eq] at h
 obtain⟨⟨h1,h2⟩,h3⟩:=h
 have hiff:∀ i,listed.getD i false=true↔i∈E:=fun i=>by
  rcases Nat.lt_or_ge i ops.size with k | k
  ·rw[h2 i k];simp
  ·have e1:listed.getD i false=false:=by simp[Array.getElem?_eq_none (show listed.size≤i by omega)]
   rw[e1]
   constructor
   ·intro e;cases e
   ·intro e;have:=(h3 i e).1;omega
 refine⟨⟨h1,fun j oj hoj hl e he hb=>?_,fun t ht ht' => ?_⟩,hiff,fun e he=>(h3 e he).1⟩
 ·have hj:=(hiff j).1 hl
  have:=(h3 j hj).2
  rw[hoj] at this
  simp only[List.all_eq_true,Bool.or_eq_true,Bool.not_eq_true'] at this
  have:=(this e (by simpa using he)).resolve_left (by simp[hb])
  exact(hiff _).2 (by simpa using this)
 ·refine getD_in (by omega) ?_
  cases e:listed.getD t false with
  | false=>rfl
  | true=>have:=(h3 t ((hiff t).1 e)).1;omega
def Region.factsBX(ops:Array Oper)(n:Nat)(E:List Nat)(listed:Array Bool):Bool :=
 Region.noSelect ops && decide (n≤ops.size) && (decide (n=ops.size) || (Region.sinkE .any ops n E && Region.chainB .any ops n)) && Region.looksB ops n && Region.seqB .any ops (ops.size-n) n (fullL ops.size n) && Region.startB .any ops n E listed
section
variable [RegG] {P : Program} {ops : Array Oper} {S : World → Prop} {base : Nat} {K : Act → World → Prop}
theorem facts_anyX{Q:Exit→Act→World→Prop}{n:Nat}{ss:List Spec}{a0:Act}(hsel:Region.noSelect ops=true)(hn:n≤ops.size){E:List Nat}(hsc:n=ops.size∨(Region.sinkE .any ops n E=true∧Region.chainB .any ops n=true))(hB:Region.looksB ops n=true)
  (hseq:Region.seqB .any ops (ops.size-n) n (fullL ops.size n)=true) (hO:wpON P ops S base (fun a w=>wpList P ops Q (ops.toList.drop n) a w) (ops.toList.take n) ss [] [] a0) (hsl:ss.length=n) (hmono:∀ w w',S w→SinceG w w' → S w') (hTb:∀ g,base≤g→RegG.base≤g) :
  ∀ (f:Nat) (listed:Array Bool) (a:Act) (w:World) (vs:List Value),(∀ e∈E,listed.getD e false=true)→HeadInv .any ops n listed→cnt n listed=f→HdN P ops S base n ss a0 listed a w vs→wpAny P .any ops Q (f+(ops.size-n)) listed a w:=by
 have hgood:∀ (j:Nat) s,ss[j]? = some s→s.monoG:=fun j s hj=>by
  obtain⟨vs,hvs⟩:=shapeL_some ss
  have hjn:j<n:=by have:=(List.getElem?_eq_some_iff.1 hj).1;omega
  have hjo:j<ops.toList.length:=by simp;omega
  exact(wpO_getN hO hvs j (ops.toList[j]) s (by rw[take_get hjn];exact List.getElem?_eq_getElem hjo) hj).1
 intro f
 induction f with
 | zero =>
  intro listed a w vs hE inv hc h
  have hall:∀ i,i<n→listed.getD i true=true:=fun i hi=>by
   cases e:listed.getD i true with
   | true=>rfl
   | false=>have:=cnt_pos hi e;omega
  have hall' : ∀ i,i<n→listed.getD i false=true:=fun i hi=>by
   have:=hall i hi
   have hlt:i<listed.size:=by rw[inv.size];omega
   simpa[hlt] using this
  have hfin:=wpO_finN hO h.shape w h.cls (by
   rw[List.nil_append]
   exact allF_mkN fun j s v hs hv=>h.fact j s v (by have:=(List.getElem?_eq_some_iff.1 hs).1;omega) (hall' j (by have:=(List.getElem?_eq_some_iff.1 hs).1;omega)) hs hv) (by
   rw[List.nil_append]
   exact blkLN_pair fun j k s s' v v' hjk h1 h2 h3 h4=>h.dis j k s s' v v' hjk (hall' j (by have:=(List.getElem?_eq_some_iff.1 h1).1;omega)) (hall' k (by have:=(List.getElem?_eq_some_iff.1 h2).1;omega)) h1 h2 h3 h4)
  have ea:a=fr (ops.toList.take n) vs a0:=by
   obtain⟨tm,df⟩:=a
   have e1:=h.defs
   have e2:=h.siz
   have e3:=h.out
   have e4:=h.inn
   dsimp only at e1 e2 e3 e4
   have:tm=(fr (ops.toList.take n) vs a0).tmps:=by
    apply Array.ext_getElem?
    intro t
    by_cases hex:∃ (j:Nat) (oj:Oper),j<n∧ops[j]? = some oj∧oj.dst=some t
    ·obtain⟨j,oj,hj,hoj,hd⟩:=hex
     rcases Nat.lt_or_ge t a0.tmps.size with hlt | hge
     ·rw[e4 j oj t hj hoj (hall' j hj) hd hlt,fr_in _ _ a0 t j oj (by rw[take_get hj];simpa using hoj) (by rw[h.len];exact hj) hd ?_ hlt]
      intro k o' hk hko hd'
      obtain⟨hkn,hko'⟩:=take_some hko
      obtain⟨-,hlk⟩:=looksB_spec hB hkn (by simpa using hko')
      exact(hlk j oj t hj hoj hd).1 (Ne.symm hk) hd'
     ·rw[Array.getElem?_eq_none (by omega),Array.getElem?_eq_none (by rw[fr_size];exact hge)]
    ·rw[e3 t fun j oj hj hoj _ hd=>hex ⟨j,oj,hj,hoj,hd⟩,fr_out _ _ a0 t fun j oj hoj hd=>?_]
     obtain⟨hji,hoj'⟩:=take_some hoj
     exact hex ⟨j,oj,hji,by simpa using hoj',hd⟩
   have hdf:df=(fr (ops.toList.take n) vs a0).defers:=by rw[fr_defers];exact e1
   subst this hdf
   rfl
  rw[← ea] at hfin
  have hl:=full_of inv hn hall
  have hdl:(ops.toList.drop n).length=ops.size-n:=by simp
  have:=wpAny_of_seq (md:=.any) (Q' := Q) (ops.toList.drop n) n listed a w (fun j=>by simp[List.getElem?_drop]) (by rw[hdl,hl];exact hseq) hfin
  rw[hdl] at this
  rw[Nat.zero_add]
  exact this
 | succ f ih =>
  intro listed a w vs hE inv hc h
  rw[show f+1+(ops.size-n)=(f+(ops.size-n))+1 by omega]
  have hex:∃ i,i<n∧listed.getD i true=false∧∀ j,j<i→listed.getD j true=true:=by
   rcases first_un (n:=n) (listed:=listed) n (Nat.le_refl _) with h1 | h1
   ·have:=cnt_zero h1;omega
   ·exact h1
  obtain⟨i0,hi0,hu0,hm0⟩:=hex
  refine⟨fun hr=>?_,fun i hi=>?_⟩
  ·exfalso
   have ho0:ops[i0]? = some ops[i0]:=Array.getElem?_eq_getElem (by omega)
   obtain⟨hl,-⟩:=looksB_spec hB hi0 ho0
   have:i0∈Region.ready .any ops listed:=mem_ready.2 ⟨hu0,_,ho0,fun e he hb=>by
    have hlt:=hl e he hb
    have:=hm0 e.on hlt
    have hsz:e.on<listed.size:=by rw[inv.size];omega
    simpa[hsz] using this⟩
   rw[hr] at this
   cases this
  ·obtain⟨hun,o,ho,hall⟩:=mem_ready.1 hi
   have hin:i<n:=by
    rcases Nat.lt_or_ge i n with h1 | h1
    ·exact h1
    ·have hio:=(Array.getElem?_eq_some_iff.1 ho).1
     rcases hsc with hsc | ⟨hs1,hs2⟩
     ·omega
     ·exact absurd hi (tail_waitsE hs1 hs2 (by omega) hE inv _ i0 rfl hi0 hu0 i h1)
   have hsz:=inv.size
   have his:i<listed.size:=by rw[hsz];omega
   have hss:ss[i]? = some ss[i]:=List.getElem?_eq_getElem (by omega)
   generalize hsi:ss[i]=s at hss
   have hsee:=h.sees hB hin ho hall
   have hex:=eval_eq (ops:=ops) (o:=o) (Region.noSelect_spec hsel i o · · ho) hsee
   have hwa:=wanted_eq (ops:=ops) (o:=o) hsee
   obtain⟨hmo,hask⟩:=wpO_getN hO h.shape i o s (by rw[take_get hin];simpa using ho) hss
   rw[List.take_take,Nat.min_eq_left (by omega),List.nil_append] at hask
   have hF:factsOf (factLN base (ss.take i) (vs.take i)) (pres o) w:=factsOf_mk fun j hj F hF=>by
    obtain⟨s',v',h1,h2,rfl⟩:=factL_getN hF
    obtain⟨hji,h1⟩:=take_some h1
    obtain⟨-,h2⟩:=take_some h2
    unfold pres at hj
    obtain⟨e,he,rfl⟩:=List.mem_map.1 hj
    rw[List.mem_filter] at he
    exact h.fact e.on s' v' (by omega) (hall e (by simpa using he.1) he.2) h1 h2
   have hFm:∀ w w',factsOf (factLN base (ss.take i) (vs.take i)) (pres o) w→SinceG w w' → factsOf (factLN base (ss.take i) (vs.take i)) (pres o) w' := fun w w' h k=>factsOf_keepN (fun F hF=>by
    obtain⟨j,hj⟩:=List.getElem?_of_mem hF
    obtain⟨s',v',h1,h2,rfl⟩:=factL_getN hj
    obtain⟨-,h1⟩:=take_some h1
    exact fun w w' hf hk=>Spec.keepN (hgood j s' h1) hf hk) h k
   have go:∀ (v:Value) (w' : World),s.shape v→s.factN base v w' → SinceG w w' → (∀ g,s.blkN v g→w.heap.size≤g)→wpAny P .any ops Q (f+(ops.size-n)) (listed.setIfInBounds i true) (a.put o.dst v) w' := fun v w' hv hf hw hd =>
    ih _ _ _ _ (fun e he=>getD_set_true (hE e he)) (inv.set hi hin) (by have:=(cnt_set his hun n).2 hin;omega) (h.step hB hn hsz hin ho hss hgood (shapeL_set h.shape hss hv) hf hw (hmono _ _ h.cls hw) hd)
   generalize hA:fr (ops.toList.take i) (vs.take i) a0=A at *
   have hAs:a.tmps.size=A.tmps.size:=by rw[← hA,fr_size];exact h.siz
   unfold wpOp
   simp only[ho]
   rw[hwa]
   cases s with
   | det c =>
    unfold Spec.asksN at hask
    dsimp only at hask
    by_cases hw:Region.wanted o (yielded ops A.tmps)=true
    ·rw[if_pos hw] at hask ⊢
     obtain⟨v,hv,hp⟩:=hask hFm w h.cls hF
     have hq:=hv w ⟨h.cls,hF,SinceG.rfl_ w⟩
     have hpc:a.put o.dst v=a.put o.dst c:=put_congr hp hAs
     left
     unfold Oper.wp
     rw[hex]
     unfold Oper.quietAt at hq
     generalize (execOp A.eval o).run P w=r at hq
     unfold Oper.quietUpon at hq
     split at hq
     ·obtain⟨rfl,rfl⟩:=hq
      show wpAny P .any ops Q _ _ (a.put o.dst _) _
      rw[hpc]
      exact go c _ rfl trivial (SinceG.rfl_ _) (fun g hg=>hg.elim)
     ·obtain⟨rfl,rfl⟩:=hq
      show wpAny P .any ops Q _ _ (a.put o.dst _) _
      rw[hpc]
      exact go c _ rfl trivial (SinceG.rfl_ _) (fun g hg=>hg.elim)
     ·obtain⟨rfl,hcall⟩:=hq
      rw[Oper.upon_enter]
      refine hcall.mono ?_
      rintro e w'' ⟨rfl,hC⟩
      show wpAny P .any ops Q _ _ (a.put o.dst _) _
      rw[hpc]
      exact go c _ rfl trivial hC.out.2.2 (fun g hg=>hg.elim)
     ·exact hq.elim
    ·rw[if_neg hw] at hask ⊢
     subst hask
     exact go undef w rfl trivial (SinceG.rfl_ _) (fun g hg=>hg.elim)
   | mk fn t cs =>
    obtain⟨hw,hrun⟩:=hask
    rw[if_pos hw]
    left
    unfold Oper.wp
    rw[hex,hrun w]
    show wpAny P .any ops Q _ _ (a.put o.dst _) _
    refine go _ _ ⟨_,rfl⟩ ⟨_,rfl,Blk.new w t cs,h.bas,hTb _ h.bas⟩ ((SinceG.rfl_ w).alloc _) (fun g hg=>?_)
    have:w.heap.size=g:=hmo.1 _ _ hg
    omega
   | any R =>
    obtain⟨hw,hrun⟩:=hask
    rw[if_pos hw]
    left
    unfold Oper.wp
    rw[hex]
    have hr:=hrun w h.cls hF
    unfold runVG at hr
    generalize (execOp A.eval o).run P w=r at hr
    split at hr
    ·exact go _ _ trivial ⟨hr.1,fun g e k=>(hr.2.2 g e k).2⟩ hr.2.1 (fun g hg=>(hr.2.2 g hg.1 hg.2).1)
    ·exact go _ _ trivial ⟨hr.1,fun g e k=>(hr.2.2 g e k).2⟩ hr.2.1 (fun g hg=>(hr.2.2 g hg.1 hg.2).1)
    ·rw[Oper.upon_enter]
     refine hr.mono ?_
     rintro e w'' ⟨v,rfl,h1,h2,h3⟩
     exact go v _ trivial ⟨h1,fun g e k=>(h3 g e k).2⟩ h2 (fun g hg=>(h3 g hg.1 hg.2).1)
    ·exact hr.elim
end
theorem wpAny_takeD{P:Program}{ops:Array Oper}{Q:Exit→Act→World→Prop}{md:Region.Mode}{i:Nat}(t:Nat){oi:Oper}{v:Value}{fuel:Nat}{listed:Array Bool}{a:Act}{w:World}(hi:ops[i]? = some oi)(hd:oi.dst=some t)
  (hs:Region.noSelect ops=true) (hf:Region.free md ops listed i=true) (hr:(Region.ready md ops listed).contains i=true)
  (hQ:∀ c a w,Q (.panic c) (a.put (some t) v) w→Q (.panic c) a w) (hy:Yields P ops oi v a)
  (h:wpAny P md ops Q fuel (listed.setIfInBounds i true) (a.put (some t) v) w):wpAny P md ops Q (fuel+1) listed a w :=
 wpAny_take hi hs hf hr (by rw[hd];exact hQ) hy (by rw[hd];exact h)
theorem shapeL_at:∀ {ss:List Spec} {vs:List Value},shapeL ss vs→∀ (j:Nat) s v,ss[j]? = some s→vs[j]? = some v→s.shape v
 | s :: ss,v :: vs,h,0,s',v',h1,h2=>by
  simp at h1 h2
  subst h1 h2
  exact h.1
 | s :: ss,v :: vs,h,j+1,s',v',h1,h2=>shapeL_at h.2 j s' v' (by simpa using h1) (by simpa using h2)
 | [],_,_,_,_,_,h1,_=>by simp at h1
 | _ :: _,[],h,_,_,_,_,_=>h.elim
theorem region_factsX[RegG]{P:Program}{Q:Exit→Act→World→Prop}{a:Act}{w:World}{ops:Array Oper}{listed:Array Bool}(n:Nat)(E:List Nat)(S:World→Prop)(hB:Region.factsBX ops n E listed=true)(hS:S w)(hmono:∀ w w',S w→SinceG w w' → S w')(hTb:∀ g,w.heap.size≤g→RegG.base≤g)(ss:List Spec)(f:Nat)(hf:f=cnt n listed+(ops.size-n))
  (hE:∀ e∈E,∃ (c:Value) (t:Nat),ss[e]? = some (.det c)∧(ops[e]?).bind (·.dst)=some t∧a.tmps[t]? = some c)
  (h:wpON P ops S w.heap.size (fun a' w' => wpList P ops Q (ops.toList.drop n) a' w') (ops.toList.take n) ss [] [] a):wpAny P .any ops Q f listed a w:=by
 unfold Region.factsBX at hB
 simp only[Bool.and_eq_true,Bool.or_eq_true,decide_eq_true_eq] at hB
 obtain⟨⟨⟨⟨⟨h1,h2⟩,h3⟩,h4⟩,h5⟩,h6⟩:=hB
 obtain⟨inv,hiff,hlt⟩:=startB_inv h6 h2
 obtain⟨vs,hvs⟩:=shapeL_some ss
 have hlen:(ops.toList.take n).length=n:=by simp;omega
 have hss:ss.length=n:=by rw[← wpO_lenN h hvs,hlen]
 have hat:∀ (j:Nat) s v,ss[j]? = some s→vs[j]? = some v→s.shape v:=fun j s v=>shapeL_at hvs j s v
 have hdet:∀ (j:Nat),listed.getD j false=true→∃ c,ss[j]? = some (.det c)∧vs[j]? = some c:=fun j hj=>by
  obtain⟨c,t,e1,-,-⟩:=hE j ((hiff j).1 hj)
  have hjl:j<vs.length:=by rw[← shapeL_len hvs];exact(List.getElem?_eq_some_iff.1 e1).1
  refine⟨c,e1,?_⟩
  rw[List.getElem?_eq_getElem hjl]
  have:=hat j _ _ e1 (List.getElem?_eq_getElem hjl)
  rw[show vs[j]=c from this]
 have hd0:HdN P ops S w.heap.size n ss a listed a w vs :=
  ⟨by rw[← shapeL_len hvs,hss],hvs,rfl,rfl,fun t _=>rfl,fun j o t hj ho hl hd ht=>by
      obtain⟨c,t',e1,e2,e5⟩:=hE j ((hiff j).1 hl)
      obtain⟨c',e3,e4⟩:=hdet j hl
      rw[e1] at e3
      injection e3 with e3
      injection e3 with e3
      rw[ho] at e2
      have e6:t=t' := Option.some.inj (hd.symm.trans e2)
      rw[e6,e4,e5,e3],
   fun j s v _ hl hs hv=>by
    obtain⟨c,e1,e2⟩:=hdet j hl
    rw[e1] at hs
    injection hs with hs
    subst hs
    trivial,
   fun j k s s' v v' _ hl _ hs _ _ _ g g' hg _=>by
    obtain⟨c,e1,e2⟩:=hdet j hl
    rw[e1] at hs
    injection hs with hs
    subst hs
    exact hg.elim,hS,Nat.le_refl _⟩
 rw[hf]
 exact facts_anyX h1 h2 h3 h4 h5 h hss hmono hTb _ _ _ _ _ (fun e he=>(hiff e).2 he) inv rfl hd0
end
end Go.Proofs.YtdnccjdlmepafaaGreat
