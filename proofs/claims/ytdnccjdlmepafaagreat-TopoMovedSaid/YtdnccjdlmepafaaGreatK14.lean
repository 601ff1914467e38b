/-
  What hot.Chains computes; an append to a slice that is full; The walk of hot.Chains; Plain law: snap rounding. Pieces of two segments that do not meet, and in whose pixels no end of the other lies, do not meet when they are rounded; Plain law: hot.Meets says whether some point of the segment lies in the pixel; Plain laws of rounded chains: points met by a segment, in its direction; Plain laws of rounded chains: through, as a list; Plain laws of rounded chains: one round on; Plain laws of rounded chains: rounded pieces do not cross. Conditions: those that each lemma names.
-/
import Derived.Test.YtdnccjdlmepafaaGreatK13
import Derived.Test.YtdnccjdlmepafaaGreatK02
set_option linter.unusedSimpArgs false
set_option linter.unusedVariables false
set_option linter.constructorNameAsVariable false
namespace Go.Proofs.YtdnccjdlmepafaaGreat
section
open Go.RowKit Go.BigFrame
def thrL(a b:Pt2)(H:List Pt2):List Pt2:=(H.filter (metB a b)).mergeSort fun x y => !decide (dirV a b y x<0)
def nextG(H c:List Pt2)(n:Nat):List Pt2:=(List.range n).flatMap fun i=>(thrL (pAt c i) (pAt c (i+1)) H).tail
def nextC(H c:List Pt2):List Pt2:=pAt c 0 :: nextG H c (c.length-1)
def stepC(cs:List (List Pt2)):List (List Pt2):=cs.map (nextC (hotL (edgL cs)))
def iterC:Nat→List (List Pt2)→List (List Pt2)
 | 0,cs=>cs
 | n+1,cs=>stepC (iterC n cs)
theorem nextG_succ(H c:List Pt2)(n:Nat):nextG H c (n+1)=nextG H c n++(thrL (pAt c n) (pAt c (n+1)) H).tail:=by unfold nextG;rw[List.range_succ,List.flatMap_append];simp
structure StepOk(cs:List (List Pt2)):Prop where
 ne:cs≠[]
 n:cs.length≤1000
 len:∀ i,i<cs.length→2≤(chAt cs i).length∧(chAt cs i).length≤10000
 ok:∀ i,i<cs.length→∀ p∈chAt cs i,okP p.1 p.2=true
 el:(edgL cs).length≤100000
 ene:edgL cs≠[]
 eok:∀ s∈edgL cs,SgOk s
 cap:(hotL (edgL cs)).length≤1000
 hok:∀ p∈hotL (edgL cs),okP p.1 p.2=true
 two:∀ i,i<cs.length→∀ k,k+1<(chAt cs i).length→2≤(thrL (pAt (chAt cs i) k) (pAt (chAt cs i) (k+1)) (hotL (edgL cs))).length
 one:∀ i,i<cs.length→∀ k,k+1<(chAt cs i).length→∀ l,Thru (pAt (chAt cs i) k) (pAt (chAt cs i) (k+1)) (hotL (edgL cs)) l→l=thrL (pAt (chAt cs i) k) (pAt (chAt cs i) (k+1)) (hotL (edgL cs))
 nx:∀ i,i<cs.length→∀ k,k<(chAt cs i).length→(nextG (hotL (edgL cs)) (chAt cs i) k).length≤100000
def lensC(cs:List (List Pt2)):List Nat:=cs.map List.length
structure RunC(cs:List (List Pt2))(N:Nat):Prop where
 good:∀ k,k≤N→StepOk (iterC k cs)
 more:∀ k,k<N→lensC (iterC (k+1) cs)≠lensC (iterC k cs)
 last:lensC (iterC (N+1) cs)=lensC (iterC N cs)
def NxS(w:World)(B:Nat)(v:Value)(l:List Pt2):Prop :=
 (∃ g p,v=.slice (some ⟨g,0,none⟩) 1 1∧l=[p]∧g<B∧w.cell? ⟨g,0,none⟩=some (.int .i64 p.1)∧w.cell? ⟨g,1,none⟩=some (.int .i64 p.2))∨w.ownsRow B 36 2 v l.length (l.flatMap ptV)
theorem NxS.slice{w:World}{B:Nat}{v:Value}{l:List Pt2}(h:NxS w B v l):∃ a c,v=.slice a l.length c:=by
 rcases h with⟨g,p,hv,hl,-⟩ | h
 ·exact⟨_,1,by rw[hv,hl];rfl⟩
 ·exact own_slice h
theorem NxS.since{w w' : World}{B:Nat}{v:Value}{l:List Pt2}(h:NxS w B v l)(hs:Since w w'):NxS w' B v l:=by
 rcases h with⟨g,p,hv,hl,hg,h1,h2⟩ | h
 ·exact .inl ⟨g,p,hv,hl,hg,keepC hs _ _ h1,keepC hs _ _ h2⟩
 ·exact .inr (own_since hs h)
theorem ptV_onec(l:List Pt2):∀ u∈l.flatMap ptV,u.oneCell' = true:=by
 intro u hu
 obtain⟨p,-,hp⟩:=List.mem_flatMap.1 hu
 exact ptV_one p u hp
theorem run_append_next{w:World}{B:Nat}{v:Value}{l m:List Pt2}(ty:TypeId)(h:NxS w B v l)(hB:B≤w.heap.size)(a:Addr)(c:Nat)(hm:0<m.length)(hml:l.length+m.length≤1000000000)(hnews:∀ j u,(m.flatMap ptV)[j]? = some u→w.cell? (a.add j)=some u) :
  ∃ v' w',(Builtin.append_ #[23,23] ty #[v,.slice (some a) m.length c]).run Tryz.prog w=.ok v' w' ∧ w'.ownsRow B 36 2 v' (l.length+m.length) ((l++m).flatMap ptV)∧∀ w0,Since w0 w→w0.heap.size≤B→Since w0 w' := by
 obtain⟨i0,hi,hz,hz1,hz2⟩:=info_parts infoPt
 rcases h with⟨g,p,rfl,rfl,hg,h1,h2⟩ | h
 ·have hr:=run_append_grow (P:=Tryz.prog) w 23 ty 36 i0 _ Tryz.underlying23 hi hz ⟨g,0,none⟩ 1 1 (ptV p) (by rw[hz1];rfl) (fun j u hj=>by
   rcases j with _ | _ | j
   ·simp[ptV] at hj;rw[← hj];exact h1
   ·simp[ptV] at hj;rw[← hj];exact h2
   ·simp[ptV] at hj) a m.length c (m.flatMap ptV) (by rw[hz1,flatP_len]) hnews (by omega) (by simp only[List.length_singleton] at hml;omega) (by
    rw[hz2]
    refine growslice_fits (by omega) ?_
    simp only[List.length_singleton] at hml;omega)
  refine⟨_,_,hr,?_,fun w0 hs hb=>?_⟩
  ·have hge:=grownCap_ge w (1+m.length) 1 36
   have hcm:grownCap w (1+m.length) 1 36≤maxLen:=grownCap_le_maxLen w (1+m.length) 1 36 (by simp only[List.length_singleton] at hml;unfold maxLen;omega)
   refine⟨by rw[flatP_len,List.length_append],.inr ⟨w.heap.size,_,_,rfl,hB,heap_alloc_new w.drew _,hge,hcm,?_,?_⟩⟩
   ·simp only[Array.size_append,List.size_toArray,size_zeroCells,flatP_len,ptV_len,show(Value.agg #[Value.int IntKind.i64 0,Value.int IntKind.i64 0]).cells.size=2 from rfl]
    omega
   ·rw[List.flatMap_append]
    have e:(ptV p)=[p].flatMap ptV:=by simp
    rw[e]
    simp only[Array.toList_append,List.append_assoc]
    rw[← List.append_assoc]
    refine List.take_left' ?_
    rw[List.length_append,flatP_len,flatP_len]
    simp only[List.length_singleton];omega
  ·exact((hs.drew).alloc _)
 ·obtain⟨v',w',hr,h1,h2,-⟩:=run_append_own (P:=Tryz.prog) w B 23 ty 36 i0 _ 2 16 Tryz.underlying23 hi hz hz1 hz2 rfl (by decide) v l.length (l.flatMap ptV) h a m.length c (m.flatMap ptV) (flatP_len m) hnews (ptV_onec m) (by unfold maxLen;omega) (by omega) hB
  exact⟨v',w',hr,by rw[List.flatMap_append];exact h1,fun w0 hs hb=>hs.grown h2 (by have:=hs.size;omega) fun k hk=>by have:=(h.lt k hk).1;omega⟩
theorem wpList_append_eq{w w' : World}{ops:Array Oper}{rest:List Oper}{o:Oper}{a:Act}{Q:Exit→Act→World→Prop}(hgd:o.guard=none)(s x:Operand)
  (ho:o.op=.call { callee:=.builtin .append,args := #[s,x],argTypes := #[23,23] }) {v u v' : Value} (hs:a.eval s=v) (hx:a.eval x=u)
  (hr:(Builtin.append_ #[23,23] o.type #[v,u]).run Tryz.prog w=.ok v' w') (h:wpList Tryz.prog ops Q rest (a.put o.dst v') w'):wpList Tryz.prog ops Q (o :: rest) a w:=by
 refine wpList_plain hgd fun _ hK=>?_
 unfold Oper.wp execOp
 simp only[ho,resolve,invoke,builtin,Sem.run_bind,Sem.run_pure,Result.andThen_ok,List.map_toArray,List.map_cons,List.map_nil,hs,hx,hr]
 exact hK _ _ h
end
section
open Go.RowKit Go.BigFrame
attribute [local go_sem ↓] eqPt neqPt
def SlP(w:World)(v:Value)(c:List Pt2)(g5:Nat):Prop :=
 ∃ g cap,v=.slice (some ⟨g,0,none⟩) c.length cap∧c.length≤cap∧g5<g∧g<w.heap.size∧∀ j,j<c.length→w.cell? ⟨g,j*2,none⟩=some (.int .i64 (pAt c j).1)∧w.cell? ⟨g,j*2+1,none⟩=some (.int .i64 (pAt c j).2)
theorem SlP.pts{w:World}{v:Value}{c:List Pt2}{g5:Nat}(h:SlP w v c g5):PtsS w v c:=by
 obtain⟨g,cap,rfl,-,-,-,h⟩:=h
 exact⟨_,_,rfl,fun i hi=>⟨g,0,rfl,by rw[Nat.zero_add];exact(h i hi).1,by rw[Nat.zero_add];exact(h i hi).2⟩⟩
theorem SlP.since{w w' : World}{v:Value}{c:List Pt2}{g5:Nat}(h:SlP w v c g5)(k:Since w w'):SlP w' v c g5:=by
 obtain⟨g,cap,hv,hc,hg,hl,h⟩:=h
 exact⟨g,cap,hv,hc,hg,Nat.lt_of_lt_of_le hl k.size,fun j hj=>⟨keepC k _ _ (h j hj).1,keepC k _ _ (h j hj).2⟩⟩
theorem SlP.only{w w' : World}{v:Value}{c:List Pt2}{g5:Nat}(h:SlP w v c g5)(k:Only g5 w w'):SlP w' v c g5:=by
 obtain⟨g,cap,hv,hc,hg,hl,h⟩:=h
 exact⟨g,cap,hv,hc,hg,Nat.lt_of_lt_of_le hl k.size,fun j hj=>⟨keepOC k _ _ (by dsimp only;omega) (h j hj).1,keepOC k _ _ (by dsimp only;omega) (h j hj).2⟩⟩
def VG(w:World)(g5:Nat)(cs:List (List Pt2))(k:Nat):Prop :=
 ∃ vals:List Value,Blk w g5 23 vals.toArray∧vals.length=cs.length∧∀ i,i<k→SlP w (vals.getD i undef) (chAt cs i) g5
theorem VG.since{w w' : World}{g5:Nat}{cs:List (List Pt2)}{k:Nat}(h:VG w g5 cs k)(s:Since w w'):VG w' g5 cs k:=by
 obtain⟨vals,hb,hl,h⟩:=h
 exact⟨vals,s.blk hb,hl,fun i hi=>(h i hi).since s⟩
theorem VG.ch{w:World}{g5:Nat}{cs:List (List Pt2)}{c:Nat}(h:VG w g5 cs cs.length):ChS w (.slice (some ⟨g5,0,none⟩) cs.length c) cs:=by
 obtain⟨vals,hb,hl,h⟩:=h
 refine⟨g5,c,rfl,fun i hi=>⟨vals.getD i undef,?_,(h i hi).pts⟩⟩
 rw[hb.cell]
 simp[List.getD,show i<vals.length by omega]
theorem VG.set{w w' : World}{g5:Nat}{cs cs' : List (List Pt2)}{n i:Nat}{v:Value}(h:VG w g5 cs n)(hs:Since w w')(hn:cs'.length=cs.length)(hi:i<cs.length)(hv:SlP w' v (chAt cs' i) g5)(hne:∀ j,j<n→j≠i→chAt cs' j=chAt cs j)(m:Nat)(hm:∀ j,j<m→j<n∨j=i) :
  VG (w'.setCell ⟨g5,i,none⟩ v) g5 cs' m∧Only g5 w' (w'.setCell ⟨g5,i,none⟩ v):=by
 obtain⟨vals,hb,hl,h⟩:=h
 have ho:Only g5 w' (w'.setCell ⟨g5,i,none⟩ v):=((Since.rfl_ w').only g5).setCell (.inl rfl) v
 refine⟨⟨vals.set i v,?_,by rw[List.length_set,hl,hn],fun j hj=>?_⟩,ho⟩
 ·have:=(hs.blk hb).set_ i v
  simpa using this
 ·by_cases e:j=i
  ·subst e
   have:(vals.set j v).getD j undef=v:=by simp[List.getD,show j<vals.length by omega]
   rw[this];exact hv.only ho
  ·have hj' : j<n:=by rcases hm j hj with h | h <;> first | exact h | exact absurd h e
   have:(vals.set i v).getD j undef=vals.getD j undef:=by simp[List.getD,List.getElem?_set,Ne.symm e]
   rw[this,hne j hj' e];exact((h j hj').since hs).only ho
def cs0(l:List Sg):List (List Pt2):=l.map fun s=>[s.1,s.2]
theorem cs0_at{l:List Sg}{i:Nat}(h:i<l.length):chAt (cs0 l) i=[(sgAt l i).1,(sgAt l i).2]:=by simp[chAt,cs0,sgAt,List.getD,h]
def midC(H:List Pt2)(cs:List (List Pt2))(k:Nat):List (List Pt2):=(List.range cs.length).map fun i=>if i<k then nextC H (chAt cs i) else chAt cs i
theorem midC_len(H:List Pt2)(cs:List (List Pt2))(k:Nat):(midC H cs k).length=cs.length:=by simp[midC]
theorem midC_at{H:List Pt2}{cs:List (List Pt2)}{k i:Nat}(h:i<cs.length):chAt (midC H cs k) i=if i<k then nextC H (chAt cs i) else chAt cs i:=by simp[chAt,midC,List.getD,h]
theorem ch_ext{a b:List (List Pt2)}(h:a.length=b.length)(k:∀ i,i<a.length→chAt a i=chAt b i):a=b:=by
 refine List.ext_getElem h fun i h1 h2=>?_
 have:=k i h1
 simpa[chAt,List.getD,h1,h2] using this
theorem midC_zero(H:List Pt2)(cs:List (List Pt2)):midC H cs 0=cs:=ch_ext (midC_len _ _ _) fun i hi=>by rw[midC_at (by rw[midC_len] at hi;exact hi)];simp
theorem midC_all(cs:List (List Pt2)):midC (hotL (edgL cs)) cs cs.length=stepC cs:=ch_ext (by rw[midC_len];simp[stepC]) fun i hi=>by
 rw[midC_len] at hi
 rw[midC_at hi,if_pos hi]
 simp[stepC,chAt,List.getD,hi]
theorem stepC_len(cs:List (List Pt2)):(stepC cs).length=cs.length:=by simp[stepC]
theorem iterC_len(cs:List (List Pt2)):∀ n,(iterC n cs).length=cs.length
 | 0=>rfl
 | n+1=>by rw[iterC,stepC_len,iterC_len cs n]
def moreB(H:List Pt2)(cs:List (List Pt2))(k:Nat):Bool:=(List.range k).any fun i=>(nextC H (chAt cs i)).length != (chAt cs i).length
theorem moreB_succ(H:List Pt2)(cs:List (List Pt2))(k:Nat):moreB H cs (k+1)=(moreB H cs k || ((nextC H (chAt cs k)).length != (chAt cs k).length)):=by unfold moreB;rw[List.range_succ,List.any_append];simp
theorem moreB_all(cs:List (List Pt2)):moreB (hotL (edgL cs)) cs cs.length=true↔lensC (stepC cs)≠lensC cs:=by
 unfold moreB lensC stepC
 rw[List.any_eq_true]
 constructor
 ·rintro⟨i,hi,h⟩ e
  rw[List.mem_range] at hi
  have:=congrArg (fun l=>l[i]?) e
  simp[hi] at this
  simp[chAt,List.getD,hi] at h
  exact h this
 ·intro h
  refine Classical.byContradiction fun hn=>h ?_
  refine List.ext_getElem (by simp) fun i h1 h2=>?_
  have hi:i<cs.length:=by simpa using h2
  refine Classical.byContradiction fun hc=>hn ⟨i,List.mem_range.2 hi,?_⟩
  simp at hc
  simpa[chAt,List.getD,hi] using hc
end
section
abbrev Q2:=Rat×Rat
theorem quo{d x:Rat}(hd:0<d)(hx:0≤x):∃ t,0≤t∧t*d=x:=by
 have hi:d*d⁻¹=1:=Rat.mul_inv_cancel _ (by grind)
 have hp:0<d⁻¹:=Rat.inv_pos.2 hd
 exact⟨x*d⁻¹,Rat.mul_nonneg hx (Rat.le_of_lt hp),by grind⟩
theorem root_{f g:Rat}(h:f≤0)(h2:0<g):∃ t:Rat,0≤t∧t≤1∧(1-t)*f+t*g=0:=by
 obtain⟨t,h0,h1⟩:=quo (d:=g-f) (x := -f) (by grind) (by grind)
 refine⟨t,h0,?_,by grind⟩
 rcases Rat.le_total (a:=t) (b:=1) with k | k
 ·exact k
 ·have:=Rat.mul_nonneg (a:=t-1) (b:=g-f) (by grind) (by grind)
  have:t=1:=by
   have h3:(t-1)*(g-f) = -g:=by grind
   grind
  grind
def lerp(P Q:Q2)(l:Rat):Q2:=(P.1+l*(Q.1-P.1),P.2+l*(Q.2-P.2))
def I01(l:Rat):Prop:=0≤l∧l≤1
def segI(P Q R S:Q2):Prop:=∃ l m,I01 l∧I01 m∧lerp P Q l=lerp R S m
def endp(l m:Rat):Prop:=l=0∨l=1∨m=0∨m=1
theorem one_{l dl:Rat}(hl:I01 l)(hd:dl≠0):∃ t,0≤t∧(l+t*dl=0∨l+t*dl=1)∧∀ u,0≤u→u≤t→I01 (l+u*dl):=by
 unfold I01 at *
 have hc:dl<0∨0<dl:=by grind
 rcases hc with hn | hp
 ·obtain⟨t,h0,h1⟩:=quo (d := -dl) (x:=l) (by grind) hl.1
  refine⟨t,h0,.inl (by grind),fun u hu hut=>?_⟩
  have a1:=Rat.mul_nonneg (a:=u) (b := -dl) hu (by grind)
  have a2:=Rat.mul_nonneg (a:=t-u) (b := -dl) (by grind) (by grind)
  grind
 ·obtain⟨t,h0,h1⟩:=quo (d:=dl) (x:=1-l) (by grind) (by grind)
  refine⟨t,h0,.inr (by grind),fun u hu hut=>?_⟩
  have a1:=Rat.mul_nonneg (a:=u) (b:=dl) hu (by grind)
  have a2:=Rat.mul_nonneg (a:=t-u) (b:=dl) (by grind) (by grind)
  grind
theorem exit_{l m dl dm:Rat}(hl:I01 l)(hm:I01 m)(h:dl≠0∨dm≠0):∃ t,0≤t∧I01 (l+t*dl)∧I01 (m+t*dm)∧endp (l+t*dl) (m+t*dm):=by
 unfold endp
 by_cases h1:dl=0
 ·subst h1
  obtain⟨t,h0,he,hu⟩:=one_ hm (h.resolve_left (by simp))
  refine⟨t,h0,by rw[show l+t*0=l by grind];exact hl,hu t h0 (Rat.le_refl),?_⟩
  rcases he with he | he
  ·exact .inr (.inr (.inl he))
  ·exact .inr (.inr (.inr he))
 ·obtain⟨t,h0,he,hu⟩:=one_ hl h1
  by_cases h2:dm=0
  ·subst h2
   refine⟨t,h0,hu t h0 Rat.le_refl,by rw[show m+t*0=m by grind];exact hm,?_⟩
   rcases he with he | he
   ·exact .inl he
   ·exact .inr (.inl he)
  ·obtain⟨t',h0',he',hu'⟩:=one_ hm h2
   rcases Rat.le_total (a:=t) (b:=t') with k | k
   ·refine⟨t,h0,hu t h0 Rat.le_refl,hu' t h0 k,?_⟩
    rcases he with he | he
    ·exact .inl he
    ·exact .inr (.inl he)
   ·refine⟨t',h0',hu t' h0' k,hu' t' h0' Rat.le_refl,?_⟩
    rcases he' with he | he
    ·exact .inr (.inr (.inl he))
    ·exact .inr (.inr (.inr he))
theorem mix{a b c:Rat}{f g:Rat→Rat→Rat}{f0 f1 f2 g0 g1 g2:Rat}(hf:∀ l m,f l m=f0+l*f1+m*f2)(hg:∀ l m,g l m=g0+l*g1+m*g2)
  {l m:Rat} (hl:I01 l) (hm:I01 m) (he:a+l*b=m*c) (h0:f l m=0) (h1:∀ l m,I01 l→I01 m→a+l*b=m*c→g l m≠0) :
  ∃ l m t,I01 l∧I01 m∧I01 t∧endp l m∧a+l*b=m*c∧(1-t)*f l m+t*g l m=0:=by
 -- the sign of g on the whole
 have key:∀ (f g:Rat→Rat→Rat) (f0 f1 f2 g0 g1 g2:Rat),(∀ l m,f l m=f0+l*f1+m*f2)→(∀ l m,g l m=g0+l*g1+m*g2)→f l m=0→(∀ l m,I01 l→I01 m→a+l*b=m*c→0<g l m) →
   ∃ l m t,I01 l∧I01 m∧I01 t∧endp l m∧a+l*b=m*c∧(1-t)*f l m+t*g l m=0:=by
  intro f g f0 f1 f2 g0 g1 g2 hf hg h0 h1
  -- a direction that keeps the equation
  obtain⟨dl,dm,hd,hk⟩:∃ dl dm:Rat,(dl≠0∨dm≠0)∧dl*b=dm*c:=by
   by_cases hb:b=0
   ·exact⟨1,0,.inl (by grind),by rw[hb];grind⟩
   ·exact⟨c,b,.inr hb,by grind⟩
  have go:∀ dl dm:Rat,(dl≠0∨dm≠0)→dl*b=dm*c→dl*f1+dm*f2≤0→∃ l m t,I01 l∧I01 m∧I01 t∧endp l m∧a+l*b=m*c∧(1-t)*f l m+t*g l m=0:=by
   intro dl dm hd hk hs
   obtain⟨t,ht,e1,e2,e3⟩:=exit_ hl hm hd
   have q1:a+(l+t*dl)*b=(m+t*dm)*c:=by
    have:t*(dl*b)=t*(dm*c):=by rw[hk]
    grind
   have q2:f (l+t*dl) (m+t*dm)≤0:=by
    have:=Rat.mul_nonneg (a:=t) (b := -(dl*f1+dm*f2)) ht (by grind)
    rw[hf] at h0 ⊢
    grind
   obtain⟨u,u0,u1,u2⟩:=root_ q2 (h1 _ _ e1 e2 q1)
   exact⟨_,_,u,e1,e2,⟨u0,u1⟩,e3,q1,u2⟩
  by_cases hs:dl*f1+dm*f2≤0
  ·exact go dl dm hd hk hs
  ·exact go (-dl) (-dm) (by grind) (by grind) (by grind)
 have sgn:(∀ l m,I01 l→I01 m→a+l*b=m*c→0<g l m)∨(∀ l m,I01 l→I01 m→a+l*b=m*c→g l m<0):=by
  have hne:=h1 l m hl hm he
  have hc:0<g l m∨g l m<0:=by grind
  rcases hc with hp | hn
  ·left
   intro l' m' hl' hm' he'
   refine Classical.byContradiction fun hno=>?_
   have hle:g l' m' ≤ 0:=by grind
   obtain⟨t,t0,t1,t2⟩:=root_ hle hp
   refine h1 ((1-t)*l' + t*l) ((1-t)*m' + t*m) ?_ ?_ (by grind) ?_
   ·unfold I01 at *
    have a1:=Rat.mul_nonneg (a:=1-t) (b:=l') (by grind) hl'.1
    have a2:=Rat.mul_nonneg (a:=t) (b:=l) t0 hl.1
    have a3:=Rat.mul_nonneg (a:=1-t) (b:=1-l') (by grind) (by grind)
    have a4:=Rat.mul_nonneg (a:=t) (b:=1-l) t0 (by grind)
    grind
   ·unfold I01 at *
    have a1:=Rat.mul_nonneg (a:=1-t) (b:=m') (by grind) hm'.1
    have a2:=Rat.mul_nonneg (a:=t) (b:=m) t0 hm.1
    have a3:=Rat.mul_nonneg (a:=1-t) (b:=1-m') (by grind) (by grind)
    have a4:=Rat.mul_nonneg (a:=t) (b:=1-m) t0 (by grind)
    grind
   ·rw[hg] at t2 ⊢
    rw[hg] at t2
    grind
  ·right
   intro l' m' hl' hm' he'
   refine Classical.byContradiction fun hno=>?_
   have hle : -(g l' m')≤0:=by grind
   obtain⟨t,t0,t1,t2⟩:=root_ hle (show 0 < -(g l m) by grind)
   refine h1 ((1-t)*l' + t*l) ((1-t)*m' + t*m) ?_ ?_ (by grind) ?_
   ·unfold I01 at *
    have a1:=Rat.mul_nonneg (a:=1-t) (b:=l') (by grind) hl'.1
    have a2:=Rat.mul_nonneg (a:=t) (b:=l) t0 hl.1
    have a3:=Rat.mul_nonneg (a:=1-t) (b:=1-l') (by grind) (by grind)
    have a4:=Rat.mul_nonneg (a:=t) (b:=1-l) t0 (by grind)
    grind
   ·unfold I01 at *
    have a1:=Rat.mul_nonneg (a:=1-t) (b:=m') (by grind) hm'.1
    have a2:=Rat.mul_nonneg (a:=t) (b:=m) t0 hm.1
    have a3:=Rat.mul_nonneg (a:=1-t) (b:=1-m') (by grind) (by grind)
    have a4:=Rat.mul_nonneg (a:=t) (b:=1-m) t0 (by grind)
    grind
   ·rw[hg] at t2 ⊢
    rw[hg] at t2
    grind
 rcases sgn with hp | hn
 ·exact key f g f0 f1 f2 g0 g1 g2 hf hg h0 hp
 ·obtain⟨l',m',t,e1,e2,e3,e4,e5,e6⟩:=key (fun l m => -(f l m)) (fun l m => -(g l m)) (-f0) (-f1) (-f2) (-g0) (-g1) (-g2) (fun l m=>by rw[hf];grind) (fun l m=>by rw[hg];grind) (by grind) (fun l m h1 h2 h3=>by have:=hn l m h1 h2 h3;grind)
  exact⟨l',m',t,e1,e2,e3,e4,e5,by grind⟩
def Box(d:Rat):Prop := -1/2≤d∧d<1/2
def inP(h X:Q2):Prop:=Box (X.1-h.1)∧Box (X.2-h.2)
theorem box_mix{d e t:Rat}(hd:Box d)(he:Box e)(ht:I01 t):Box ((1-t)*d+t*e):=by
 unfold Box I01 at *
 have a1:=Rat.mul_nonneg (a:=1-t) (b:=d+1/2) (by grind) (by grind)
 have a2:=Rat.mul_nonneg (a:=t) (b:=e+1/2) ht.1 (by grind)
 have a3:=Rat.mul_nonneg (a:=1-t) (b:=1/2-d) (by grind) (by grind)
 have a4:=Rat.mul_nonneg (a:=t) (b:=1/2-e) ht.1 (by grind)
 refine⟨by grind,?_⟩
 by_cases h:t=0
 ·subst h;grind
 ·have:0<t:=by grind
  have:=Rat.mul_pos (a:=t) (b:=1/2-e) this (by grind)
  grind
theorem snap_apart{p q r s P Q R S:Q2}(hp:inP p P)(hq:inP q Q)(hr:inP r R)(hs:inP s S)
  (nr:∀ l,I01 l→¬ inP r (lerp P Q l)) (ns:∀ l,I01 l→¬ inP s (lerp P Q l)) (np:∀ m,I01 m→¬ inP p (lerp R S m)) (nq:∀ m,I01 m→¬ inP q (lerp R S m))
  (hno:¬ segI P Q R S):¬ segI p q r s:=by
 -- the x move with the y of the pieces
 have st1:¬ segI (p.1,P.2) (q.1,Q.2) (r.1,R.2) (s.1,S.2):=by
  rintro⟨l,m,hl,hm,he⟩
  unfold lerp at he
  injection he with h1 h2
  dsimp only at h1 h2
  obtain⟨l',m',t,il,im,it,hen,heq,hz⟩:=mix (a:=P.2-R.2) (b:=Q.2-P.2) (c:=S.2-R.2) (f:=fun l m=>(p.1+l*(q.1-p.1))-(r.1+m*(s.1-r.1))) (g:=fun l m=>(P.1+l*(Q.1-P.1))-(R.1+m*(S.1-R.1)))
   (f0:=p.1-r.1) (f1:=q.1-p.1) (f2 := -(s.1-r.1)) (g0:=P.1-R.1) (g1:=Q.1-P.1) (g2 := -(S.1-R.1)) (fun l m=>by grind) (fun l m=>by grind) hl hm (by grind) (by grind) (by
    intro l m hl hm he h0
    refine hno ⟨l,m,hl,hm,?_⟩
    unfold lerp
    apply Prod.ext <;> dsimp only <;> grind)
  have bl:Box ((1-l')*(P.1-p.1)+l' * (Q.1-q.1)):=box_mix hp.1 hq.1 il
  have bm:Box ((1-m')*(R.1-r.1)+m' * (S.1-s.1)):=box_mix hr.1 hs.1 im
  rcases hen with h | h | h | h
  ·subst h
   refine np m' im ⟨?_,?_⟩
   ·have:=box_mix bm hp.1 it
    unfold lerp Box at *;grind
   ·have:=hp.2
    unfold lerp Box at *;grind
  ·subst h
   refine nq m' im ⟨?_,?_⟩
   ·have:=box_mix bm hq.1 it
    unfold lerp Box at *;grind
   ·have:=hq.2
    unfold lerp Box at *;grind
  ·subst h
   refine nr l' il ⟨?_,?_⟩
   ·have:=box_mix bl hr.1 it
    unfold lerp Box at *;grind
   ·have:=hr.2
    unfold lerp Box at *;grind
  ·subst h
   refine ns l' il ⟨?_,?_⟩
   ·have:=box_mix bl hs.1 it
    unfold lerp Box at *;grind
   ·have:=hs.2
    unfold lerp Box at *;grind
 rintro⟨l,m,hl,hm,he⟩
 unfold lerp at he
 injection he with h1 h2
 obtain⟨l',m',t,il,im,it,hen,heq,hz⟩:=mix (a:=p.1-r.1) (b:=q.1-p.1) (c:=s.1-r.1) (f:=fun l m=>(p.2+l*(q.2-p.2))-(r.2+m*(s.2-r.2))) (g:=fun l m=>(P.2+l*(Q.2-P.2))-(R.2+m*(S.2-R.2)))
  (f0:=p.2-r.2) (f1:=q.2-p.2) (f2 := -(s.2-r.2)) (g0:=P.2-R.2) (g1:=Q.2-P.2) (g2 := -(S.2-R.2)) (fun l m=>by grind) (fun l m=>by grind) hl hm (by grind) (by grind) (by
   intro l m hl hm he h0
   refine st1 ⟨l,m,hl,hm,?_⟩
   unfold lerp
   apply Prod.ext <;> dsimp only <;> grind)
 have bl:Box ((1-l')*(P.2-p.2)+l' * (Q.2-q.2)):=box_mix hp.2 hq.2 il
 have bm:Box ((1-m')*(R.2-r.2)+m' * (S.2-s.2)):=box_mix hr.2 hs.2 im
 have bl1:Box ((1-l')*(P.1-p.1)+l' * (Q.1-q.1)):=box_mix hp.1 hq.1 il
 have bm1:Box ((1-m')*(R.1-r.1)+m' * (S.1-s.1)):=box_mix hr.1 hs.1 im
 rcases hen with h | h | h | h
 ·subst h
  refine np m' im ⟨?_,?_⟩
  ·unfold lerp Box at *;grind
  ·have:=box_mix bm hp.2 it
   unfold lerp Box at *;grind
 ·subst h
  refine nq m' im ⟨?_,?_⟩
  ·unfold lerp Box at *;grind
  ·have:=box_mix bm hq.2 it
   unfold lerp Box at *;grind
 ·subst h
  refine nr l' il ⟨?_,?_⟩
  ·unfold lerp Box at *;grind
  ·have:=box_mix bl hr.2 it
   unfold lerp Box at *;grind
 ·subst h
  refine ns l' il ⟨?_,?_⟩
  ·unfold lerp Box at *;grind
  ·have:=box_mix bl hs.2 it
   unfold lerp Box at *;grind
end
section
open Go.RowKit
theorem bnd_raw2{n d n' d' : Int}(h1:n.natAbs≤16777216)(h2:n'.natAbs≤16777216)(h3:d.natAbs≤16777216)(h4:d'.natAbs≤16777216) :
  bndCmp n d n' d' = if n*d' < n' * d then -1 else if n' * d<n*d' then 1 else 0:=by
 have a1:=mul_bd h1 h4
 have a2:=mul_bd h2 h3
 unfold bndCmp
 have w1:RowKit.wrap64 (n*d')=n*d' := wrap_id (by omega)
 have w2:RowKit.wrap64 (n' * d)=n' * d:=wrap_id (by omega)
 rw[w1,w2,wrap_id (by omega)]
 (repeat' split) <;> omega
def satLo(b:Bnd)(t:Rat):Prop:=if b.2.2=true then(b.1:Rat)≤t*b.2.1 else(b.1:Rat)<t*b.2.1
def satHi(b:Bnd)(t:Rat):Prop:=if b.2.2=true then t*b.2.1≤(b.1:Rat) else t*b.2.1<(b.1:Rat)
def bOk(b:Bnd):Prop:=0<b.2.1∧b.2.1≤16777216∧b.1.natAbs≤16777216
theorem cross_lt{n d n' d' : Int}(hd:0<d)(hd' : 0<d'){t t' : Rat}(h:t*d=n)(h' : t' * d' = n'):n*d' < n' * d↔t<t' := by
 have p:(0:Rat)<d:=by exact_mod_cast hd
 have p' : (0:Rat)<d' := by exact_mod_cast hd'
 have e:(n*d' < n' * d)↔((n:Rat)*d' < n' * d):=by constructor <;> intro k <;> exact_mod_cast k
 rw[e,← h,← h']
 constructor
 ·intro k
  refine Classical.byContradiction fun hn=>?_
  have:=Rat.mul_nonneg (a:=t-t') (b:=(d:Rat)*d') (by grind) (Rat.mul_nonneg (Rat.le_of_lt p) (Rat.le_of_lt p'))
  grind
 ·intro k
  have:=Rat.mul_pos (a:=t' - t) (b:=(d:Rat)*d') (by grind) (Rat.mul_pos p p')
  grind
theorem b_val{b:Bnd}(h:bOk b):∃ t:Rat,t*b.2.1=b.1:=by
 have p:(0:Rat)<(b.2.1:Rat):=by exact_mod_cast h.1
 exact⟨(b.1:Rat)*(b.2.1:Rat)⁻¹,by have:=Rat.mul_inv_cancel (b.2.1:Rat) (by grind);grind⟩
theorem sat_lo_iff{b:Bnd}(h:bOk b){v:Rat}(hv:v*b.2.1=b.1)(t:Rat):satLo b t↔v<t∨(v=t∧b.2.2=true):=by
 have p:(0:Rat)<(b.2.1:Rat):=by exact_mod_cast h.1
 have key:(v<t↔(b.1:Rat)<t*b.2.1)∧(v=t↔(b.1:Rat)=t*b.2.1):=by
  rw[← hv]
  refine⟨⟨fun k=>?_,fun k=>?_⟩,fun k=>by rw[k],fun k=>?_⟩
  ·have:=Rat.mul_pos (a:=t-v) (b:=(b.2.1:Rat)) (by grind) p
   grind
  ·refine Classical.byContradiction fun hn=>?_
   have:=Rat.mul_nonneg (a:=v-t) (b:=(b.2.1:Rat)) (by grind) (Rat.le_of_lt p)
   grind
  ·have:(v-t)*(b.2.1:Rat)=0:=by grind
   rcases Rat.mul_eq_zero.1 this with k | k <;> grind
 unfold satLo
 rw[key.1,key.2]
 split <;> grind
theorem sat_hi_iff{b:Bnd}(h:bOk b){v:Rat}(hv:v*b.2.1=b.1)(t:Rat):satHi b t↔t<v∨(v=t∧b.2.2=true):=by
 have p:(0:Rat)<(b.2.1:Rat):=by exact_mod_cast h.1
 have key:(t<v↔t*b.2.1<(b.1:Rat))∧(v=t↔(b.1:Rat)=t*b.2.1):=by
  rw[← hv]
  refine⟨⟨fun k=>?_,fun k=>?_⟩,fun k=>by rw[k],fun k=>?_⟩
  ·have:=Rat.mul_pos (a:=v-t) (b:=(b.2.1:Rat)) (by grind) p
   grind
  ·refine Classical.byContradiction fun hn=>?_
   have:=Rat.mul_nonneg (a:=t-v) (b:=(b.2.1:Rat)) (by grind) (Rat.le_of_lt p)
   grind
  ·have:(v-t)*(b.2.1:Rat)=0:=by grind
   rcases Rat.mul_eq_zero.1 this with k | k <;> grind
 unfold satHi
 rw[key.1,key.2]
 split <;> grind
theorem cmp_val{b b' : Bnd}(h:bOk b)(h' : bOk b'){v v' : Rat}(hv:v*b.2.1=b.1)(hv' : v' * b'.2.1=b'.1):bndCmp b.1 b.2.1 b'.1 b'.2.1=if v<v' then -1 else if v' < v then 1 else 0:=by
 obtain⟨p1,p2,p3⟩:=h
 obtain⟨q1,q2,q3⟩:=h'
 rw[bnd_raw2 p3 q3 (by omega) (by omega)]
 have e1:=cross_lt p1 q1 hv hv'
 have e2:=cross_lt q1 p1 hv' hv
 simp only[e1,e2]
theorem least_sat{lo:Bnd}{n d:Int}{c:Bool}(h:bOk lo)(h' : bOk (bnN n d,bnD d,c))(t:Rat):satLo (leastLo lo n d c) t↔satLo lo t∧satLo (bnN n d,bnD d,c) t:=by
 obtain⟨v,hv⟩:=b_val h
 obtain⟨v',hv'⟩:=b_val h'
 have hc:=cmp_val h' h hv' hv
 rw[sat_lo_iff h hv,sat_lo_iff h' hv']
 unfold leastLo
 dsimp only at hc
 split <;> rename_i k <;> unfold leastT at k <;> (try dsimp only at k) <;> rw[hc] at k
 ·rw[sat_lo_iff h' hv']
  dsimp only
  grind
 ·rw[sat_lo_iff h hv]
  grind
theorem most_sat{hi:Bnd}{n d:Int}{c:Bool}(h:bOk hi)(h' : bOk (bnN n d,bnD d,c))(t:Rat):satHi (mostHi hi n d c) t↔satHi hi t∧satHi (bnN n d,bnD d,c) t:=by
 obtain⟨v,hv⟩:=b_val h
 obtain⟨v',hv'⟩:=b_val h'
 have hc:=cmp_val h' h hv' hv
 rw[sat_hi_iff h hv,sat_hi_iff h' hv']
 unfold mostHi
 dsimp only at hc
 split <;> rename_i k <;> unfold mostT at k <;> (try dsimp only at k) <;> rw[hc] at k
 ·rw[sat_hi_iff h' hv']
  dsimp only
  grind
 ·rw[sat_hi_iff h hv]
  grind
theorem end_sat{lo hi:Bnd}(h:bOk lo)(h' : bOk hi):endE lo hi=true↔∃ t,satLo lo t∧satHi hi t:=by
 obtain⟨v,hv⟩:=b_val h
 obtain⟨v',hv'⟩:=b_val h'
 have hc:=cmp_val h h' hv hv'
 have k1:=fun t=>sat_lo_iff h hv t
 have k2:=fun t=>sat_hi_iff h' hv' t
 simp only[k1,k2]
 unfold endE
 rw[hc]
 by_cases h1:v<v'
 ·have:∃ t:Rat,(v<t∨v=t∧lo.2.2=true)∧(t<v' ∨ v' = t∧hi.2.2=true):=⟨(v+v')/2,by grind⟩
  simp[h1,this]
 ·by_cases h2:v' < v
  ·have:¬ ∃ t:Rat,(v<t∨v=t∧lo.2.2=true)∧(t<v' ∨ v' = t∧hi.2.2=true):=by rintro⟨t,ht⟩;grind
   simp[h1,h2,this]
  ·have e:v=v' := by grind
   subst e
   have hi' : ¬ v<v:=by grind
   simp only[hi',if_false]
   simp
   constructor
   ·rintro⟨a,b⟩
    exact⟨v,.inr ⟨rfl,a⟩,.inr ⟨rfl,b⟩⟩
   ·rintro⟨t,ht⟩
    grind
theorem bOk_bn{n d:Int}{c:Bool}(hd:d≠0)(h1:n.natAbs≤8388608)(h2:d.natAbs≤8388608):bOk (bnN n d,bnD d,c):=by
 have e1:wrap64 (-n) = -n:=wrap_id (by omega)
 have e2:wrap64 (-d) = -d:=wrap_id (by omega)
 unfold bOk bnN bnD
 dsimp only
 rw[e1,e2]
 split <;> omega
def strip(f d:Int)(t:Rat):Prop:=0≤(f:Rat)+t*d∧(f:Rat)+t*d<2
theorem cut_sat{lo hi:Bnd}{f d:Int}(h:bOk lo)(h' : bOk hi)(h1:f.natAbs≤8388600)(h2:d.natAbs≤8388608) :
  bOk (cutLo lo f d)∧bOk (cutHi hi f d)∧(cutOk f d=true→∀ t,satLo (cutLo lo f d) t∧satHi (cutHi hi f d) t↔(satLo lo t∧satHi hi t)∧strip f d t)∧(cutOk f d=false→∀ t,¬ strip f d t):=by
 have e1:wrap64 (-f) = -f:=wrap_id (by omega)
 have e0:wrap64 (-(-f))=f:=by rw[Int.neg_neg];exact wrap_id (by omega)
 have e2:wrap64 (-d) = -d:=wrap_id (by omega)
 have e3:wrap64 (-(2-f)) = -(2-f):=wrap_id (by omega)
 have pick:∀ (b:Bnd) (n d:Int) (c:Bool),bOk b→bOk (bnN n d,bnD d,c)→bOk (leastLo b n d c)∧bOk (mostHi b n d c):=by
  intro b n d c k k'
  unfold leastLo mostHi
  constructor <;> split <;> assumption
 rcases Int.lt_trichotomy d 0 with hd | hd | hd
 ·have b1:bOk (bnN (2-f) d,bnD d,false):=bOk_bn (by omega) (by omega) h2
  have b2:bOk (bnN (-f) d,bnD d,true):=bOk_bn (by omega) (by omega) h2
  have c1:cutLo lo f d=leastLo lo (2-f) d false:=by unfold cutLo;rw[if_neg (by omega),if_pos hd]
  have c2:cutHi hi f d=mostHi hi (-f) d true:=by unfold cutHi;rw[if_neg (by omega),if_pos hd]
  have c3:cutOk f d=true:=by unfold cutOk;rw[if_neg (by omega),if_pos hd]
  rw[c1,c2,c3]
  refine⟨(pick _ _ _ _ h b1).1,(pick _ _ _ _ h' b2).2,fun _ t=>?_,fun k=>by cases k⟩
  rw[least_sat h b1,most_sat h' b2]
  have:(satLo (bnN (2-f) d,bnD d,false) t∧satHi (bnN (-f) d,bnD d,true) t)↔strip f d t:=by
   unfold satLo satHi strip bnN bnD
   dsimp only
   simp only[if_pos hd,e3,e2,e0,Bool.false_eq_true,if_false,if_true]
   push_cast
   grind
  grind
 ·subst hd
  have c1:cutLo lo f 0=lo:=by unfold cutLo;rw[if_neg (by omega),if_neg (by omega)]
  have c2:cutHi hi f 0=hi:=by unfold cutHi;rw[if_neg (by omega),if_neg (by omega)]
  have c3:cutOk f 0=(decide (0≤f) && decide (f<2)):=by unfold cutOk;rw[if_neg (by omega),if_neg (by omega)]
  rw[c1,c2,c3]
  have e:∀ t,strip f 0 t↔(0≤f∧f<2):=fun t=>by
   unfold strip
   have q:(f:Rat)+t*((0:Int):Rat)=f:=by push_cast;grind
   rw[q]
   constructor
   ·rintro⟨a,b⟩;exact⟨by exact_mod_cast a,by exact_mod_cast b⟩
   ·rintro⟨a,b⟩;exact⟨by exact_mod_cast a,by exact_mod_cast b⟩
  refine⟨h,h',fun k t=>?_,fun k t=>?_⟩
  ·rw[e]
   simp at k
   simp[k]
  ·rw[e]
   simp at k
   omega
 ·have b1:bOk (bnN (-f) d,bnD d,true):=bOk_bn (by omega) (by omega) h2
  have b2:bOk (bnN (2-f) d,bnD d,false):=bOk_bn (by omega) (by omega) h2
  have c1:cutLo lo f d=leastLo lo (-f) d true:=by unfold cutLo;rw[if_pos hd]
  have c2:cutHi hi f d=mostHi hi (2-f) d false:=by unfold cutHi;rw[if_pos hd]
  have c3:cutOk f d=true:=by unfold cutOk;rw[if_pos hd]
  rw[c1,c2,c3]
  refine⟨(pick _ _ _ _ h b1).1,(pick _ _ _ _ h' b2).2,fun _ t=>?_,fun k=>by cases k⟩
  rw[least_sat h b1,most_sat h' b2]
  have:(satLo (bnN (-f) d,bnD d,true) t∧satHi (bnN (2-f) d,bnD d,false) t)↔strip f d t:=by
   unfold satLo satHi strip bnN bnD
   dsimp only
   simp only[if_neg (show ¬ d<0 by omega),Bool.false_eq_true,if_false,if_true]
   push_cast
   grind
  grind
def toQ(p:Int×Int):Q2:=((p.1:Rat),(p.2:Rat))
theorem meets_sat{a b p:Int×Int}(ha:a.1.natAbs≤1048576∧a.2.natAbs≤1048576)(hb:b.1.natAbs≤1048576∧b.2.natAbs≤1048576)(hp:p.1.natAbs≤1048576∧p.2.natAbs≤1048576) :
  meetsV a.1 a.2 b.1 b.2 p.1 p.2=true↔∃ t,I01 t∧inP (toQ p) (lerp (toQ a) (toQ b) t):=by
 have k0:bOk (0,1,true):=by unfold bOk;dsimp only;omega
 have k1:bOk (1,1,true):=by unfold bOk;dsimp only;omega
 obtain⟨x1,x2,x3,x4⟩:=cut_sat (f:=2*(a.1-p.1)+1) (d:=2*(b.1-a.1)) k0 k1 (by omega) (by omega)
 obtain⟨y1,y2,y3,y4⟩:=cut_sat (f:=2*(a.2-p.2)+1) (d:=2*(b.2-a.2)) x1 x2 (by omega) (by omega)
 have hz:∀ t,satLo (0,1,true) t∧satHi (1,1,true) t↔I01 t:=fun t=>by
  unfold satLo satHi I01
  simp only[if_true]
  push_cast
  grind
 have hs:∀ t,strip (2*(a.1-p.1)+1) (2*(b.1-a.1)) t∧strip (2*(a.2-p.2)+1) (2*(b.2-a.2)) t↔inP (toQ p) (lerp (toQ a) (toQ b) t):=fun t=>by
  unfold strip inP Box lerp toQ
  dsimp only
  push_cast
  grind
 unfold meetsV
 rw[Bool.and_eq_true,Bool.and_eq_true]
 unfold meetsE meetsLo meetsHi
 rw[end_sat y1 y2]
 constructor
 ·rintro⟨⟨h1,h2⟩,t,ht⟩
  have q1:=(y3 h2 t).1 ht
  have q2:=(x3 h1 t).1 q1.1
  exact⟨t,(hz t).1 q2.1,(hs t).1 ⟨q2.2,q1.2⟩⟩
 ·rintro⟨t,h1,h2⟩
  have q:=(hs t).2 h2
  have o1:cutOk (2*(a.1-p.1)+1) (2*(b.1-a.1))=true:=by
   cases e:cutOk (2*(a.1-p.1)+1) (2*(b.1-a.1)) with
   | true=>rfl
   | false=>exact absurd q.1 (x4 e t)
  have o2:cutOk (2*(a.2-p.2)+1) (2*(b.2-a.2))=true:=by
   cases e:cutOk (2*(a.2-p.2)+1) (2*(b.2-a.2)) with
   | true=>rfl
   | false=>exact absurd q.2 (y4 e t)
  exact⟨⟨o1,o2⟩,t,(y3 o2 t).2 ⟨(x3 o1 t).2 ⟨(hz t).2 h1,q.1⟩,q.2⟩⟩
end
section
theorem castLt{x y:Int}(h:(x:Rat)<(y:Rat)):x<y:=Rat.intCast_lt_intCast.1 h
theorem okP_abs{p:Pt2}(h:okP p.1 p.2=true):p.1.natAbs≤1048576∧p.2.natAbs≤1048576:=by
 rw[okP_iff] at h;omega
theorem met_iff{a b p:Pt2}(ha:okP a.1 a.2=true)(hb:okP b.1 b.2=true)(hp:okP p.1 p.2=true):metB a b p=true↔∃ t,I01 t∧inP (toQ p) (lerp (toQ a) (toQ b) t) :=
 meets_sat (okP_abs ha) (okP_abs hb) (okP_abs hp)
theorem box_mono{a b p q:Int}{l m:Rat}(hl:l≤m)(hp:Box ((a:Rat)+l*((b:Rat)-a)-p))(hq:Box ((a:Rat)+m*((b:Rat)-a)-q)):0≤sgnI (b-a)*(q-p)∧(b=a→p=q):=by
 unfold Box at hp hq
 have h3:b<a∨b=a∨a<b:=by omega
 rcases h3 with h | h | h
 ·have hs:sgnI (b-a) = -1:=by unfold sgnI;omega
  have hr:(b:Rat)<a:=Rat.intCast_lt_intCast.2 h
  have h1:=Rat.mul_nonneg (a:=m-l) (b:=(a:Rat)-b) (by grind) (by grind)
  have:(q:Rat)<((p+1:Int):Rat):=by push_cast;grind
  have:=castLt this
  rw[hs];exact⟨by omega,by omega⟩
 ·subst h
  have hs:sgnI (b-b)=0:=by unfold sgnI;omega
  have e1:(q:Rat)<((p+1:Int):Rat):=by push_cast;grind
  have e2:(p:Rat)<((q+1:Int):Rat):=by push_cast;grind
  have:=castLt e1
  have:=castLt e2
  rw[hs];exact⟨by omega,by omega⟩
 ·have hs:sgnI (b-a)=1:=by unfold sgnI;omega
  have hr:(a:Rat)<b:=Rat.intCast_lt_intCast.2 h
  have h1:=Rat.mul_nonneg (a:=m-l) (b:=(b:Rat)-a) (by grind) (by grind)
  have:(p:Rat)<((q+1:Int):Rat):=by push_cast;grind
  have:=castLt this
  rw[hs];exact⟨by omega,by omega⟩
theorem dir_mono{a b p q:Pt2}{l m:Rat}(hl:l≤m)(hp:inP (toQ p) (lerp (toQ a) (toQ b) l))(hq:inP (toQ q) (lerp (toQ a) (toQ b) m)) :
  (0≤sgnI (b.1-a.1)*(q.1-p.1)∧(b.1=a.1→p.1=q.1))∧0≤sgnI (b.2-a.2)*(q.2-p.2)∧(b.2=a.2→p.2=q.2):=by
 unfold inP lerp toQ at hp hq
 exact⟨box_mono hl hp.1 hq.1,box_mono hl hp.2 hq.2⟩
theorem sgnI_zero{n x:Int}(hn:n≠0)(h:sgnI n*x=0):x=0:=by
 have:sgnI n = -1∨sgnI n=1:=by unfold sgnI;omega
 rcases this with e | e <;> rw[e] at h <;> omega
theorem dir_eq{a b p q:Pt2}{l m:Rat}(hp:inP (toQ p) (lerp (toQ a) (toQ b) l))(hq:inP (toQ q) (lerp (toQ a) (toQ b) m))(h:dirV a b p q=0):p=q:=by
 have key:(b.1=a.1→p.1=q.1)∧(b.2=a.2→p.2=q.2):=by
  rcases Rat.le_total (a:=l) (b:=m) with h | h
  ·have:=dir_mono h hp hq;exact⟨this.1.2,this.2.2⟩
  ·have:=dir_mono h hq hp;exact⟨fun e=>(this.1.2 e).symm,fun e=>(this.2.2 e).symm⟩
 unfold dirV at h
 split at h
 ·rename_i hx
  refine Prod.ext ?_ ?_
  ·by_cases e:b.1=a.1
   ·exact key.1 e
   ·have:=sgnI_zero (by omega) hx;omega
  ·by_cases e:b.2=a.2
   ·exact key.2 e
   ·have:=sgnI_zero (by omega) h;omega
 ·contradiction
theorem dir_le{a b p q:Pt2}{l m:Rat}(hl:l≤m)(hp:inP (toQ p) (lerp (toQ a) (toQ b) l))(hq:inP (toQ q) (lerp (toQ a) (toQ b) m)):dirV a b p q≤0:=by
 have:=dir_mono hl hp hq
 have e1:sgnI (b.1-a.1)*(p.1-q.1) = -(sgnI (b.1-a.1)*(q.1-p.1)):=by grind
 have e2:sgnI (b.2-a.2)*(p.2-q.2) = -(sgnI (b.2-a.2)*(q.2-p.2)):=by grind
 unfold dirV
 rw[e1,e2]
 split <;> omega
theorem dir_neg(a b p q:Pt2):dirV a b q p = -dirV a b p q:=by
 unfold dirV
 have e1:sgnI (b.1-a.1)*(q.1-p.1) = -(sgnI (b.1-a.1)*(p.1-q.1)):=by grind
 have e2:sgnI (b.2-a.2)*(q.2-p.2) = -(sgnI (b.2-a.2)*(p.2-q.2)):=by grind
 rw[e1,e2]
 split <;> split <;> omega
theorem in_self(a:Pt2):inP (toQ a) (toQ a):=by unfold inP Box;grind
theorem lerp0(P Q:Q2):lerp P Q 0=P:=by unfold lerp;apply Prod.ext <;> dsimp only <;> grind
theorem lerp1(P Q:Q2):lerp P Q 1=Q:=by unfold lerp;apply Prod.ext <;> dsimp only <;> grind
theorem met_fst{a b:Pt2}(ha:okP a.1 a.2=true)(hb:okP b.1 b.2=true):metB a b a=true:=(met_iff ha hb ha).2 ⟨0,by unfold I01;grind,by rw[lerp0];exact in_self a⟩
theorem met_snd{a b:Pt2}(ha:okP a.1 a.2=true)(hb:okP b.1 b.2=true):metB a b b=true:=(met_iff ha hb hb).2 ⟨1,by unfold I01;grind,by rw[lerp1];exact in_self b⟩
end
section
section
variable {a b : Pt2} {H : List Pt2}
theorem thr_mem{p:Pt2}:p∈thrL a b H↔p∈H∧metB a b p=true:=by unfold thrL;rw[List.mem_mergeSort,List.mem_filter]
theorem thru_strict(ha:okP a.1 a.2=true)(hb:okP b.1 b.2=true)(hH:∀ p∈H,okP p.1 p.2=true)(hn:H.Nodup){l:List Pt2}(h:Thru a b H l):l.Pairwise fun x y=>dirV a b x y<0:=by
 have hnd:l.Nodup:=h.1.nodup_iff.2 (hn.filter _)
 refine(h.2.and hnd).imp_of_mem fun {x y} hx hy k=>?_
 obtain⟨k1,k2⟩:=k
 have mx:=List.mem_filter.1 (h.1.mem_iff.1 hx)
 have my:=List.mem_filter.1 (h.1.mem_iff.1 hy)
 obtain⟨l1,-,i1⟩:=(met_iff ha hb (hH x mx.1)).1 mx.2
 obtain⟨l2,-,i2⟩:=(met_iff ha hb (hH y my.1)).1 my.2
 have:dirV a b x y≠0:=fun e=>k2 (dir_eq i1 i2 e)
 have:=dir_neg a b x y
 omega
theorem thr_thru:Thru a b H (thrL a b H):=by
 refine⟨List.mergeSort_perm _ _,?_⟩
 have h:=List.pairwise_mergeSort (le:=fun x y => !decide (dirV a b y x<0)) (fun x y z h1 h2=>by
  simp only[Bool.not_eq_true',decide_eq_false_iff_not,dir_lex] at *;omega) (fun x y=>by
  simp only[Bool.or_eq_true,Bool.not_eq_true',decide_eq_false_iff_not,dir_lex];omega) (H.filter (metB a b))
 refine List.Pairwise.imp (fun {x y} h=>?_) h
 simp only[Bool.not_eq_true',decide_eq_false_iff_not] at h;omega
theorem thru_one(ha:okP a.1 a.2=true)(hb:okP b.1 b.2=true)(hH:∀ p∈H,okP p.1 p.2=true)(hn:H.Nodup){l:List Pt2}(h:Thru a b H l):l=thrL a b H:=by
 refine List.Perm.eq_of_pairwise (le:=fun x y=>dirV a b x y<0) (fun x y _ _ h1 h2=>?_) (thru_strict ha hb hH hn h) (thru_strict ha hb hH hn thr_thru) (h.1.trans thr_thru.1.symm)
 have:=dir_neg a b x y;omega
theorem thr_ends(ha:okP a.1 a.2=true)(hb:okP b.1 b.2=true)(hH:∀ p∈H,okP p.1 p.2=true)(hn:H.Nodup)(ma:a∈H)(mb:b∈H)(hne:a≠b):∃ m,thrL a b H=a :: (m++[b]):=by
 have hs:=thru_strict ha hb hH hn (thr_thru (a:=a) (b:=b) (H:=H))
 have hma:a∈thrL a b H:=thr_mem.2 ⟨ma,met_fst ha hb⟩
 have hmb:b∈thrL a b H:=thr_mem.2 ⟨mb,met_snd ha hb⟩
 have fst:∀ x∈thrL a b H,dirV a b a x≤0:=fun x hx=>by
  have h:=thr_mem.1 hx
  obtain⟨l,il,hl⟩:=(met_iff ha hb (hH x h.1)).1 h.2
  exact dir_le il.1 (by rw[lerp0];exact in_self a) hl
 have snd:∀ x∈thrL a b H,dirV a b x b≤0:=fun x hx=>by
  have h:=thr_mem.1 hx
  obtain⟨l,il,hl⟩:=(met_iff ha hb (hH x h.1)).1 h.2
  exact dir_le il.2 hl (by rw[lerp1];exact in_self b)
 rcases hl:thrL a b H with _ | ⟨x,r⟩
 ·rw[hl] at hma;cases hma
 ·rw[hl] at hs hma hmb fst snd
  have hxa:x=a:=by
   rcases List.mem_cons.1 hma with h | h
   ·exact h.symm
   ·have h1:=(List.pairwise_cons.1 hs).1 a h
    have h2:=fst x (by simp)
    have:=dir_neg a b a x;omega
  subst hxa
  have hbr:b∈r:=by
   rcases List.mem_cons.1 hmb with h | h
   ·exact absurd h.symm hne
   ·exact h
  obtain⟨m,y,hr⟩:∃ m y,r=m++[y]:=by
   rcases List.eq_nil_or_concat r with h | ⟨m,y,h⟩
   ·rw[h] at hbr;cases hbr
   ·exact⟨m,y,by rw[h,List.concat_eq_append]⟩
  refine⟨m,?_⟩
  have hyb:y=b:=by
   rw[hr] at hbr
   rcases List.mem_append.1 hbr with h | h
   ·have h1:=(List.pairwise_cons.1 hs).2
    rw[hr,List.pairwise_append] at h1
    have h2:=h1.2.2 b h y (by simp)
    have h3:=snd y (by rw[hr];simp)
    have:=dir_neg x b b y;omega
   ·rw[List.mem_singleton] at h;exact h.symm
  rw[hr,hyb]
end
def Adj(c:List Pt2)(p q:Pt2):Prop:=∃ u v,c=u++p :: q :: v
theorem adj_append{u t:List Pt2}{y p q:Pt2}(h:Adj (u++y :: t) p q):Adj (u++[y]) p q∨Adj (y :: t) p q:=by
 obtain⟨s,v,h⟩:=h
 rcases List.append_eq_append_iff.1 h with⟨w,h1,h2⟩ | ⟨w,h1,h2⟩
 ·exact .inr ⟨w,v,h2⟩
 ·rcases w with _ | ⟨z,w⟩
  ·exact .inr ⟨[],v,by simpa using h2.symm⟩
  ·simp only[List.cons_append,List.cons.injEq] at h2
   obtain⟨rfl,h2⟩:=h2
   rcases w with _ | ⟨z2,w⟩
   ·simp only[List.nil_append,List.cons.injEq] at h2
    exact .inl ⟨s,[],by rw[h1,← h2.1];simp⟩
   ·simp only[List.cons_append,List.cons.injEq] at h2
    exact .inl ⟨s,w++[y],by rw[h1,h2.1];simp⟩
theorem adj_cons{x y p q:Pt2}{r:List Pt2}(h:Adj (x :: y :: r) p q):(p=x∧q=y)∨Adj (y :: r) p q:=by
 obtain⟨u,v,h⟩:=h
 rcases u with _ | ⟨z,u⟩
 ·simp only[List.nil_append,List.cons.injEq] at h;exact .inl ⟨h.1.symm,h.2.1.symm⟩
 ·simp only[List.cons_append,List.cons.injEq] at h;exact .inr ⟨u,v,h.2⟩
theorem adj_tail{x p q:Pt2}{c:List Pt2}(h:Adj c p q):Adj (x :: c) p q:=by
 obtain⟨u,v,h⟩:=h
 exact⟨x :: u,v,by rw[h];rfl⟩
theorem adj_mem{c:List Pt2}{p q:Pt2}(h:Adj c p q):p∈c∧q∈c:=by
 obtain⟨u,v,rfl⟩:=h;simp
theorem adj_at{c:List Pt2}{k:Nat}(h:k+1<c.length):Adj c (pAt c k) (pAt c (k+1)):=by
 refine⟨c.take k,c.drop (k+2),?_⟩
 have e1:pAt c k=c[k]:=by simp[pAt,List.getD,show k<c.length by omega]
 have e2:pAt c (k+1)=c[k+1]:=by simp[pAt,List.getD,h]
 have h1:=List.drop_eq_getElem_cons (l:=c) (i:=k) (by omega)
 have h2:=List.drop_eq_getElem_cons (l:=c) (i:=k+1) h
 rw[e1,e2]
 rw[h2] at h1
 exact(List.take_append_drop k c).symm.trans (by rw[h1])
theorem nextG_cons(H:List Pt2)(x:Pt2)(c:List Pt2)(n:Nat):nextG H (x :: c) (n+1)=(thrL x (pAt c 0) H).tail++nextG H c n:=by
 unfold nextG
 rw[List.range_succ_eq_map,List.flatMap_cons,List.flatMap_map]
 rfl
theorem nextC_cons{H:List Pt2}{x y:Pt2}{r m:List Pt2}(h:thrL x y H=x :: (m++[y])):nextC H (x :: y :: r)=(x :: m)++nextC H (y :: r):=by
 unfold nextC
 simp only[List.length_cons,Nat.add_sub_cancel]
 rw[nextG_cons]
 have e:pAt (y :: r) 0=y:=rfl
 rw[e,h]
 simp[pAt]
end
section
structure HotOk(H:List Pt2):Prop where
 ok:∀ p∈H,okP p.1 p.2=true
 nd:H.Nodup
structure ChainOk(H C:List Pt2):Prop where
 ne:C≠[]
 mem:∀ p∈C,p∈H
 adj:∀ p q,Adj C p q→p≠q
theorem ChainOk.tail{H C:List Pt2}{x y:Pt2}(h:ChainOk H (x :: y :: C)):ChainOk H (y :: C) :=
 ⟨by simp,fun p hp=>h.mem p (by simp only[List.mem_cons] at hp ⊢;exact .inr hp),fun p q k=>h.adj p q (adj_tail k)⟩
theorem ChainOk.ends{H C:List Pt2}{x y:Pt2}(hH:HotOk H)(h:ChainOk H (x :: y :: C)):∃ m,thrL x y H=x :: (m++[y]):=by
 have mx:=h.mem x (by simp)
 have my:=h.mem y (by simp)
 exact thr_ends (hH.ok x mx) (hH.ok y my) hH.ok hH.nd mx my (h.adj x y ⟨[],C,rfl⟩)
theorem adj_next{H:List Pt2}(hH:HotOk H):∀ {C:List Pt2},ChainOk H C→∀ p q,Adj (nextC H C) p q→∃ a b,Adj C a b∧Adj (thrL a b H) p q
 | [],h,_,_,_=>absurd rfl h.ne
 | [x],h,p,q,⟨u,v,e⟩=>by
  have:(nextC H [x]).length=1:=by simp[nextC,nextG]
  rw[e] at this;simp at this;omega
 | x :: y :: r,h,p,q,k=>by
  obtain⟨m,hm⟩:=h.ends hH
  rw[nextC_cons hm] at k
  have e:nextC H (y :: r)=y :: nextG H (y :: r) r.length:=by simp[nextC,pAt]
  rw[e] at k
  rcases adj_append k with k | k
  ·exact⟨x,y,⟨[],r,rfl⟩,by rw[hm];exact k⟩
  ·rw[← e] at k
   obtain⟨a,b,h1,h2⟩:=adj_next hH h.tail p q k
   exact⟨a,b,adj_tail h1,h2⟩
theorem next_mem{H:List Pt2}(hH:HotOk H):∀ {C:List Pt2},ChainOk H C→∀ p∈nextC H C,p∈H
 | [],h,_,_=>absurd rfl h.ne
 | [x],h,p,hp=>by
  have:nextC H [x]=[x]:=by simp[nextC,nextG,pAt]
  rw[this] at hp;exact h.mem p hp
 | x :: y :: r,h,p,hp=>by
  obtain⟨m,hm⟩:=h.ends hH
  rw[nextC_cons hm] at hp
  rcases List.mem_append.1 hp with hp | hp
  ·refine(thr_mem (a:=x) (b:=y).1 ?_).1
   rw[hm]
   rcases List.mem_cons.1 hp with hp | hp
   ·rw[hp];simp
   ·simp[hp]
  ·exact next_mem hH h.tail p hp
theorem next_len{H:List Pt2}(hH:HotOk H):∀ {C:List Pt2},ChainOk H C→C.length≤(nextC H C).length
 | [],h=>absurd rfl h.ne
 | [x],h=>by simp[nextC]
 | x :: y :: r,h=>by
  obtain⟨m,hm⟩:=h.ends hH
  rw[nextC_cons hm,List.length_append]
  have:=next_len hH h.tail
  simp only[List.length_cons] at *;omega
theorem next_same{H:List Pt2}(hH:HotOk H):∀ {C:List Pt2},ChainOk H C→(nextC H C).length=C.length→nextC H C=C
 | [],h,_=>absurd rfl h.ne
 | [x],h,_=>by simp[nextC,nextG,pAt]
 | x :: y :: r,h,e=>by
  obtain⟨m,hm⟩:=h.ends hH
  have h2:=next_len hH h.tail
  rw[nextC_cons hm] at e ⊢
  rw[List.length_append] at e
  simp only[List.length_cons] at e h2
  have hm0:m=[]:=List.length_eq_zero_iff.1 (by omega)
  rw[hm0,next_same hH h.tail (by simp only[List.length_cons];omega)];rfl
theorem nextG_mono(H c:List Pt2){j k:Nat}(h:j≤k):(nextG H c j).length≤(nextG H c k).length:=by
 induction k with
 | zero => obtain rfl:j=0:=by omega
           exact Nat.le_refl _
 | succ k ih =>
  rcases Nat.lt_or_ge j (k+1) with h1 | h1
  ·rw[nextG_succ,List.length_append];have:=ih (by omega);omega
  ·obtain rfl:j=k+1:=by omega
   exact Nat.le_refl _
section
variable {a b : Pt2} {H : List Pt2}
theorem adj_met(hH:HotOk H)(ha:okP a.1 a.2=true)(hb:okP b.1 b.2=true){p q:Pt2}(h:Adj (thrL a b H) p q) :
  (p∈H∧q∈H∧p≠q)∧∃ l m,I01 l∧I01 m∧l≤m∧inP (toQ p) (lerp (toQ a) (toQ b) l)∧inP (toQ q) (lerp (toQ a) (toQ b) m):=by
 have hs:=thru_strict ha hb hH.ok hH.nd (thr_thru (a:=a) (b:=b) (H:=H))
 obtain⟨mp,mq⟩:=adj_mem h
 have mp:=thr_mem.1 mp
 have mq:=thr_mem.1 mq
 obtain⟨l,il,hl⟩:=(met_iff ha hb (hH.ok p mp.1)).1 mp.2
 obtain⟨m,im,hm⟩:=(met_iff ha hb (hH.ok q mq.1)).1 mq.2
 have hpq:dirV a b p q<0:=by
  obtain⟨u,v,e⟩:=h
  rw[e,List.pairwise_append] at hs
  exact(List.pairwise_cons.1 hs.2.1).1 q (by simp)
 have hlm:l≤m:=by
  rcases Rat.le_total (a:=l) (b:=m) with h | h
  ·exact h
  ·have:=dir_le h hm hl
   have:=dir_neg a b p q;omega
 refine⟨⟨mp.1,mq.1,fun e=>?_⟩,l,m,il,im,hlm,hl,hm⟩
 rw[e] at hpq
 have:=dir_neg a b q q;omega
theorem adj_none(hH:HotOk H)(ha:okP a.1 a.2=true)(hb:okP b.1 b.2=true){p q h:Pt2}(hadj:Adj (thrL a b H) p q)(hh:h∈H){l m t:Rat}(it:I01 t)(h1:l≤t)(h2:t≤m)
  (hp:inP (toQ p) (lerp (toQ a) (toQ b) l)) (hq:inP (toQ q) (lerp (toQ a) (toQ b) m)) (hi:inP (toQ h) (lerp (toQ a) (toQ b) t)):h=p∨h=q:=by
 have hs:=thru_strict ha hb hH.ok hH.nd (thr_thru (a:=a) (b:=b) (H:=H))
 have hm:h∈thrL a b H:=thr_mem.2 ⟨hh,(met_iff ha hb (hH.ok h hh)).2 ⟨t,it,hi⟩⟩
 have k1:=dir_le h1 hp hi
 have k2:=dir_le h2 hi hq
 obtain⟨u,v,e⟩:=hadj
 rw[e] at hs hm
 rw[List.pairwise_append] at hs
 rcases List.mem_append.1 hm with hm | hm
 ·have:=hs.2.2 h hm p (by simp)
  have:=dir_neg a b h p;omega
 ·rcases List.mem_cons.1 hm with hm | hm
  ·exact .inl hm
  ·rcases List.mem_cons.1 hm with hm | hm
   ·exact .inr hm
   ·have:=(List.pairwise_cons.1 (List.pairwise_cons.1 hs.2.1).2).1 h hm
    have:=dir_neg a b h q;omega
end
def MonoC(sx sy:Int)(C:List Pt2):Prop:=∀ p q,Adj C p q→0≤sx*(q.1-p.1)∧0≤sy*(q.2-p.2)∧p≠q
theorem sgn_keep{s n x:Int}(hs:s=1∨s = -1)(h:0≤s*n)(k:0≤sgnI n*x)(z:n=0→x=0):0≤s*x:=by
 by_cases h0:n=0
 ·rw[z h0];simp
 ·have:sgnI n=s:=by
   unfold sgnI
   rcases hs with rfl | rfl <;> omega
  rw[← this];exact k
theorem mono_next{H C:List Pt2}(hH:HotOk H)(hC:ChainOk H C){sx sy:Int}(hx:sx=1∨sx = -1)(hy:sy=1∨sy = -1)(h:MonoC sx sy C):MonoC sx sy (nextC H C):=by
 intro p q k
 obtain⟨a,b,h1,h2⟩:=adj_next hH hC p q k
 obtain⟨ma,mb⟩:=adj_mem h1
 obtain⟨⟨-,-,hne⟩,l,m,-,-,hlm,hp,hq⟩:=adj_met hH (hH.ok a (hC.mem a ma)) (hH.ok b (hC.mem b mb)) h2
 have hd:=dir_mono hlm hp hq
 have hab:=h a b h1
 exact⟨sgn_keep hx hab.1 hd.1.1 (fun e=>by have:=hd.1.2 (by omega);omega),sgn_keep hy hab.2.1 hd.2.1 (fun e=>by have:=hd.2.2 (by omega);omega),hne⟩
theorem next_ok{H C:List Pt2}(hH:HotOk H)(hC:ChainOk H C):ChainOk H (nextC H C):=by
 refine⟨by simp[nextC],next_mem hH hC,fun p q k=>?_⟩
 obtain⟨a,b,h1,h2⟩:=adj_next hH hC p q k
 obtain⟨ma,mb⟩:=adj_mem h1
 exact(adj_met hH (hH.ok a (hC.mem a ma)) (hH.ok b (hC.mem b mb)) h2).1.2.2
theorem mono_nodup{sx sy:Int}(hx:sx=1∨sx = -1)(hy:sy=1∨sy = -1):∀ {C:List Pt2},MonoC sx sy C→C.Pairwise fun p q=>sx*p.1+sy*p.2<sx*q.1+sy*q.2
 | [],_=>List.Pairwise.nil
 | [x],_=>by simp
 | x :: y :: r,h=>by
  have ih:=mono_nodup hx hy (C:=y :: r) (fun p q k=>h p q (adj_tail k))
  have h1:=h x y ⟨[],r,rfl⟩
  have hxy:sx*x.1+sy*x.2<sx*y.1+sy*y.2:=by
   have hne:¬ (x.1=y.1∧x.2=y.2):=fun e=>h1.2.2 (Prod.ext e.1 e.2)
   have e1:sx*(y.1-x.1)=sx*y.1-sx*x.1:=by grind
   have e2:sy*(y.2-x.2)=sy*y.2-sy*x.2:=by grind
   rw[e1,e2] at h1
   rcases hx with rfl | rfl <;> rcases hy with rfl | rfl <;> omega
  refine List.pairwise_cons.2 ⟨fun z hz=>?_,ih⟩
  rcases List.mem_cons.1 hz with rfl | hz
  ·exact hxy
  ·have:=(List.pairwise_cons.1 ih).1 z hz;omega
theorem mono_len{H C:List Pt2}(hC:ChainOk H C){sx sy:Int}(hx:sx=1∨sx = -1)(hy:sy=1∨sy = -1)(h:MonoC sx sy C):C.length≤H.length :=
 len_le_of_sub ((mono_nodup hx hy h).imp fun {p q} k e=>by rw[e] at k;omega) hC.mem
end
section
theorem lerp_lerp(A B:Q2)(l m t:Rat):lerp (lerp A B l) (lerp A B m) t=lerp A B (l+t*(m-l)):=by
 unfold lerp;apply Prod.ext <;> dsimp only <;> grind
theorem between{l m t:Rat}(h:l≤m)(ht:I01 t):l≤l+t*(m-l)∧l+t*(m-l)≤m:=by
 unfold I01 at ht
 have h1:=Rat.mul_nonneg (a:=t) (b:=m-l) ht.1 (by grind)
 have h2:=Rat.mul_nonneg (a:=1-t) (b:=m-l) (by grind) (by grind)
 grind
theorem between_inv{l m x:Rat}(h1:l≤x)(h2:x≤m):∃ t,I01 t∧l+t*(m-l)=x:=by
 by_cases h:l=m
 ·exact⟨0,by unfold I01;grind,by grind⟩
 ·have hd:0<m-l:=by grind
  obtain⟨t,t0,ht⟩:=quo hd (show 0≤x-l by grind)
  refine⟨t,⟨t0,?_⟩,by grind⟩
  rcases Rat.le_total (a:=t) (b:=1) with h | h
  ·exact h
  ·have:=Rat.mul_nonneg (a:=t-1) (b:=m-l) (by grind) (by grind)
   have:(t-1)*(m-l)=0:=by grind
   rcases Rat.mul_eq_zero.1 this with e | e <;> grind
def OneLine(a b c d:Pt2):Prop:=∃ r s:Rat,toQ c=lerp (toQ a) (toQ b) r∧toQ d=lerp (toQ a) (toQ b) s
theorem lerp_inj{a b:Pt2}(h:a≠b){l m:Rat}(e:lerp (toQ a) (toQ b) l=lerp (toQ a) (toQ b) m):l=m:=by
 unfold lerp toQ at e
 injection e with e1 e2
 dsimp only at e1 e2
 have h3:b.1≠a.1∨b.2≠a.2:=by
  by_cases h1:b.1=a.1
  ·exact .inr fun h2=>h (Prod.ext h1.symm h2.symm)
  ·exact .inl h1
 rcases h3 with h3 | h3
 ·have hd:((b.1:Rat)-a.1)≠0:=fun k=>h3 (Rat.intCast_inj.1 (by grind))
  have:(l-m)*((b.1:Rat)-a.1)=0:=by grind
  rcases Rat.mul_eq_zero.1 this with e | e <;> grind
 ·have hd:((b.2:Rat)-a.2)≠0:=fun k=>h3 (Rat.intCast_inj.1 (by grind))
  have:(l-m)*((b.2:Rat)-a.2)=0:=by grind
  rcases Rat.mul_eq_zero.1 this with e | e <;> grind
theorem pieces_apart{H:List Pt2}(hH:HotOk H){a b c d p q r s:Pt2}(ha:okP a.1 a.2=true)(hb:okP b.1 b.2=true)(hc:okP c.1 c.2=true)(hd:okP d.1 d.2=true)(hab:a≠b)
  (h1:Adj (thrL a b H) p q) (h2:Adj (thrL c d H) r s) (n1:r≠p) (n2:r≠q) (n3:s≠p) (n4:s≠q)
  (hX:∀ X l m,I01 l→I01 m→X=lerp (toQ a) (toQ b) l→X=lerp (toQ c) (toQ d) m→(∃ h∈H,inP (toQ h) X)∨OneLine a b c d):¬ segI (toQ p) (toQ q) (toQ r) (toQ s):=by
 obtain⟨⟨mp,mq,-⟩,l1,l2,i1,i2,h12,hp,hq⟩:=adj_met hH ha hb h1
 obtain⟨⟨mr,ms,-⟩,m1,m2,j1,j2,j12,hr,hs⟩:=adj_met hH hc hd h2
 have in1:∀ {t:Rat},l1≤t→t≤l2→I01 t:=fun k1 k2=>by unfold I01 at *;grind
 have in2:∀ {t:Rat},m1≤t→t≤m2→I01 t:=fun k1 k2=>by unfold I01 at *;grind
 -- no end of the other piece on this one
 have nr:∀ t,l1≤t→t≤l2→¬ inP (toQ r) (lerp (toQ a) (toQ b) t):=fun t k1 k2 hi=>by
  rcases adj_none hH ha hb h1 mr (in1 k1 k2) k1 k2 hp hq hi with e | e
  ·exact n1 e
  ·exact n2 e
 have ns:∀ t,l1≤t→t≤l2→¬ inP (toQ s) (lerp (toQ a) (toQ b) t):=fun t k1 k2 hi=>by
  rcases adj_none hH ha hb h1 ms (in1 k1 k2) k1 k2 hp hq hi with e | e
  ·exact n3 e
  ·exact n4 e
 have np:∀ t,m1≤t→t≤m2→¬ inP (toQ p) (lerp (toQ c) (toQ d) t):=fun t k1 k2 hi=>by
  rcases adj_none hH hc hd h2 mp (in2 k1 k2) k1 k2 hr hs hi with e | e
  ·exact n1 e.symm
  ·exact n3 e.symm
 have nq:∀ t,m1≤t→t≤m2→¬ inP (toQ q) (lerp (toQ c) (toQ d) t):=fun t k1 k2 hi=>by
  rcases adj_none hH hc hd h2 mq (in2 k1 k2) k1 k2 hr hs hi with e | e
  ·exact n2 e.symm
  ·exact n4 e.symm
 refine snap_apart hp hq hr hs ?_ ?_ ?_ ?_ ?_
 ·intro t ht;rw[lerp_lerp];have:=between h12 ht;exact nr _ this.1 this.2
 ·intro t ht;rw[lerp_lerp];have:=between h12 ht;exact ns _ this.1 this.2
 ·intro t ht;rw[lerp_lerp];have:=between j12 ht;exact np _ this.1 this.2
 ·intro t ht;rw[lerp_lerp];have:=between j12 ht;exact nq _ this.1 this.2
 ·rintro⟨t,u,it,iu,e⟩
  rw[lerp_lerp,lerp_lerp] at e
  have bt:=between h12 it
  have bu:=between j12 iu
  rcases hX _ _ _ (in1 bt.1 bt.2) (in2 bu.1 bu.2) rfl e with⟨h,hh,hi⟩ | ⟨ρ,σ,e1,e2⟩
  ·have k1:=adj_none hH ha hb h1 hh (in1 bt.1 bt.2) bt.1 bt.2 hp hq hi
   rw[e] at hi
   have k2:=adj_none hH hc hd h2 hh (in2 bu.1 bu.2) bu.1 bu.2 hr hs hi
   rcases k1 with k1 | k1 <;> rcases k2 with k2 | k2
   ·exact n1 (k2.symm.trans k1)
   ·exact n3 (k2.symm.trans k1)
   ·exact n2 (k2.symm.trans k1)
   ·exact n4 (k2.symm.trans k1)
  ·-- on one line
   have hl:∀ m,lerp (toQ c) (toQ d) m=lerp (toQ a) (toQ b) (ρ+m*(σ-ρ)):=fun m=>by rw[e1,e2,lerp_lerp]
   rw[hl] at e
   have ex:=lerp_inj hab e
   rw[hl] at hr hs
   obtain⟨R,hR⟩:∃ R,R=ρ+m1*(σ-ρ):=⟨_,rfl⟩
   obtain⟨S,hS⟩:∃ S,S=ρ+m2*(σ-ρ):=⟨_,rfl⟩
   rw[← hR] at hr
   rw[← hS] at hs
   obtain⟨x,hx⟩:∃ x,x=l1+t*(l2-l1):=⟨_,rfl⟩
   rw[← hx] at bt ex
   have hxm:x=R+u*(S-R):=by rw[ex,hR,hS];grind
   have a1:¬ (l1≤R∧R≤l2):=fun k=>nr R k.1 k.2 hr
   have a2:¬ (l1≤S∧S≤l2):=fun k=>ns S k.1 k.2 hs
   -- then the first piece lies within the second
   have key:∃ v,I01 v∧R+v*(S-R)=l1:=by
    rcases Rat.le_total (a:=R) (b:=S) with h | h
    ·have:=between h iu
     exact between_inv (by grind) (by grind)
    ·have h2:I01 (1-u):=by unfold I01 at *;grind
     have:=between h h2
     obtain⟨v,iv,hv⟩:=between_inv (l:=S) (m:=R) (x:=l1) (by grind) (by grind)
     exact⟨1-v,by unfold I01 at *;grind,by grind⟩
   obtain⟨v,iv,hv⟩:=key
   have bv:=between j12 iv
   refine np _ bv.1 bv.2 ?_
   rw[hl]
   have:ρ+(m1+v*(m2-m1))*(σ-ρ)=l1:=by rw[← hv,hR,hS];grind
   rw[this];exact hp
end
end Go.Proofs.YtdnccjdlmepafaaGreat
