/-
  Walks of terrmake: Below, Stream.Next, Stream.point, Point; of terrkeep3: pt, window; A region that draws its order: reads, new blocks and calls that add to memory come first in any order, then stores in a forced order; walked once in the order of the text; Walks of terrmake.line, Line. Conditions: those that each lemma names.
-/
import Derived.Test.YtdnccjdlmepafaaGreatK02
import Derived.Test.YtdnccjdlmepafaaGreatK01
set_option linter.unusedSimpArgs false
set_option linter.unusedVariables false
set_option linter.constructorNameAsVariable false
namespace Go.Proofs.YtdnccjdlmepafaaGreat
section
open Go.RowKit Go.BigFrame
attribute [local go_sem ↓] eqPt neqPt
theorem i64w(n:Int):IntKind.i64.wrap n=wrap64 n:=by unfold wrap64;exact IntKind.wrap_i64 n
theorem tmod_emod{x n:Int}(h:0<n):(if x.tmod n<0 then x.tmod n+n else x.tmod n)=x % n:=by
 have h1:=Int.mul_tdiv_add_tmod x n
 have h2:=Int.tmod_lt_of_pos x h
 have h3:=Int.lt_tmod_of_pos x h
 split
 ·exact((Int.ediv_emod_unique (r:=x.tmod n+n) (q:=x.tdiv n-1) h).2 ⟨by rw[Int.mul_sub];omega,by omega,by omega⟩).2.symm
 ·exact((Int.ediv_emod_unique (r:=x.tmod n) (q:=x.tdiv n) h).2 ⟨by omega,by omega,by omega⟩).2.symm
theorem Below_any(x n:Int)(w:World)(h1:1≤n)(h2:n≤4611686018427387904) :
  Calls Tryz.prog 18 #[.int .i64 x,.int .i64 n] w fun e w' => e=.returned (.int .i64 (x % n))∧w=w' := by
 have hz:((n:Int) == 0)=false:=by rw[beq_eq_false_iff_ne];omega
 have r1:=Int.tmod_lt_of_pos x (show 0<n by omega)
 have r2:=Int.lt_tmod_of_pos x (show 0<n by omega)
 have HF:=Lib.hid (tmod_emod (x:=x) (n:=n) (by omega))
 go_enter Tryz.func18,Tryz.ntmps18
 go_wp2
 all_goals (go_ret;exact⟨ret_int (by have h:=HF.out;rw[← h];first | rw[if_pos (by assumption)] | rw[if_neg (by omega)]),rfl⟩)
def IntsB(w:World)(v:Value)(l:List Int)(B:Nat):Prop :=
 ∃ a c,v=.slice a l.length c∧l.length≤c∧c≤maxLen∧∀ i,i<l.length→∃ g o:Nat,a=some ⟨g,o,none⟩∧g<B∧w.cell? ⟨g,o+i,none⟩=some (.int .i64 (l.getD i 0))
theorem IntsB.keep{w w' : World}{v:Value}{l:List Int}{B:Nat}(h:IntsB w v l B)(k:∀ (p:Addr) (u:Value),p.block<B→w.cell? p=some u→w'.cell? p=some u):IntsB w' v l B:=by
 obtain⟨a,c,hv,hc,hm,h⟩:=h
 refine⟨a,c,hv,hc,hm,fun i hi=>?_⟩
 obtain⟨g,o,ha,hg,h1⟩:=h i hi
 exact⟨g,o,ha,hg,k _ _ hg h1⟩
theorem IntsB.since{w w' : World}{v:Value}{l:List Int}{B:Nat}(h:IntsB w v l B)(k:Since w w'):IntsB w' v l B:=h.keep fun p u _ hc=>keepC k p u hc
def Strm(w:World)(gs B:Nat)(l:List Int):Prop:=∃ v,Blk w gs 73 #[v]∧IntsB w v l B∧B≤gs
theorem Strm.since{w w' : World}{gs B:Nat}{l:List Int}(h:Strm w gs B l)(k:Since w w'):Strm w' gs B l:=by
 obtain⟨v,hb,hi,hB⟩:=h
 exact⟨v,k.blk hb,hi.since k,hB⟩
theorem Strm.far{w:World}{gs B:Nat}{l:List Int}(h:Strm w gs B l){p:Addr}(hp:gs<p.block)(u:Value):Strm (w.setCell p u) gs B l:=by
 obtain⟨v,hb,hi,hB⟩:=h
 exact⟨v,hb.far (by omega) u,hi.keep (fun q x hq hc=>by rw[cSetO (by rintro rfl;omega)];exact hc),hB⟩
def nextV(l:List Int)(n:Int):Int×List Int:=match l with
 | []=>(0,[])
 | x :: t=>(x % n,t)
set_option maxHeartbeats 1000000 in
theorem Next_any(gs B:Nat)(l:List Int)(n:Int)(w:World)(h1:1≤n)(h2:n≤1000000000)(h:Strm w gs B l) :
  Calls Tryz.prog 68 #[.pointer (some ⟨gs,0,none⟩),.int .i64 n] w fun e w' => e=.returned (.int .i64 (nextV l n).1)∧Strm w' gs B (nextV l n).2∧Only gs w w' := by
 obtain⟨v,hb,⟨a,c,rfl,hc,hm,hi⟩,hB⟩:=h
 have c0:w.cell? ⟨gs,0,none⟩=some (.slice a l.length c):=hb.cell 0
 have f0:=hb.frozen 0
 have HB:=Lib.hid hb
 have HI:=Lib.hid hi
 have HM:=Lib.hid hm
 clear hb hi
 unfold maxLen at hm
 rcases l with _ | ⟨x,t⟩
 ·have c1:w.cell? ⟨gs,0,none⟩=some (.slice a 0 c):=c0
  clear c0
  go_enter Tryz.func68,Tryz.ntmps68
  go_wp2
  go_ret
  exact⟨rfl,⟨_,HB.out,⟨a,c,rfl,hc,HM.out,HI.out⟩,hB⟩,(Since.rfl_ w).only gs⟩
 ·obtain⟨g,o,ha,hg,e0⟩:=HI.out 0 (by simp)
  subst ha
  simp only[List.getD_cons_zero,Nat.add_zero] at e0
  have hlen:((x :: t).length:Nat)=t.length+1:=rfl
  rw[hlen] at c0 hc
  have hz:(((t.length+1:Nat):Int) == 0)=false:=by rw[beq_eq_false_iff_ne];omega
  have hd:decide (n<1)=false:=by rw[decide_eq_false_iff_not];omega
  have hp:decide ((0:Int)<((t.length+1:Nat):Int))=true:=by rw[decide_eq_true_eq];omega
  have hne:gs≠g:=by omega
  clear hlen
  go_enter Tryz.func68,Tryz.ntmps68
  go_wp2_with fail
  all_goals
   refine(Below_any x n _ h1 (by omega)).mono ?_
   rintro e w2 ⟨rfl,rfl⟩
   go_wp2
   go_ret
   refine⟨rfl,⟨_,HB.out.set_ 0 _,⟨_,_,rfl,by show t.length≤_;omega,by have:=HM.out;unfold maxLen at this ⊢;omega,fun i hi=>?_⟩,hB⟩,((Since.rfl_ w).only gs).setCell (.inl rfl) _⟩
   have hi' : i<t.length:=hi
   first
    | (exfalso;omega)
    | (obtain⟨g',o',ha,-,e1⟩:=HI.out (i+1) (by show i+1<t.length+1;omega)
       injection ha with ha
       injection ha with hg' ho'
       subst hg' ho'
       refine⟨g,o+1,rfl,hg,?_⟩
       rw[cSetO (by intro h;injection h with h;exact hne h),show o+1+i=o+(i+1) by omega,e1]
       rfl)
def ptOf(l:List Int):Pt2×List Int:=(((nextV l 81).1-40,(nextV (nextV l 81).2 81).1-40),(nextV (nextV l 81).2 81).2)
theorem next_bd(l:List Int)(n:Int)(h:0<n):0≤(nextV l n).1∧(nextV l n).1<n:=by
 unfold nextV
 split
 ·exact⟨Int.le_refl _,h⟩
 ·exact⟨Int.emod_nonneg _ (by omega),Int.emod_lt_of_pos _ h⟩
theorem ptOf_bd(l:List Int):(-40≤(ptOf l).1.1∧(ptOf l).1.1≤40)∧(-40≤(ptOf l).1.2∧(ptOf l).1.2≤40):=by
 have h1:=next_bd l 81 (by decide)
 have h2:=next_bd (nextV l 81).2 81 (by decide)
 unfold ptOf
 dsimp only
 omega
theorem Sp_any(gs B:Nat)(l:List Int)(w:World)(h:Strm w gs B l) :
  Calls Tryz.prog 43 #[.pointer (some ⟨gs,0,none⟩)] w fun e w' => e=.returned (.agg #[.int .i64 (ptOf l).1.1,.int .i64 (ptOf l).1.2])∧Strm w' gs B (ptOf l).2∧Only gs w w' := by
 have b1:=next_bd l 81 (by decide)
 have b2:=next_bd (nextV l 81).2 81 (by decide)
 have H:=Lib.hid h
 obtain⟨v,hb,-,-⟩:=h
 have hlt:=hb.lt
 clear hb
 go_enter Tryz.func43,Tryz.ntmps43
 go_wp2_with fail
 refine(Next_any gs B l 81 _ (by decide) (by decide) (H.out.since ((Since.rfl_ w).alloc _))).mono ?_
 rintro e w1 ⟨rfl,hs,ho⟩
 have HS1:=Lib.hid hs
 have HB1:=Lib.hid (ho.blk (Blk.new w _ _) (by omega))
 have HO1:=Lib.hid (Only.trans (((Since.rfl_ w).only gs).alloc _) ho)
 clear hs ho
 go_wp2_with fail
 refine(Next_any gs B _ 81 _ (by decide) (by decide) HS1.out).mono ?_
 rintro e w2 ⟨rfl,hs,ho⟩
 have HS2:=Lib.hid hs
 have hb2:=ho.blk HB1.out (by omega)
 have k0:w2.cell? ⟨w.heap.size,0,none⟩=some (.int .i64 0):=hb2.cell 0
 have k1:w2.cell? ⟨w.heap.size,1,none⟩=some (.int .i64 0):=hb2.cell 1
 have f0:=hb2.frozen 0
 have f1:=hb2.frozen 1
 have HO2:=Lib.hid (HO1.out.trans ho)
 clear hs ho hb2
 go_wp2
 refine bodyPost_ret (v:=.agg #[.int .i64 (ptOf l).1.1,.int .i64 (ptOf l).1.2]) (by simp[results,Tryz.results43,go_sem,cSetS,cSetO,k0,k1,ptOf]) rfl ⟨rfl,?_,?_⟩
 ·exact(HS2.out.far (show gs<w.heap.size by omega) _).far (show gs<w.heap.size by omega) _
 ·exact(HO2.out.setCell (.inr (Nat.le_refl _)) _).setCell (.inr (Nat.le_refl _)) _
theorem Strm.new{w:World}{v:Value}{l:List Int}{B gs:Nat}(h:IntsB w v l B)(hg:gs=w.heap.size)(hB:B≤gs):Strm (w.alloc (.cells #[v] 73)) gs B l :=
 ⟨v,Blk.new' hg,h.since ((Since.rfl_ w).alloc _),hB⟩
theorem Point_any(v:Value)(l:List Int)(w:World)(h:IntsB w v l w.heap.size) :
  Calls Tryz.prog 21 #[v] w fun e w' => e=.returned (.agg #[.int .i64 (ptOf l).1.1,.int .i64 (ptOf l).1.2])∧Since w w' := by
 have HI:=Lib.hid h
 obtain⟨a,c,rfl,-⟩:=h
 go_enter Tryz.func21,Tryz.ntmps21
 go_wp2_with fail
 refine(Sp_any (w.heap.size+1) w.heap.size l _ (Strm.new (HI.out.since ((Since.rfl_ w).alloc _)) (by simp) (by omega))).mono ?_
 rintro e w1 ⟨rfl,-,ho⟩
 have hS:=ho.since ((((Since.rfl_ w).alloc (.cells #[.int .i64 0,.int .i64 0] 36)).alloc _)) (by omega)
 have hb:=ho.blk ((Blk.new w 36 #[.int .i64 0,.int .i64 0]).alloc _) (by omega)
 have HS:=Lib.hid hS
 have k0:w1.cell? ⟨w.heap.size,0,none⟩=some (.int .i64 0):=hb.cell 0
 have k1:w1.cell? ⟨w.heap.size,1,none⟩=some (.int .i64 0):=hb.cell 1
 have f0:=hb.frozen 0
 have f1:=hb.frozen 1
 clear hS ho hb
 go_wp2
 refine bodyPost_ret (v:=.agg #[.int .i64 (ptOf l).1.1,.int .i64 (ptOf l).1.2]) (by simp[results,Tryz.results21,go_sem,cSetS,cSetO,k0,k1]) rfl ⟨rfl,?_⟩
 exact(HS.out.setCell (Nat.le_refl _) _).setCell (Nat.le_refl _) _
theorem ptK_any(x y:Int)(w:World):Calls Tryz.prog 32 #[.int .i64 x,.int .i64 y] w fun e w' => e=.returned (.agg #[.int .i64 x,.int .i64 y])∧Since w w' := by
 go_enter Tryz.func32,Tryz.ntmps32
 go_wp2
 exact bodyPost_ret (v:=.agg #[.int .i64 x,.int .i64 y]) (by simp[results,Tryz.results32,go_sem]) rfl ⟨rfl,(Since.rfl_ w).alloc _⟩
end
section
open Go.RowKit Go.BigFrame
inductive Spec where
 | det (c:Value)
 | mk (f:Nat→Value) (t:TypeId) (cs:Array Value)
 | any (R:Value→World→Prop)
def Spec.shape:Spec→Value→Prop
 | .det c,v=>v=c
 | .mk f _ _,v=>∃ g,v=f g
 | .any _,_=>True
def Spec.fact(base:Nat):Spec→Value→World→Prop
 | .det _,_,_=>True
 | .mk f t cs,v,w=>∃ g,v=f g∧Blk w g t cs∧base≤g
 | .any R,v,w=>R v w
def Spec.blk:Spec→Value→Nat→Prop
 | .mk f _ _,v,g=>v=f g
 | _,_,_=>False
def Spec.mono:Spec→Prop
 | .any R=>∀ v w w',R v w→Since w w' → R v w'
 | .mk f _ _=>∀ g g',f g=f g' → g=g'
 | _=>True
def pres(o:Oper):List Nat:=(o.after.toList.filter (Region.binds .any)).map (·.on)
def factsOf(Fs:List (World→Prop)):List Nat→World→Prop
 | [],_=>True
 | j :: js,w=>(Fs.getD j (fun _=>True)) w∧factsOf Fs js w
def allF:List (World→Prop)→World→Prop
 | [],_=>True
 | F :: Fs,w=>F w∧allF Fs w
def runV(P:Program)(o:Oper)(a:Act)(w:World)(post:Value→World→Prop):Prop :=
 match (execOp a.eval o).run P w with
 | .ok (.value v) w' => post v w'
 | .ok (.enter f args) w' => Calls P f args w' fun e w'' => ∃ v,e=.returned v∧post v w''
 | _=>False
def Spec.asks(P:Program)(ops:Array Oper)(S:World→Prop)(o:Oper)(a:Act)(F:World→Prop):Spec→Prop
 | .det c=>if Region.wanted o (yielded ops a.tmps)=true then(∀ w w',F w→Since w w' → F w')→∀ wx,S wx→F wx→o.quiet P a (Cls fun w' => S w' ∧ F w' ∧ Since wx w') (fun a' => a' = a.put o.dst c) else c=undef
 | .mk f t cs=>Region.wanted o (yielded ops a.tmps)=true∧∀ w,(execOp a.eval o).run P w=.ok (.value (f w.heap.size)) (w.alloc (.cells cs t))
 | .any R=>Region.wanted o (yielded ops a.tmps)=true∧∀ w,S w→F w→runV P o a w fun v w' => R v w' ∧ Since w w'
def wpO(P:Program)(ops:Array Oper)(S:World→Prop)(base:Nat)(K:Act→World→Prop):List Oper→List Spec→List (World→Prop)→List (Nat→Prop)→Act→Prop
 | [],[],Fs,Bs,a=>∀ w,S w→allF Fs w→Bs.Pairwise (fun p q=>∀ g g',p g→q g' → g≠g')→K a w
 | o :: l,s :: ss,Fs,Bs,a=>s.mono∧s.asks P ops S o a (factsOf Fs (pres o))∧∀ v,s.shape v→wpO P ops S base K l ss (Fs++[s.fact base v]) (Bs++[s.blk v]) (a.put o.dst v)
 | _,_,_,_,_=>False
def fr:List Oper→List Value→Act→Act
 | o :: l,v :: vs,a=>fr l vs (a.put o.dst v)
 | _,_,a=>a
def factL(base:Nat):List Spec→List Value→List (World→Prop)
 | s :: ss,v :: vs=>s.fact base v :: factL base ss vs
 | _,_=>[]
def blkL:List Spec→List Value→List (Nat→Prop)
 | s :: ss,v :: vs=>s.blk v :: blkL ss vs
 | _,_=>[]
def shapeL:List Spec→List Value→Prop
 | s :: ss,v :: vs=>s.shape v∧shapeL ss vs
 | [],[]=>True
 | _,_=>False
section
variable {P : Program} {ops : Array Oper} {S : World → Prop} {base : Nat} {K : Act → World → Prop}
theorem shapeL_len:∀ {ss:List Spec} {vs:List Value},shapeL ss vs→ss.length=vs.length
 | [],[],_=>rfl
 | _ :: _,_ :: _,h=>by simp[shapeL_len h.2]
 | [],_ :: _,h=>h.elim
 | _ :: _,[],h=>h.elim
theorem wpO_len:∀ {l:List Oper} {ss:List Spec} {Fs:List (World→Prop)} {Bs:List (Nat→Prop)} {a:Act} {vs:List Value},wpO P ops S base K l ss Fs Bs a→shapeL ss vs→l.length=ss.length
 | [],[],_,_,_,_,_,_=>rfl
 | o :: l,s :: ss,Fs,Bs,a,v :: vs,h,hs=>by simp[wpO_len (h.2.2 v hs.1) hs.2]
 | [],_ :: _,_,_,_,_,h,_=>by unfold wpO at h;exact h.elim
 | _ :: _,[],_,_,_,_,h,_=>by unfold wpO at h;exact h.elim
 | _ :: _,_ :: _,_,_,_,[],_,hs=>hs.elim
theorem wpO_get:∀ {l:List Oper} {ss:List Spec} {Fs:List (World→Prop)} {Bs:List (Nat→Prop)} {a:Act} {vs:List Value},wpO P ops S base K l ss Fs Bs a→shapeL ss vs →
  ∀ (i:Nat) (o:Oper) (s:Spec),l[i]? = some o→ss[i]? = some s→s.mono∧s.asks P ops S o (fr (l.take i) (vs.take i) a) (factsOf (Fs++factL base (ss.take i) (vs.take i)) (pres o))
 | o :: l,s :: ss,Fs,Bs,a,v :: vs,h,hs,0,o',s',ho,hs' => by
  simp at ho hs'
  subst ho hs'
  simpa[fr,factL] using ⟨h.1,h.2.1⟩
 | o :: l,s :: ss,Fs,Bs,a,v :: vs,h,hs,i+1,o',s',ho,hs' => by
  simp at ho hs'
  have:=wpO_get (h.2.2 v hs.1) hs.2 i o' s' ho hs'
  simpa[fr,factL] using this
 | [],_,_,_,_,_,_,_,_,_,_,ho,_=>by simp at ho
 | _ :: _,[],_,_,_,_,h,_,_,_,_,_,_=>by unfold wpO at h;exact h.elim
 | _ :: _,_ :: _,_,_,_,[],_,hs,_,_,_,_,_=>hs.elim
theorem wpO_fin:∀ {l:List Oper} {ss:List Spec} {Fs:List (World→Prop)} {Bs:List (Nat→Prop)} {a:Act} {vs:List Value},wpO P ops S base K l ss Fs Bs a→shapeL ss vs →
  ∀ w,S w→allF (Fs++factL base ss vs) w→(Bs++blkL ss vs).Pairwise (fun p q=>∀ g g',p g→q g' → g≠g')→K (fr l vs a) w
 | [],[],Fs,Bs,a,[],h,_,w,hw,hf,hb=>by
  unfold wpO at h
  exact h w hw (by simpa[factL] using hf) (by simpa[blkL] using hb)
 | o :: l,s :: ss,Fs,Bs,a,v :: vs,h,hs,w,hw,hf,hb=>wpO_fin (h.2.2 v hs.1) hs.2 w hw (by simpa[factL] using hf) (by simpa[blkL] using hb)
 | [],_ :: _,_,_,_,_,h,_,_,_,_,_=>by unfold wpO at h;exact h.elim
 | _ :: _,[],_,_,_,_,h,_,_,_,_,_=>by unfold wpO at h;exact h.elim
 | [],[],_,_,_,_ :: _,_,hs,_,_,_,_=>hs.elim
 | _ :: _,_ :: _,_,_,_,[],_,hs,_,_,_,_=>hs.elim
theorem fr_size:∀ (l:List Oper) (vs:List Value) (a:Act),(fr l vs a).tmps.size=a.tmps.size
 | [],vs,a=>by simp[fr]
 | _ :: _,[],a=>by simp[fr]
 | o :: l,v :: vs,a=>by
  rw[fr,fr_size l vs]
  cases h:o.dst <;> simp[Act.put,h]
theorem fr_defers:∀ (l:List Oper) (vs:List Value) (a:Act),(fr l vs a).defers=a.defers
 | [],vs,a=>by simp[fr]
 | _ :: _,[],a=>by simp[fr]
 | o :: l,v :: vs,a=>by
  rw[fr,fr_defers l vs]
  cases h:o.dst <;> simp[Act.put,h]
theorem put_out{a:Act}{d:Option Tmp}{v:Value}{t:Nat}(h:d≠some t):(a.put d v).tmps[t]? = a.tmps[t]? := by
 cases d with
 | none=>rfl
 | some e =>
  have hne:e≠t:=fun k=>h (by rw[k])
  simp[Act.put,Array.getElem?_setIfInBounds_ne hne]
theorem put_in{a:Act}{v:Value}{t:Nat}(h:t<a.tmps.size):(a.put (some t) v).tmps[t]? = some v:=by
 simp[Act.put,h]
theorem fr_out:∀ (l:List Oper) (vs:List Value) (a:Act) (t:Nat),(∀ (j:Nat) o,l[j]? = some o→o.dst≠some t)→(fr l vs a).tmps[t]? = a.tmps[t]?
 | [],vs,a,t,h=>by simp[fr]
 | _ :: _,[],a,t,h=>by simp[fr]
 | o :: l,v :: vs,a,t,h=>by
  rw[fr,fr_out l vs _ t (fun j o' ho' => h (j+1) o' (by simpa using ho'))]
  exact put_out (h 0 o rfl)
theorem fr_in:∀ (l:List Oper) (vs:List Value) (a:Act) (t j:Nat) (o:Oper),l[j]? = some o→j<vs.length→o.dst=some t→(∀ (k:Nat) o',k≠j→l[k]? = some o' → o'.dst≠some t)→t<a.tmps.size→(fr l vs a).tmps[t]? = vs[j]?
 | [],vs,a,t,j,o,h,_,_,_,_=>by simp at h
 | _ :: _,[],a,t,j,o,_,h,_,_,_=>by simp at h
 | o :: l,v :: vs,a,t,0,o',h,hv,hd,hu,ht=>by
  simp at h
  subst h
  rw[fr,fr_out l vs _ t (fun j o' ho' => hu (j+1) o' (by omega) (by simpa using ho')),hd,put_in ht]
  rfl
 | o :: l,v :: vs,a,t,j+1,o',h,hv,hd,hu,ht=>by
  rw[fr,fr_in l vs _ t j o' (by simpa using h) (by simpa using hv) hd (fun k o'' hk ho'' => hu (k+1) o'' (by omega) (by simpa using ho'')) (by
   cases h:o.dst <;> simp[Act.put,h] <;> exact ht)]
  simp
theorem eval_eq{a b:Act}{o:Oper}(hs:∀ cs b,o.op ≠ .select cs b)(h:∀ t∈o.looksAt ops,a.tmps[t]? = b.tmps[t]?):execOp a.eval o=execOp b.eval o :=
 execOp_congr o hs fun x hx=>by
  cases x with
  | tmp t =>
   have:=h t (List.mem_append_left _ (List.mem_filterMap.2 ⟨.tmp t,by simpa using hx,rfl⟩))
   simp[Act.eval,this]
  | _=>rfl
theorem wanted_eq{a b:Act}{o:Oper}(h:∀ t∈o.looksAt ops,a.tmps[t]? = b.tmps[t]?):Region.wanted o (yielded ops a.tmps)=Region.wanted o (yielded ops b.tmps):=by
 unfold Region.wanted
 cases hg:o.guard with
 | none=>rfl
 | some gw =>
  obtain⟨g,want⟩:=gw
  have hy:yielded ops a.tmps g=yielded ops b.tmps g:=by
   unfold yielded
   cases ht:(ops[g]?).bind (·.dst) with
   | none=>rfl
   | some t =>
    have:=h t (by simp[Oper.looksAt,hg,ht])
    simp[this]
  simp only[hy]
def Region.looksB (ops:Array Oper) (n:Nat):Bool :=
 (List.range n).all fun i=>match ops[i]? with
  | none=>false
  | some o=>(o.after.toList.all fun e => !Region.binds .any e || decide (e.on<i)) &&
   (List.range n).all fun j=>match (ops[j]?).bind (·.dst) with
    | none=>true
    | some d=>(j == i || o.dst != some d) && (!(o.looksAt ops).contains d || (decide (j<i) && (pres o).contains j))
def fullL(m n:Nat):Array Bool:=Array.ofFn (n:=m) fun k=>decide (k.val<n)
def Region.factsB(ops:Array Oper)(n:Nat):Bool :=
 Region.noSelect ops && decide (n≤ops.size) && (decide (n=ops.size) || (Region.sinkB .any ops n && Region.chainB .any ops n)) && Region.looksB ops n && Region.seqB .any ops (ops.size-n) n (fullL ops.size n)
theorem looksB_spec{n i:Nat}{o:Oper}(h:Region.looksB ops n=true)(hi:i<n)(ho:ops[i]? = some o) :
  (∀ e∈o.after,Region.binds .any e=true→e.on<i) ∧
  ∀ (j:Nat) oj d,j<n→ops[j]? = some oj→oj.dst=some d→(j≠i→o.dst≠some d)∧(d∈o.looksAt ops→j<i∧j∈pres o):=by
 unfold Region.looksB at h
 rw[List.all_eq_true] at h
 have h1:=h i (List.mem_range.2 hi)
 simp only[ho,Bool.and_eq_true,List.all_eq_true] at h1
 refine⟨fun e he hb=>?_,fun j oj d hj hoj hd=>?_⟩
 ·have:=h1.1 e (by simpa using he)
  simpa[hb] using this
 ·have:=h1.2 j (List.mem_range.2 hj)
  simp only[hoj,Option.bind_some,hd,Bool.and_eq_true,Bool.or_eq_true,beq_iff_eq,bne_iff_ne,ne_eq,Bool.not_eq_true',decide_eq_true_eq] at this
  refine⟨fun hne=>this.1.resolve_left hne,fun hm=>?_⟩
  rcases this.2 with k | k
  ·rw[List.contains_eq_mem,decide_eq_false_iff_not] at k
   exact absurd hm k
  ·exact⟨k.1,by simpa using k.2⟩
structure Hd(P:Program)(ops:Array Oper)(S:World→Prop)(base n:Nat)(ss:List Spec)(a0:Act)(listed:Array Bool)(a:Act)(w:World)(vs:List Value):Prop where
 len:vs.length=n
 shape:shapeL ss vs
 defs:a.defers=a0.defers
 siz:a.tmps.size=a0.tmps.size
 out:∀ t:Nat,(∀ (j:Nat) o,j<n→ops[j]? = some o→listed.getD j false=true→o.dst≠some t)→a.tmps[t]? = a0.tmps[t]?
 inn:∀ (j:Nat) o (t:Nat),j<n→ops[j]? = some o→listed.getD j false=true→o.dst=some t→t<a0.tmps.size→a.tmps[t]? = vs[j]?
 fact:∀ (j:Nat) s v,j<n→listed.getD j false=true→ss[j]? = some s→vs[j]? = some v→s.fact base v w
 dis:∀ (j k:Nat) s s' v v',j<k→listed.getD j false=true→listed.getD k false=true→ss[j]? = some s→ss[k]? = some s' → vs[j]? = some v→vs[k]? = some v' → ∀ g g',s.blk v g→s'.blk v' g' → g≠g'
 cls:S w
 bas:base≤w.heap.size
theorem take_get{α:Type}{l:List α}{i j:Nat}(h:j<i):(l.take i)[j]? = l[j]? := by rw[List.getElem?_take,if_pos h]
theorem take_some{α:Type}{l:List α}{i j:Nat}{x:α}(h:(l.take i)[j]? = some x):j<i∧l[j]? = some x:=by
 rw[List.getElem?_take] at h
 split at h
 ·exact⟨‹_›,h⟩
 ·cases h
theorem Hd.sees{n i:Nat}{ss:List Spec}{a0 a:Act}{listed:Array Bool}{w:World}{vs:List Value}{o:Oper}(h:Hd P ops S base n ss a0 listed a w vs)(hB:Region.looksB ops n=true)(hi:i<n)(ho:ops[i]? = some o)
  (hr:∀ e∈o.after,Region.binds .any e=true→listed.getD e.on false=true):∀ t∈o.looksAt ops,a.tmps[t]? = (fr (ops.toList.take i) (vs.take i) a0).tmps[t]? := by
 intro t ht
 obtain⟨-,hl⟩:=looksB_spec hB hi ho
 by_cases hex:∃ (j:Nat) (oj:Oper),j<n∧ops[j]? = some oj∧oj.dst=some t
 ·obtain⟨j,oj,hj,hoj,hd⟩:=hex
  obtain⟨hji,hp⟩:=(hl j oj t hj hoj hd).2 ht
  have hlj:listed.getD j false=true:=by
   unfold pres at hp
   obtain⟨e,he,rfl⟩:=List.mem_map.1 hp
   rw[List.mem_filter] at he
   exact hr e (by simpa using he.1) he.2
  have huniq:∀ (k:Nat) o',k≠j→(ops.toList.take i)[k]? = some o' → o'.dst≠some t:=fun k o' hk hko hd' => by
   obtain⟨hki,hko'⟩:=take_some hko
   obtain⟨-,hlk⟩:=looksB_spec hB (show k<n by omega) (by simpa using hko')
   exact(hlk j oj t hj hoj hd).1 (Ne.symm hk) hd'
  rcases Nat.lt_or_ge t a0.tmps.size with hlt | hge
  ·rw[h.inn j oj t hj hoj hlj hd hlt,fr_in _ _ a0 t j oj (by rw[take_get hji];simpa using hoj) (by rw[List.length_take,h.len];omega) hd huniq hlt,take_get hji]
  ·rw[Array.getElem?_eq_none (by rw[h.siz];exact hge),Array.getElem?_eq_none (by rw[fr_size];exact hge)]
 ·rw[h.out t fun j oj hj hoj _ hd=>hex ⟨j,oj,hj,hoj,hd⟩,fr_out _ _ a0 t fun j oj hoj hd=>?_]
  obtain⟨hji,hoj'⟩:=take_some hoj
  exact hex ⟨j,oj,by omega,by simpa using hoj',hd⟩
theorem Spec.keep{s:Spec}(h:s.mono){v:Value}{w w' : World}(hf:s.fact base v w)(hs:Since w w'):s.fact base v w' := by
 cases s with
 | det c=>trivial
 | mk f t cs =>
  obtain⟨g,e,hb,hg⟩:=hf
  exact⟨g,e,hs.blk hb,hg⟩
 | any R=>exact h _ _ _ hf hs
theorem set_same{listed:Array Bool}{i:Nat}(h:i<listed.size):(listed.setIfInBounds i true).getD i false=true:=by simp[h]
theorem Hd.step{n i:Nat}{ss:List Spec}{a0 a:Act}{listed:Array Bool}{w w' : World}{vs:List Value}{o:Oper}{s:Spec}{v:Value}(h:Hd P ops S base n ss a0 listed a w vs)(hB:Region.looksB ops n=true)(hn:n≤ops.size)(hsz:listed.size=ops.size)
  (hi:i<n) (ho:ops[i]? = some o) (hs:ss[i]? = some s) (hm:∀ (j:Nat) s,ss[j]? = some s→s.mono) (hsh:shapeL ss (vs.set i v)) (hf:s.fact base v w') (hw:Since w w') (hc:S w') (hd:∀ g,s.blk v g→w.heap.size≤g) :
  Hd P ops S base n ss a0 (listed.setIfInBounds i true) (a.put o.dst v) w' (vs.set i v):=by
 have hil:i<listed.size:=by omega
 have hiv:i<vs.length:=by rw[h.len];exact hi
 obtain⟨-,hl⟩:=looksB_spec hB hi ho
 have below:∀ (j:Nat) s' v',listed.getD j false=true→j<n→ss[j]? = some s' → vs[j]? = some v' → ∀ g,s'.blk v' g→g<w.heap.size:=by
  intro j s' v' hlj hj hsj hvj g hg
  have hf:=h.fact j s' v' hj hlj hsj hvj
  cases s' with
  | det c=>exact hg.elim
  | any R=>exact hg.elim
  | mk f t cs =>
   obtain⟨g',e,hb,-⟩:=hf
   have:g' = g:=hm j _ hsj g' g (e.symm.trans hg)
   subst this
   exact hb.lt
 have lt_n:∀ (j:Nat) s',ss[j]? = some s' → j<n:=fun j s' hj=>by
  have h1:=(List.getElem?_eq_some_iff.1 hj).1
  have h2:=shapeL_len h.shape
  have h3:=h.len
  omega
 refine⟨by simpa using h.len,hsh,?_,?_,fun t ht=>?_,fun j oj t hj hoj hlj hdj hlt=>?_,fun j s' v' hj hlj hsj hvj=>?_,fun j k s1 s2 v1 v2 hjk hlj hlk h1 h2 hv1 hv2 g g' hg hg' => ?_,hc,Nat.le_trans h.bas hw.size⟩
 ·rw[← h.defs];cases e:o.dst <;> simp[Act.put]
 ·rw[← h.siz];cases e:o.dst <;> simp[Act.put]
 ·rw[put_out (ht i o hi ho (set_same hil))]
  refine h.out t fun j oj hj hoj hlj=>ht j oj hj hoj ?_
  exact getD_set_true hlj
 ·by_cases e:j=i
  ·subst e
   obtain rfl:oj=o:=Option.some.inj (hoj.symm.trans ho)
   rw[hdj,put_in (by rw[h.siz];exact hlt),List.getElem?_set_self hiv]
  ·rw[put_out ((hl j oj t hj hoj hdj).1 e),List.getElem?_set_ne (Ne.symm e)]
   rw[getD_set_ne false (Ne.symm e)] at hlj
   exact h.inn j oj t hj hoj hlj hdj hlt
 ·by_cases e:j=i
  ·subst e
   obtain rfl:s' = s:=Option.some.inj (hsj.symm.trans hs)
   rw[List.getElem?_set_self hiv] at hvj
   injection hvj with hvj
   subst hvj
   exact hf
  ·rw[getD_set_ne false (Ne.symm e)] at hlj
   rw[List.getElem?_set_ne (Ne.symm e)] at hvj
   exact Spec.keep (hm j s' hsj) (h.fact j s' v' hj hlj hsj hvj) hw
 ·have hj:=lt_n j s1 h1
  have hk:=lt_n k s2 h2
  by_cases e:j=i
  ·subst e
   obtain rfl:s1=s:=Option.some.inj (h1.symm.trans hs)
   rw[List.getElem?_set_self hiv] at hv1
   injection hv1 with hv1
   subst hv1
   rw[getD_set_ne false (by omega)] at hlk
   rw[List.getElem?_set_ne (by omega)] at hv2
   have:=below k s2 v2 hlk hk h2 hv2 g' hg'
   have:=hd g hg
   omega
  ·by_cases e' : k=i
   ·subst e'
    obtain rfl:s2=s:=Option.some.inj (h2.symm.trans hs)
    rw[List.getElem?_set_self hiv] at hv2
    injection hv2 with hv2
    subst hv2
    rw[getD_set_ne false (by omega)] at hlj
    rw[List.getElem?_set_ne (by omega)] at hv1
    have:=below j s1 v1 hlj hj h1 hv1 g hg
    have:=hd g' hg'
    omega
   ·rw[getD_set_ne false (Ne.symm e)] at hlj
    rw[getD_set_ne false (Ne.symm e')] at hlk
    rw[List.getElem?_set_ne (Ne.symm e)] at hv1
    rw[List.getElem?_set_ne (Ne.symm e')] at hv2
    exact h.dis j k s1 s2 v1 v2 hjk hlj hlk h1 h2 hv1 hv2 g g' hg hg'
theorem shapeL_set:∀ {ss:List Spec} {vs:List Value} {i:Nat} {s:Spec} {v:Value},shapeL ss vs→ss[i]? = some s→s.shape v→shapeL ss (vs.set i v)
 | s :: ss,u :: vs,0,s',v,h,hs,hv=>by
  simp at hs;subst hs
  exact⟨hv,h.2⟩
 | s :: ss,u :: vs,i+1,s',v,h,hs,hv=>⟨h.1,shapeL_set h.2 (by simpa using hs) hv⟩
 | [],[],i,s',v,h,hs,hv=>by simp at hs
 | [],_ :: _,_,_,_,h,_,_=>h.elim
 | _ :: _,[],_,_,_,h,_,_=>h.elim
theorem shapeL_some:∀ ss:List Spec,∃ vs,shapeL ss vs
 | []=>⟨[],trivial⟩
 | s :: ss=>by
  obtain⟨vs,h⟩:=shapeL_some ss
  cases s with
  | det c=>exact⟨c :: vs,rfl,h⟩
  | mk f t cs=>exact⟨f 0 :: vs,⟨0,rfl⟩,h⟩
  | any R=>exact⟨undef :: vs,trivial,h⟩
theorem factL_get:∀ {ss:List Spec} {vs:List Value} {j:Nat} {F:World→Prop},(factL base ss vs)[j]? = some F→∃ s v,ss[j]? = some s∧vs[j]? = some v∧F=s.fact base v
 | s :: ss,v :: vs,0,F,h=>by
  simp[factL] at h
  exact⟨s,v,rfl,rfl,h.symm⟩
 | s :: ss,v :: vs,j+1,F,h=>by
  simp only[factL,List.getElem?_cons_succ] at h
  simpa using factL_get h
 | [],_,_,_,h=>by simp[factL] at h
 | _ :: _,[],_,_,h=>by simp[factL] at h
theorem factsOf_keep{Fs:List (World→Prop)}(hm:∀ F∈Fs,∀ w w',F w→Since w w' → F w'){w w' : World}:∀ {js:List Nat},factsOf Fs js w→Since w w' → factsOf Fs js w'
 | [],_,_=>trivial
 | j :: js,h,k=>⟨by
     have h1:=h.1
     cases e:Fs[j]? with
     | none=>simp[List.getD,e]
     | some F =>
      simp only[List.getD,e,Option.getD_some] at h1 ⊢
      exact hm F (List.mem_of_getElem? e) w w' h1 k,factsOf_keep hm h.2 k⟩
theorem factsOf_mk{Fs:List (World→Prop)}{w:World}:∀ {js:List Nat},(∀ j∈js,∀ F,Fs[j]? = some F→F w)→factsOf Fs js w
 | [],_=>trivial
 | j :: js,h=>⟨by
     cases e:Fs[j]? with
     | none=>simp[List.getD,e]
     | some F=>simpa[List.getD,e] using h j (by simp) F e,factsOf_mk fun k hk=>h k (by simp[hk])⟩
theorem allF_mk{w:World}:∀ {ss:List Spec} {vs:List Value},(∀ (j:Nat) s v,ss[j]? = some s→vs[j]? = some v→s.fact base v w)→allF (factL base ss vs) w
 | s :: ss,v :: vs,h=>⟨h 0 s v rfl rfl,allF_mk fun j s' v' hs hv=>h (j+1) s' v' (by simpa using hs) (by simpa using hv)⟩
 | [],_,_=>by simp[factL,allF]
 | _ :: _,[],_=>by simp[factL,allF]
theorem blkL_mem{p:Nat→Prop}:∀ {ss:List Spec} {vs:List Value},p∈blkL ss vs→∃ (k:Nat) (s:Spec) (v:Value),ss[k]? = some s∧vs[k]? = some v∧p=s.blk v
 | s :: ss,v :: vs,h=>by
  simp only[blkL,List.mem_cons] at h
  rcases h with h | h
  ·exact⟨0,s,v,rfl,rfl,h⟩
  ·obtain⟨k,s',v',h1,h2,h3⟩:=blkL_mem h
   exact⟨k+1,s',v',by simpa using h1,by simpa using h2,h3⟩
 | [],_,h=>by simp[blkL] at h
 | _ :: _,[],h=>by simp[blkL] at h
theorem blkL_pair:∀ {ss:List Spec} {vs:List Value},(∀ (j k:Nat) s s' v v',j<k→ss[j]? = some s→ss[k]? = some s' → vs[j]? = some v→vs[k]? = some v' → ∀ g g',s.blk v g→s'.blk v' g' → g≠g') →
  (blkL ss vs).Pairwise (fun p q=>∀ g g',p g→q g' → g≠g')
 | s :: ss,v :: vs,h=>by
  refine List.pairwise_cons.2 ⟨fun q hq g g' hg hg' => ?_,blkL_pair fun j k s1 s2 v1 v2 hjk h1 h2 h3 h4=>h (j+1) (k+1) s1 s2 v1 v2 (by omega) (by simpa using h1) (by simpa using h2) (by simpa using h3) (by simpa using h4)⟩
  obtain⟨k,s',v',h1,h2,rfl⟩:=blkL_mem hq
  exact h 0 (k+1) s s' v v' (by omega) rfl (by simpa using h1) rfl (by simpa using h2) g g' hg hg'
 | [],_,_=>by simp[blkL]
 | _ :: _,[],_=>by simp[blkL]
theorem put_congr{a b:Act}{d:Option Tmp}{u v:Value}(h:a.put d u=a.put d v)(hs:b.tmps.size=a.tmps.size):b.put d u=b.put d v:=by
 cases d with
 | none=>rfl
 | some t =>
  rcases Nat.lt_or_ge t a.tmps.size with hlt | hge
  ·have h1:(a.put (some t) u).tmps[t]? = (a.put (some t) v).tmps[t]? := by rw[h]
   rw[put_in hlt,put_in hlt] at h1
   injection h1 with h1
   rw[h1]
  ·simp only[Act.put]
   rw[Array.setIfInBounds_eq_of_size_le (by omega),Array.setIfInBounds_eq_of_size_le (by omega)]
def cnt(n:Nat)(listed:Array Bool):Nat:=(List.range n).countP fun i => !listed.getD i true
theorem cnt_set{listed:Array Bool}{i:Nat}(hl:i<listed.size)(hu:listed.getD i true=false):∀ n,(n≤i→cnt n (listed.setIfInBounds i true)=cnt n listed)∧(i<n→cnt n (listed.setIfInBounds i true)+1=cnt n listed)
 | 0=>⟨fun _=>rfl,fun h=>by omega⟩
 | n+1=>by
  have ih:=cnt_set hl hu n
  unfold cnt at ih ⊢
  simp only[List.range_succ,List.countP_append,List.countP_cons,List.countP_nil]
  refine⟨fun h=>?_,fun h=>?_⟩
  ·rw[ih.1 (by omega),getD_set_ne true (by omega)]
  ·by_cases e:i=n
   ·subst e
    rw[ih.1 (Nat.le_refl _)]
    simp[hl,hu]
   ·have:=ih.2 (by omega)
    rw[getD_set_ne true e]
    omega
theorem full_of{n:Nat}{listed:Array Bool}(inv:HeadInv .any ops n listed)(hn:n≤ops.size)(h:∀ i,i<n→listed.getD i true=true):listed=fullL ops.size n:=by
 apply Array.ext
 ·rw[inv.size];simp[fullL]
 ·intro i h1 h2
  simp only[fullL,Array.getElem_ofFn]
  rcases Nat.lt_or_ge i n with hlt | hge
  ·have:=h i hlt
   rw[decide_eq_true hlt]
   simpa[h1] using this
  ·have:=inv.tail i hge (by rw[← inv.size];exact h1)
   rw[decide_eq_false (by omega)]
   simpa[h1] using this
theorem first_un{n:Nat}{listed:Array Bool}:∀ m,m≤n→(∀ i,i<n→listed.getD i true=true)∨∃ i,i<n∧listed.getD i true=false∧∀ j,j<i→listed.getD j true=true:=by
 have key:∀ m,m≤n→(∀ i,i<m→listed.getD i true=true)∨∃ i,i<n∧listed.getD i true=false∧∀ j,j<i→listed.getD j true=true:=by
  intro m
  induction m with
  | zero=>exact fun _=>.inl fun i hi=>by omega
  | succ m ih =>
   intro hm
   rcases ih (by omega) with h | h
   ·cases e:listed.getD m true with
    | true =>
     refine .inl fun i hi=>?_
     rcases Nat.lt_or_ge i m with h1 | h1
     ·exact h i h1
     ·obtain rfl:i=m:=by omega
      exact e
    | false=>exact .inr ⟨m,by omega,e,h⟩
   ·exact .inr h
 exact fun _ _=>key n (Nat.le_refl _)
theorem cnt_zero{n:Nat}{listed:Array Bool}(h:∀ i,i<n→listed.getD i true=true):cnt n listed=0:=by
 unfold cnt
 rw[List.countP_eq_zero]
 intro i hi
 simp[h i (List.mem_range.1 hi)]
theorem cnt_pos{n i:Nat}{listed:Array Bool}(hi:i<n)(h:listed.getD i true=false):0<cnt n listed:=by
 unfold cnt
 rw[List.countP_pos_iff]
 exact⟨i,List.mem_range.2 hi,by simp[h]⟩
theorem facts_any{Q:Exit→Act→World→Prop}{n:Nat}{ss:List Spec}{a0:Act}(hsel:Region.noSelect ops=true)(hn:n≤ops.size)(hsc:n=ops.size∨(Region.sinkB .any ops n=true∧Region.chainB .any ops n=true))(hB:Region.looksB ops n=true)
  (hseq:Region.seqB .any ops (ops.size-n) n (fullL ops.size n)=true) (hO:wpO P ops S base (fun a w=>wpList P ops Q (ops.toList.drop n) a w) (ops.toList.take n) ss [] [] a0) (hsl:ss.length=n) (hmono:∀ w w',S w→Since w w' → S w') :
  ∀ (f:Nat) (listed:Array Bool) (a:Act) (w:World) (vs:List Value),HeadInv .any ops n listed→cnt n listed=f→Hd P ops S base n ss a0 listed a w vs→wpAny P .any ops Q (f+(ops.size-n)) listed a w:=by
 have hgood:∀ (j:Nat) s,ss[j]? = some s→s.mono:=fun j s hj=>by
  obtain⟨vs,hvs⟩:=shapeL_some ss
  have hjn:j<n:=by have:=(List.getElem?_eq_some_iff.1 hj).1;omega
  have hjo:j<ops.toList.length:=by simp;omega
  exact(wpO_get hO hvs j (ops.toList[j]) s (by rw[take_get hjn];exact List.getElem?_eq_getElem hjo) hj).1
 intro f
 induction f with
 | zero =>
  intro listed a w vs inv hc h
  have hall:∀ i,i<n→listed.getD i true=true:=fun i hi=>by
   cases e:listed.getD i true with
   | true=>rfl
   | false=>have:=cnt_pos hi e;omega
  have hall' : ∀ i,i<n→listed.getD i false=true:=fun i hi=>by
   have:=hall i hi
   have hlt:i<listed.size:=by rw[inv.size];omega
   simpa[hlt] using this
  have hfin:=wpO_fin hO h.shape w h.cls (by
   rw[List.nil_append]
   exact allF_mk fun j s v hs hv=>h.fact j s v (by have:=(List.getElem?_eq_some_iff.1 hs).1;omega) (hall' j (by have:=(List.getElem?_eq_some_iff.1 hs).1;omega)) hs hv) (by
   rw[List.nil_append]
   exact blkL_pair fun j k s s' v v' hjk h1 h2 h3 h4=>h.dis j k s s' v v' hjk (hall' j (by have:=(List.getElem?_eq_some_iff.1 h1).1;omega)) (hall' k (by have:=(List.getElem?_eq_some_iff.1 h2).1;omega)) h1 h2 h3 h4)
  have ea:a=fr (ops.toList.take n) vs a0:=by
   obtain⟨tm,df⟩:=a
   have e1:=h.defs
   have e2:=h.siz
   have e3:=h.out
   have e4:=h.inn
   dsimp only at e1 e2 e3 e4
   have:tm=(fr (ops.toList.take n) vs a0).tmps:=by
    apply Array.ext_getElem?
    intro t
    by_cases hex:∃ (j:Nat) (oj:Oper),j<n∧ops[j]? = some oj∧oj.dst=some t
    ·obtain⟨j,oj,hj,hoj,hd⟩:=hex
     rcases Nat.lt_or_ge t a0.tmps.size with hlt | hge
     ·rw[e4 j oj t hj hoj (hall' j hj) hd hlt,fr_in _ _ a0 t j oj (by rw[take_get hj];simpa using hoj) (by rw[h.len];exact hj) hd ?_ hlt]
      intro k o' hk hko hd'
      obtain⟨hkn,hko'⟩:=take_some hko
      obtain⟨-,hlk⟩:=looksB_spec hB hkn (by simpa using hko')
      exact(hlk j oj t hj hoj hd).1 (Ne.symm hk) hd'
     ·rw[Array.getElem?_eq_none (by omega),Array.getElem?_eq_none (by rw[fr_size];exact hge)]
    ·rw[e3 t fun j oj hj hoj _ hd=>hex ⟨j,oj,hj,hoj,hd⟩,fr_out _ _ a0 t fun j oj hoj hd=>?_]
     obtain⟨hji,hoj'⟩:=take_some hoj
     exact hex ⟨j,oj,hji,by simpa using hoj',hd⟩
   have hdf:df=(fr (ops.toList.take n) vs a0).defers:=by rw[fr_defers];exact e1
   subst this hdf
   rfl
  rw[← ea] at hfin
  have hl:=full_of inv hn hall
  have hdl:(ops.toList.drop n).length=ops.size-n:=by simp
  have:=wpAny_of_seq (md:=.any) (Q' := Q) (ops.toList.drop n) n listed a w (fun j=>by simp[List.getElem?_drop]) (by rw[hdl,hl];exact hseq) hfin
  rw[hdl] at this
  rw[Nat.zero_add]
  exact this
 | succ f ih =>
  intro listed a w vs inv hc h
  rw[show f+1+(ops.size-n)=(f+(ops.size-n))+1 by omega]
  have hex:∃ i,i<n∧listed.getD i true=false∧∀ j,j<i→listed.getD j true=true:=by
   rcases first_un (n:=n) (listed:=listed) n (Nat.le_refl _) with h1 | h1
   ·have:=cnt_zero h1;omega
   ·exact h1
  obtain⟨i0,hi0,hu0,hm0⟩:=hex
  refine⟨fun hr=>?_,fun i hi=>?_⟩
  ·exfalso
   have ho0:ops[i0]? = some ops[i0]:=Array.getElem?_eq_getElem (by omega)
   obtain⟨hl,-⟩:=looksB_spec hB hi0 ho0
   have:i0∈Region.ready .any ops listed:=mem_ready.2 ⟨hu0,_,ho0,fun e he hb=>by
    have hlt:=hl e he hb
    have:=hm0 e.on hlt
    have hsz:e.on<listed.size:=by rw[inv.size];omega
    simpa[hsz] using this⟩
   rw[hr] at this
   cases this
  ·obtain⟨hun,o,ho,hall⟩:=mem_ready.1 hi
   have hin:i<n:=by
    rcases Nat.lt_or_ge i n with h1 | h1
    ·exact h1
    ·have hio:=(Array.getElem?_eq_some_iff.1 ho).1
     rcases hsc with hsc | ⟨hs1,hs2⟩
     ·omega
     ·exact absurd hi (tail_waits hs1 hs2 (by omega) inv _ i0 rfl hi0 hu0 i h1)
   have hsz:=inv.size
   have his:i<listed.size:=by rw[hsz];omega
   have hss:ss[i]? = some ss[i]:=List.getElem?_eq_getElem (by omega)
   generalize hsi:ss[i]=s at hss
   have hsee:=h.sees hB hin ho hall
   have hex:=eval_eq (ops:=ops) (o:=o) (Region.noSelect_spec hsel i o · · ho) hsee
   have hwa:=wanted_eq (ops:=ops) (o:=o) hsee
   obtain⟨hmo,hask⟩:=wpO_get hO h.shape i o s (by rw[take_get hin];simpa using ho) hss
   rw[List.take_take,Nat.min_eq_left (by omega),List.nil_append] at hask
   have hF:factsOf (factL base (ss.take i) (vs.take i)) (pres o) w:=factsOf_mk fun j hj F hF=>by
    obtain⟨s',v',h1,h2,rfl⟩:=factL_get hF
    obtain⟨hji,h1⟩:=take_some h1
    obtain⟨-,h2⟩:=take_some h2
    unfold pres at hj
    obtain⟨e,he,rfl⟩:=List.mem_map.1 hj
    rw[List.mem_filter] at he
    exact h.fact e.on s' v' (by omega) (hall e (by simpa using he.1) he.2) h1 h2
   have hFm:∀ w w',factsOf (factL base (ss.take i) (vs.take i)) (pres o) w→Since w w' → factsOf (factL base (ss.take i) (vs.take i)) (pres o) w' := fun w w' h k=>factsOf_keep (fun F hF=>by
    obtain⟨j,hj⟩:=List.getElem?_of_mem hF
    obtain⟨s',v',h1,h2,rfl⟩:=factL_get hj
    obtain⟨-,h1⟩:=take_some h1
    exact fun w w' hf hk=>Spec.keep (hgood j s' h1) hf hk) h k
   have go:∀ (v:Value) (w' : World),s.shape v→s.fact base v w' → Since w w' → (∀ g,s.blk v g→w.heap.size≤g)→wpAny P .any ops Q (f+(ops.size-n)) (listed.setIfInBounds i true) (a.put o.dst v) w' := fun v w' hv hf hw hd =>
    ih _ _ _ _ (inv.set hi hin) (by have:=(cnt_set his hun n).2 hin;omega) (h.step hB hn hsz hin ho hss hgood (shapeL_set h.shape hss hv) hf hw (hmono _ _ h.cls hw) hd)
   generalize hA:fr (ops.toList.take i) (vs.take i) a0=A at *
   have hAs:a.tmps.size=A.tmps.size:=by rw[← hA,fr_size];exact h.siz
   unfold wpOp
   simp only[ho]
   rw[hwa]
   cases s with
   | det c =>
    unfold Spec.asks at hask
    dsimp only at hask
    by_cases hw:Region.wanted o (yielded ops A.tmps)=true
    ·rw[if_pos hw] at hask ⊢
     obtain⟨v,hv,hp⟩:=hask hFm w h.cls hF
     have hq:=hv w ⟨h.cls,hF,Since.rfl_ w⟩
     have hpc:a.put o.dst v=a.put o.dst c:=put_congr hp hAs
     left
     unfold Oper.wp
     rw[hex]
     unfold Oper.quietAt at hq
     generalize (execOp A.eval o).run P w=r at hq
     unfold Oper.quietUpon at hq
     split at hq
     ·obtain⟨rfl,rfl⟩:=hq
      show wpAny P .any ops Q _ _ (a.put o.dst _) _
      rw[hpc]
      exact go c _ rfl trivial (Since.rfl_ _) (fun g hg=>hg.elim)
     ·obtain⟨rfl,rfl⟩:=hq
      show wpAny P .any ops Q _ _ (a.put o.dst _) _
      rw[hpc]
      exact go c _ rfl trivial (Since.rfl_ _) (fun g hg=>hg.elim)
     ·obtain⟨rfl,hcall⟩:=hq
      rw[Oper.upon_enter]
      refine hcall.mono ?_
      rintro e w'' ⟨rfl,hC⟩
      show wpAny P .any ops Q _ _ (a.put o.dst _) _
      rw[hpc]
      exact go c _ rfl trivial hC.out.2.2 (fun g hg=>hg.elim)
     ·exact hq.elim
    ·rw[if_neg hw] at hask ⊢
     subst hask
     exact go undef w rfl trivial (Since.rfl_ _) (fun g hg=>hg.elim)
   | mk fn t cs =>
    obtain⟨hw,hrun⟩:=hask
    rw[if_pos hw]
    left
    unfold Oper.wp
    rw[hex,hrun w]
    show wpAny P .any ops Q _ _ (a.put o.dst _) _
    refine go _ _ ⟨_,rfl⟩ ⟨_,rfl,Blk.new w t cs,h.bas⟩ ((Since.rfl_ w).alloc _) (fun g hg=>?_)
    have:w.heap.size=g:=hmo _ _ hg
    omega
   | any R =>
    obtain⟨hw,hrun⟩:=hask
    rw[if_pos hw]
    left
    unfold Oper.wp
    rw[hex]
    have hr:=hrun w h.cls hF
    unfold runV at hr
    generalize (execOp A.eval o).run P w=r at hr
    split at hr
    ·exact go _ _ trivial hr.1 hr.2 (fun g hg=>hg.elim)
    ·rw[Oper.upon_enter]
     refine hr.mono ?_
     rintro e w'' ⟨v,rfl,h1,h2⟩
     exact go v _ trivial h1 h2 (fun g hg=>hg.elim)
    ·exact hr.elim
end
class MonoW (S:World→Prop):Prop where
 m:∀ w w',S w→Since w w' → S w'
instance {A B:World→Prop} [hA:MonoW A] [hB:MonoW B]:MonoW (fun w=>A w∧B w):=⟨fun w w' h k=>⟨hA.m w w' h.1 k,hB.m w w' h.2 k⟩⟩
instance {p:Addr} {v:Value}:MonoW (fun w=>w.cell? p=some v):=⟨fun _ _ h k=>keepC k _ _ h⟩
instance {w0:World}:MonoW (fun w=>Since w0 w):=⟨fun _ _ h k=>h.trans k⟩
instance {g:Nat} {t:TypeId} {cs:Array Value}:MonoW (fun w=>Blk w g t cs):=⟨fun _ _ h k=>k.blk h⟩
instance {p:Prop}:MonoW (fun _=>p):=⟨fun _ _ h _=>h⟩
theorem cls_call{S F:World→Prop}[hM:MonoW S]{wx w w' : World}(hF:∀ w w',F w→Since w w' → F w')(hC:Cls (fun w' => S w' ∧ F w' ∧ Since wx w') w)(h:Since w w'):Cls (fun w' => S w' ∧ F w' ∧ Since wx w') w' :=
 ⟨hM.m _ _ hC.out.1 h,hF _ _ hC.out.2.1 h,hC.out.2.2.trans h⟩
theorem region_facts{P:Program}{id:Nat}{Q:Exit→Act→World→Prop}{a:Act}{w:World}{l:List Oper}(n:Nat)(S:World→Prop)(hm:P.follows .mixedOrders=true)(hB:Region.factsB l.toArray n=true)(hS:S w.drew)[hmono:MonoW S](ss:List Spec)
  (h:wpO P l.toArray S w.heap.size (fun a' w' => wpList P l.toArray Q (l.drop n) a' w') (l.take n) ss [] [] a):(Code.region id l.toArray true).wp P Q a w:=by
 unfold Region.factsB at hB
 simp only[Bool.and_eq_true,Bool.or_eq_true,decide_eq_true_eq] at hB
 obtain⟨⟨⟨⟨h1,h2⟩,h3⟩,h4⟩,h5⟩:=hB
 obtain⟨vs,hvs⟩:=shapeL_some ss
 have hlen:(l.take n).length=n:=by simp at h2 ⊢;omega
 have hss:ss.length=n:=by rw[← wpO_len h hvs,hlen]
 refine wp_region_any hm ?_
 have inv0:HeadInv .any l.toArray n (Array.replicate l.toArray.size false) :=
  ⟨by simp,fun j oj _ hl=>(by rw[getD_replicate_false] at hl;cases hl),fun t _ ht=>getD_in (by simpa using ht) (getD_replicate_false _ _)⟩
 have hc:cnt n (Array.replicate l.toArray.size false)=n:=by
  unfold cnt
  rw[List.countP_eq_length.2,List.length_range]
  intro i hi
  have hin:=List.mem_range.1 hi
  simp only[List.size_toArray] at h2 ⊢
  have:i<l.length:=by omega
  simp[this]
 have hd0:Hd P l.toArray S w.heap.size n ss a (Array.replicate l.toArray.size false) a { w with drawn:=w.drawn+1 } vs :=
  ⟨by rw[← shapeL_len hvs,hss],hvs,rfl,rfl,fun t _=>rfl,fun j o t _ _ hl=>(by rw[getD_replicate_false] at hl;cases hl),fun j s v _ hl=>(by rw[getD_replicate_false] at hl;cases hl),fun j k s s' v v' _ hl=>(by rw[getD_replicate_false] at hl;cases hl),hS,Nat.le_refl _⟩
 have:=facts_any h1 h2 h3 h4 h5 (by simpa using h) hss hmono.m n _ _ _ _ inv0 hc hd0
 rwa[show n+(l.toArray.size-n)=l.toArray.size by omega] at this
section
variable {P : Program} {ops : Array Oper} {S : World → Prop} {base : Nat} {K : Act → World → Prop} {l : List Oper} {o : Oper} {ss : List Spec} {Fs : List (World → Prop)} {Bs : List (Nat → Prop)} {a : Act}
theorem wpO_nil(h:∀ w,S w→allF Fs w→Bs.Pairwise (fun p q=>∀ g g',p g→q g' → g≠g')→K a w):wpO P ops S base K [] [] Fs Bs a:=h
theorem wpO_det{c:Value}(hw:Region.wanted o (yielded ops a.tmps)=true)(h:(∀ w w',factsOf Fs (pres o) w→Since w w' → factsOf Fs (pres o) w')→∀ wx,S wx→factsOf Fs (pres o) wx→∀ K' : Act→Prop,(∀ a',a' = a.put o.dst c→K' a')→o.quiet P a (Cls fun w' => S w' ∧ factsOf Fs (pres o) w' ∧ Since wx w') K')
  (k:wpO P ops S base K l ss (Fs++[fun _=>True]) (Bs++[fun _=>False]) (a.put o.dst c)):wpO P ops S base K (o :: l) (.det c :: ss) Fs Bs a :=
 ⟨trivial,by
  unfold Spec.asks
  dsimp only
  rw[if_pos hw]
  exact fun hm wx h1 h2=>h hm wx h1 h2 _ (fun a' h=>h),fun v hv=>by cases hv;exact k⟩
theorem wpO_skip(hw:Region.wanted o (yielded ops a.tmps)=false)(k:wpO P ops S base K l ss (Fs++[fun _=>True]) (Bs++[fun _=>False]) (a.put o.dst undef)):wpO P ops S base K (o :: l) (.det undef :: ss) Fs Bs a :=
 ⟨trivial,by
  unfold Spec.asks
  dsimp only
  rw[if_neg (by rw[hw];simp)],fun v hv=>by cases hv;exact k⟩
theorem wpO_mk{f:Nat→Value}{t:TypeId}{cs:Array Value}(hi:∀ g g',f g=f g' → g=g')(hw:Region.wanted o (yielded ops a.tmps)=true)(h:∀ w,(execOp a.eval o).run P w=.ok (.value (f w.heap.size)) (w.alloc (.cells cs t)))
  (k:∀ g,wpO P ops S base K l ss (Fs++[fun w=>Blk w g t cs∧base≤g]) (Bs++[fun g' => g=g']) (a.put o.dst (f g))):wpO P ops S base K (o :: l) (.mk f t cs :: ss) Fs Bs a :=
 ⟨hi,⟨hw,h⟩,fun v hv=>by
  obtain⟨g,rfl⟩:=hv
  have e1:Spec.fact base (.mk f t cs) (f g)=fun w=>Blk w g t cs∧base≤g:=by
   funext w
   apply propext
   constructor
   ·rintro⟨g',e,h⟩
    rw[hi _ _ e];exact h
   ·exact fun h=>⟨g,rfl,h⟩
  have e2:Spec.blk (.mk f t cs) (f g)=fun g' => g=g' := by
   funext g'
   apply propext
   exact⟨fun h=>hi _ _ h,fun h=>by rw[← h];rfl⟩
  rw[e1,e2]
  exact k g⟩
theorem wpO_any{R:Value→World→Prop}(hR:∀ v w w',R v w→Since w w' → R v w')(hw:Region.wanted o (yielded ops a.tmps)=true)(h:∀ w,S w→factsOf Fs (pres o) w→runV P o a w fun v w' => R v w' ∧ Since w w')
  (k:∀ v,wpO P ops S base K l ss (Fs++[R v]) (Bs++[fun _=>False]) (a.put o.dst v)):wpO P ops S base K (o :: l) (.any R :: ss) Fs Bs a :=
 ⟨hR,⟨hw,h⟩,fun v _=>k v⟩
end
end
section
open Go.RowKit Go.BigFrame
attribute [local go_sem ↓] eqPt neqPt
def mNext(out:List Pt2)(p:Pt2):Pt2:=if p=lastP out then(p.1+1,p.2) else p
def mlineGo:Nat→List Int→List Pt2→List Pt2
 | 0,_,out=>out
 | k+1,l,out=>mlineGo k (ptOf l).2 (out++[mNext out (ptOf l).1])
theorem sizeSet(w:World)(p:Addr)(u:Value):(w.setCell p u).heap.size=w.heap.size:=by simp[World.setCell]
theorem own_last'{w:World}{b:Nat}{v:Value}{l:List Pt2}{k:Nat}(h:w.ownsRow b 36 2 v l.length (l.flatMap ptV))(hk:l.length=k+1) :
  ∃ g c,v=.slice (some ⟨g,0,none⟩) l.length c∧b≤g∧w.cell? ⟨g,k*2,none⟩=some (.int .i64 (lastP l).1)∧w.cell? ⟨g,k*2+1,none⟩=some (.int .i64 (lastP l).2):=by
 have h0:=h
 obtain⟨-,⟨rfl,hn⟩ | ⟨g,cap,cur,rfl,hb,-⟩⟩:=h
 ·omega
 ·have hlt:k<l.length:=by omega
  have hp:lastP l=l[k]:=by unfold lastP pAt;rw[hk,Nat.add_sub_cancel];simp[List.getD,hlt]
  refine⟨g,cap,rfl,hb,?_,?_⟩
  ·have:=row_at h0 ptV_len k hlt 0 (.int .i64 l[k].1) rfl
   rw[hp];simpa using this
  ·rw[hp];exact row_at h0 ptV_len k hlt 1 (.int .i64 l[k].2) rfl
theorem own_only{w w' : World}{g b:Nat}{e:TypeId}{k n:Nat}{v:Value}{xs:List Value}(h:w.ownsRow b e k v n xs)(ho:Only g w w')(hg:g<b):w'.ownsRow b e k v n xs :=
 h.kept ho (.inr (Ne.symm (own_ne h hg)))
end
end Go.Proofs.YtdnccjdlmepafaaGreat
