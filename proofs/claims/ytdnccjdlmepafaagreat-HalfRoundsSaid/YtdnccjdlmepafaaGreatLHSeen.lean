/-
  Plain: half-edges that have been seen, boundary by boundary. Conditions: next ones form a permutation.
-/
import Derived.Test.YtdnccjdlmepafaaGreatLHWalk
set_option linter.unusedSimpArgs false
set_option linter.unusedVariables false
set_option linter.constructorNameAsVariable false
namespace Go.Proofs.YtdnccjdlmepafaaGreat
def bAt (l:List Bool) (i:Nat):Bool:=l.getD i false
theorem bAt_set {l:List Bool} {i j:Nat} (x:Bool) (hi:i<l.length):bAt (l.set i x) j=if j=i then x else bAt l j:=by
 unfold bAt
 split
 ·rename_i e;subst e;simp [List.getD,hi]
 ·rename_i e;simp [List.getD,List.getElem?_set_ne (Ne.symm e)]
def mrkL (nx:Nat→Nat) (l:List Bool) (h:Nat):Nat→List Bool
 | 0=>l
 | i+1=>(mrkL nx l h i).set (itN nx h i) true
theorem mrkL_len (nx:Nat→Nat) (l:List Bool) (h:Nat):∀ i,(mrkL nx l h i).length=l.length
 | 0=>rfl
 | i+1=>by simp only [mrkL,List.length_set];exact mrkL_len nx l h i
theorem mrkL_at {nx:Nat→Nat} {l:List Bool} {h:Nat} (hl:∀ i,itN nx h i<l.length) (g:Nat):∀ i,bAt (mrkL nx l h i) g=true↔bAt l g=true∨∃ j,j<i∧itN nx h j=g
 | 0=>⟨.inl,fun k=>k.elim id fun ⟨j,hj,_⟩=>absurd hj (Nat.not_lt_zero _)⟩
 | i + 1=>by
  show bAt ((mrkL nx l h i).set (itN nx h i) true) g=true↔_
  rw [bAt_set true (by rw [mrkL_len];exact hl i)]
  have ih:=mrkL_at hl g i
  split
  ·rename_i e
   exact ⟨fun _=>.inr ⟨i,Nat.lt_succ_self i,e.symm⟩,fun _=>rfl⟩
  ·rename_i e
   rw [ih]
   constructor
   ·rintro (k | ⟨j,hj,k⟩)
    ·exact .inl k
    ·exact .inr ⟨j,by omega,k⟩
   ·rintro (k | ⟨j,hj,k⟩)
    ·exact .inl k
    ·rcases Nat.lt_succ_iff_lt_or_eq.1 hj with q | q
     ·exact .inr ⟨j,q,k⟩
     ·subst q;exact absurd k.symm e
theorem RndN.inj {nx:Nat→Nat} {N h n:Nat} (hp:PermN N nx) (hh:h<N) (hr:RndN nx h n) {i j:Nat} (hij:i<j) (hj:j<n):itN nx h i≠itN nx h j:=fun e =>
 hr.2.2 (j-i) (by omega) (by omega) (it_back hp hh i j (Nat.le_of_lt hij) e)
theorem RndN.mul {nx:Nat→Nat} {h n:Nat} (hr:RndN nx h n):∀ k,itN nx h (n*k)=h
 | 0=>rfl
 | k+1=>by rw [Nat.mul_succ,it_add,hr.mul k];exact hr.2.1
structure SeenP (N:Nat) (nx:Nat→Nat) (l:List Bool) (h:Nat):Prop where
 len:l.length=N
 cl:∀ g,g<N→bAt l g=true→bAt l (nx g)=true
 dn:∀ g,g<h→bAt l g=true
theorem SeenP.start (N:Nat) (nx:Nat→Nat):SeenP N nx (List.replicate N false) 0 :=
 ⟨by simp,fun g hg e=>by unfold bAt at e;simp [List.getD,hg] at e,fun g hg=>absurd hg (Nat.not_lt_zero _)⟩
section
variable {N : Nat} {nx : Nat → Nat} {l : List Bool} {h : Nat}
theorem SeenP.skip (k:SeenP N nx l h) (e:bAt l h=true):SeenP N nx l (h+1):=⟨k.len,k.cl,fun g hg=>by
 rcases Nat.lt_succ_iff_lt_or_eq.1 hg with q | q
 ·exact k.dn g q
 ·rw [q];exact e⟩
theorem SeenP.go (k:SeenP N nx l h) (hp:PermN N nx) {g:Nat} (hg:g<N) (e:bAt l g=true):∀ m,bAt l (itN nx g m)=true
 | 0=>e
 | m+1=>k.cl _ (it_lt hp hg m) (k.go hp hg e m)
theorem SeenP.fresh (k:SeenP N nx l h) (hp:PermN N nx) (hh:h<N) {n:Nat} (hr:RndN nx h n) (e:bAt l h=false) (j:Nat):bAt l (itN nx h j)=false:=by
 cases q:bAt l (itN nx h j) with
 | false=>rfl
 | true =>
  have hj:j≤n*j:=Nat.le_mul_of_pos_left j hr.1
  have:=k.go hp (it_lt hp hh j) q (n*j-j)
  rw [← it_add,show j+(n*j-j)=n*j by omega,hr.mul j,e] at this
  cases this
theorem SeenP.mark (k:SeenP N nx l h) (hp:PermN N nx) (hh:h<N) {n:Nat} (hr:RndN nx h n):SeenP N nx (mrkL nx l h n) (h+1):=by
 have hl:∀ i,itN nx h i<l.length:=fun i=>by rw [k.len];exact it_lt hp hh i
 refine ⟨by rw [mrkL_len,k.len],fun g hg e=>?_,fun g hg=>?_⟩
 ·rw [mrkL_at hl] at e ⊢
  rcases e with e | ⟨j,hj,e⟩
  ·exact .inl (k.cl g hg e)
  ·rcases Nat.lt_or_ge (j+1) n with q | q
   ·exact .inr ⟨j+1,q,by show nx (itN nx h j)=_;rw [e]⟩
   ·obtain rfl:n=j+1:=by omega
    refine .inr ⟨0,by omega,?_⟩
    have:=hr.2.1
    rw [← e]
    exact this.symm
 ·rw [mrkL_at hl]
  rcases Nat.lt_succ_iff_lt_or_eq.1 hg with q | q
  ·exact .inl (k.dn g q)
  ·exact .inr ⟨0,hr.1,q.symm⟩
theorem SeenP.next (k:SeenP N nx l h) (hp:PermN N nx) (hh:h<N) {n:Nat} (hr:RndN nx h n) (e:bAt l h=false) {i:Nat} (hi:i<n):bAt (mrkL nx l h i) (itN nx h i)=false:=by
 have hl:∀ i,itN nx h i<l.length:=fun i=>by rw [k.len];exact it_lt hp hh i
 cases q:bAt (mrkL nx l h i) (itN nx h i) with
 | false=>rfl
 | true =>
  rw [mrkL_at hl] at q
  rcases q with q | ⟨j,hj,q⟩
  ·rw [k.fresh hp hh hr e] at q;cases q
  ·exact absurd q (hr.inj hp hh hj hi)
end
end Go.Proofs.YtdnccjdlmepafaaGreat
