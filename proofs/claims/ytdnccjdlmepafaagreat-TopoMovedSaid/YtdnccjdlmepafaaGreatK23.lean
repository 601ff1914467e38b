/-
  Plain: half-edges around vertices; the next half-edge of a boundary; Plain: the cycles of a permutation, found one after another; Plain: the parts of a drawing and its faces, as arr computes them; Plain: the faces of a drawing, as arr computes them; A queue of numbers: the rest of a row of one's own; an append to it; Walks of slices.Index and slices.Repeat over ints. Conditions: those that each lemma names.
-/
import Derived.Test.YtdnccjdlmepafaaGreatK22
import Derived.Test.YtdnccjdlmepafaaGreatK18
import Derived.ArgAppend
import Derived.Test.YtdnccjdlmepafaaGreatK07
import Derived.Laws.CopyOwn
import Derived.Deep.RegionLaw
set_option linter.unusedSimpArgs false
set_option linter.unusedVariables false
set_option linter.constructorNameAsVariable false
namespace Go.Proofs.YtdnccjdlmepafaaGreat
section
open Go.RowKit Go.BigFrame
structure Net(N V:Nat)(P:List Pt2)(fr:Nat→Nat)(R:Nat→List Int):Prop where
 even:N % 2=0
 pos:0<N
 le:N≤6000
 vle:V≤6000
 len:P.length=V
 ok:∀ p∈P,okP p.1 p.2=true
 fr_lt:∀ h,h<N→fr h<V
 mem:∀ v,v<V→∀ x:Int,x∈R v↔∃ h:Nat,x=h∧h<N∧fr h=v
 nd:∀ v,v<V→(R v).Nodup
def nxI(fr:Nat→Nat)(R:Nat→List Int)(h:Nat):Int:=iAt (R (fr (twN h))) (((R (fr (twN h))).idxOf ((twN h:Nat):Int)+(R (fr (twN h))).length-1) % (R (fr (twN h))).length)
def nxN(fr:Nat→Nat)(R:Nat→List Int)(h:Nat):Nat:=(nxI fr R h).toNat
theorem iAt_mem{l:List Int}{i:Nat}(h:i<l.length):iAt l i∈l:=by
 have:iAt l i=l[i]:=by simp[iAt,List.getD,h]
 rw[this];exact List.getElem_mem h
section
variable {N V : Nat} {P : List Pt2} {fr : Nat → Nat} {R : Nat → List Int}
theorem Net.tw_lt(K:Net N V P fr R){h:Nat}(hh:h<N):twN h<N:=twN_lt hh K.even
theorem Net.tw_mem(K:Net N V P fr R){h:Nat}(hh:h<N):((twN h:Nat):Int)∈R (fr (twN h)):=(K.mem _ (K.fr_lt _ (K.tw_lt hh)) _).2 ⟨twN h,rfl,K.tw_lt hh,rfl⟩
theorem Net.row_pos(K:Net N V P fr R){h:Nat}(hh:h<N):0<(R (fr (twN h))).length:=List.length_pos_iff.2 (List.ne_nil_of_mem (K.tw_mem hh))
theorem Net.nx(K:Net N V P fr R){h:Nat}(hh:h<N):nxI fr R h=(nxN fr R h:Int)∧nxN fr R h<N∧fr (nxN fr R h)=fr (twN h):=by
 have hp:=K.row_pos hh
 have hm:nxI fr R h∈R (fr (twN h)):=iAt_mem (Nat.mod_lt _ hp)
 obtain⟨m,e,h1,h2⟩:=(K.mem _ (K.fr_lt _ (K.tw_lt hh)) _).1 hm
 have e2:nxN fr R h=m:=by unfold nxN;rw[e];exact Int.toNat_natCast m
 rw[e2]
 exact⟨e,h1,h2⟩
theorem nodup_at{l:List Int}(hn:l.Nodup){i j:Nat}(hi:i<l.length)(hj:j<l.length)(e:iAt l i=iAt l j):i=j:=by
 have e1:iAt l i=l[i]:=by simp[iAt,List.getD,hi]
 have e2:iAt l j=l[j]:=by simp[iAt,List.getD,hj]
 rw[e1,e2] at e
 have hp:=List.pairwise_iff_getElem.1 hn
 rcases Nat.lt_trichotomy i j with k | k | k
 ·exact absurd e (hp i j hi hj k)
 ·exact k
 ·exact absurd e.symm (hp j i hj hi k)
theorem pred_inj{n i j:Nat}(hi:i<n)(hj:j<n)(e:(i+n-1) % n=(j+n-1) % n):i=j:=by
 have f:∀ a,a<n→(a+n-1) % n=if a=0 then n-1 else a-1:=fun a ha=>by
  split
  ·rename_i h;subst h;rw[Nat.zero_add];exact Nat.mod_eq_of_lt (by omega)
  ·rw[show a+n-1=(a-1)+n by omega,Nat.add_mod_right];exact Nat.mod_eq_of_lt (by omega)
 rw[f i hi,f j hj] at e
 split at e <;> split at e <;> omega
theorem Net.inj(K:Net N V P fr R){h g:Nat}(hh:h<N)(hg:g<N)(e:nxN fr R h=nxN fr R g):h=g:=by
 obtain⟨a1,a2,a3⟩:=K.nx hh
 obtain⟨b1,b2,b3⟩:=K.nx hg
 have ev:fr (twN h)=fr (twN g):=by rw[← a3,← b3,e]
 have ei:nxI fr R h=nxI fr R g:=by rw[a1,b1,e]
 have hp:=K.row_pos hh
 unfold nxI at ei
 rw[← ev] at ei
 have hm:=K.tw_mem hg
 rw[← ev] at hm
 have i1:=List.idxOf_lt_length_iff.2 (K.tw_mem hh)
 have i2:=List.idxOf_lt_length_iff.2 hm
 have:=pred_inj i1 i2 (nodup_at (K.nd _ (K.fr_lt _ (K.tw_lt hh))) (Nat.mod_lt _ hp) (Nat.mod_lt _ hp) ei)
 have e3:((twN h:Nat):Int)=((twN g:Nat):Int):=by
  have q1:=List.getElem_idxOf i1
  have q2:=List.getElem_idxOf i2
  rw[← q1,← q2]
  congr 1
 have e4:twN h=twN g:=by exact_mod_cast e3
 rw[← twN_tw h,e4,twN_tw]
end
def mkH(N:Nat)(fr:Nat→Nat)(nx fc:Nat→Int):List Hf:=(List.range N).map fun h=>((fr h:Int),((twN h:Nat):Int),nx h,fc h)
theorem mkH_len(N:Nat)(fr:Nat→Nat)(nx fc:Nat→Int):(mkH N fr nx fc).length=N:=by simp[mkH]
theorem mkH_at{N:Nat}{fr:Nat→Nat}{nx fc:Nat→Int}{h:Nat}(hh:h<N):hAt (mkH N fr nx fc) h=((fr h:Int),((twN h:Nat):Int),nx h,fc h):=by
 simp[hAt,mkH,List.getD,hh]
def upd(f:Nat→Int)(h:Nat)(v:Int):Nat→Int:=fun i=>if i=h then v else f i
theorem flatH_set2(l:List Hf)(h:Nat)(v:Int)(hh:h<l.length):(l.flatMap hfV).set (h*4+2) (.int .i64 v)=(l.set h ((hAt l h).1,(hAt l h).2.1,v,(hAt l h).2.2.2)).flatMap hfV:=by
 induction l generalizing h with
 | nil=>simp at hh
 | cons a l ih =>
  cases h with
  | zero=>simp[hfV,hAt]
  | succ h =>
   have hh' : h<l.length:=by simpa using hh
   rw[List.flatMap_cons,List.set_append_right _ _ (by rw[hfV_len];omega),hfV_len,show(h+1)*4+2-4=h*4+2 by omega,ih h hh',List.set_cons_succ,List.flatMap_cons]
   simp[hAt]
theorem flatH_set3(l:List Hf)(h:Nat)(v:Int)(hh:h<l.length):(l.flatMap hfV).set (h*4+3) (.int .i64 v)=(l.set h ((hAt l h).1,(hAt l h).2.1,(hAt l h).2.2.1,v)).flatMap hfV:=by
 induction l generalizing h with
 | nil=>simp at hh
 | cons a l ih =>
  cases h with
  | zero=>simp[hfV,hAt]
  | succ h =>
   have hh' : h<l.length:=by simpa using hh
   rw[List.flatMap_cons,List.set_append_right _ _ (by rw[hfV_len];omega),hfV_len,show(h+1)*4+3-4=h*4+3 by omega,ih h hh',List.set_cons_succ,List.flatMap_cons]
   simp[hAt]
theorem mkH_set2{N:Nat}{fr:Nat→Nat}{nx fc:Nat→Int}{h:Nat}(hh:h<N)(v:Int):((mkH N fr nx fc).flatMap hfV).set (h*4+2) (.int .i64 v)=(mkH N fr (upd nx h v) fc).flatMap hfV:=by
 rw[flatH_set2 _ _ _ (by rw[mkH_len];exact hh),mkH_at hh]
 congr 1
 apply List.ext_getElem (by simp[mkH])
 intro i h1 h2
 rw[List.getElem_set]
 simp only[mkH,List.getElem_map,List.getElem_range,upd]
 split
 ·rename_i e;subst e;simp
 ·rename_i e;rw[if_neg (Ne.symm e)]
theorem mkH_set3{N:Nat}{fr:Nat→Nat}{nx fc:Nat→Int}{h:Nat}(hh:h<N)(v:Int):((mkH N fr nx fc).flatMap hfV).set (h*4+3) (.int .i64 v)=(mkH N fr nx (upd fc h v)).flatMap hfV:=by
 rw[flatH_set3 _ _ _ (by rw[mkH_len];exact hh),mkH_at hh]
 congr 1
 apply List.ext_getElem (by simp[mkH])
 intro i h1 h2
 rw[List.getElem_set]
 simp only[mkH,List.getElem_map,List.getElem_range,upd]
 split
 ·rename_i e;subst e;simp
 ·rename_i e;rw[if_neg (Ne.symm e)]
theorem net_begin{E:List Sg}{P:List Pt2}{k V:Nat}{O:List (Value×List Int)}(hE:RndOk E)(hk:k=E.length)(hl:k≤3000)(hpos:0<k)(hP:P=hullS (ptsK E k))(hV:V=P.length)
  (hO:∀ v,v<V→SrtO P (hfK E P (2*k)) (outK E P (2*k) v) (O.getD v (nilV,[])).2):Net (2*k) V P (frH E P) (fun v=>(O.getD v (nilV,[])).2):=by
 have hPm:∀ h,h<2*k→endH E h∈P:=fun h hh=>by rw[hP];exact hullS_mem.2 (endH_mem hh hk)
 refine⟨by omega,by omega,by omega,?_,hV.symm,fun p hp=>?_,fun h hh=>by rw[hV];exact(idP_at (hPm h hh)).1,fun v hv x=>?_,fun v hv=>?_⟩
 ·rw[hV,hP]
  have:=len_le_of_sub (srt_nodup (hullS_srt (ptsK E k))) (fun x hx=>hullS_mem.1 hx)
  rw[ptsK_len] at this
  omega
 ·rw[hP] at hp
  have hp:=hullS_mem.1 hp
  obtain⟨i,hi,hp⟩:=List.mem_flatMap.1 hp
  have hs:sgAt E i∈E:=sgAt_mem (by have:=List.mem_range.1 hi;omega)
  have:=hE.ok _ hs
  unfold SgOk at this
  simp at hp
  rcases hp with rfl | rfl
  ·exact this.1
  ·exact this.2.1
 ·exact((hO v hv).1.mem_iff).trans outK_mem
 ·refine((hO v hv).1.nodup_iff).2 ?_
  unfold outK
  have:=(List.nodup_range (n:=2*k)).filter (fun h=>decide (frH E P h=v))
  unfold List.Nodup at *
  rw[List.pairwise_map]
  exact this.imp fun hne e=>hne (by exact_mod_cast e)
end
section
def itN(nx:Nat→Nat)(h:Nat):Nat→Nat
 | 0=>h
 | i+1=>nx (itN nx h i)
structure PermN(N:Nat)(nx:Nat→Nat):Prop where
 lt:∀ g,g<N→nx g<N
 inj:∀ g h,g<N→h<N→nx g=nx h→g=h
def sumC(N:Nat)(cr:Nat→Int)(C:List Int)(c:Nat):Int:=(((List.range N).filter fun g=>iAt C g=c).map cr).sum
structure Cyc(N:Nat)(nx:Nat→Nat)(cr:Nat→Int)(h:Nat)(C I T:List Int):Prop where
 lenC:C.length=N
 lenT:T.length=I.length
 le:I.length≤h
 rng:∀ g,g<N→iAt C g = -1∨(0≤iAt C g∧iAt C g<I.length)
 done:∀ g,g<h→g<N→0≤iAt C g
 cls:∀ g,g<N→iAt C (nx g)=iAt C g
 fst:∀ c,c<I.length→∃ g:Nat,iAt I c=g∧g<h∧g<N∧iAt C g=c∧∀ g',g' < N→iAt C g' = c→g≤g'
 inc:∀ c d,c<d→d<I.length→iAt I c<iAt I d
 sum:∀ c,c<I.length→iAt T c=sumC N cr C c
 one:∀ g,g<N→0≤iAt C g→∃ i,itN nx (iAt I (iAt C g).toNat).toNat i=g
structure Wlk(N:Nat)(nx:Nat→Nat)(C:List Int)(h c i:Nat)(C' : List Int):Prop where
 len:C'.length=N
 le:i≤N
 fresh:∀ j,j<i→iAt C (itN nx h j) = -1
 dis:∀ j k,j<k→k<i→itN nx h j≠itN nx h k
 lab:∀ g,g<N→(∃ j,j<i∧itN nx h j=g)→iAt C' g=c
 oth:∀ g,g<N→(¬ ∃ j,j<i∧itN nx h j=g)→iAt C' g=iAt C g
section
variable {N : Nat} {nx : Nat → Nat} {cr : Nat → Int} {h : Nat} {C I T : List Int}
theorem it_lt(hp:PermN N nx)(hh:h<N):∀ i,itN nx h i<N
 | 0=>hh
 | i+1=>hp.lt _ (it_lt hp hh i)
theorem iAt_set{l:List Int}{i j:Nat}(x:Int)(hi:i<l.length):iAt (l.set i x) j=if j=i then x else iAt l j:=by
 unfold iAt
 split
 ·rename_i e;subst e;simp[List.getD,hi]
 ·rename_i e;simp[List.getD,List.getElem?_set_ne (Ne.symm e)]
theorem Cyc.start(N:Nat)(nx:Nat→Nat)(cr:Nat→Int)(hp:PermN N nx):Cyc N nx cr 0 (List.replicate N (-1)) [] []:=by
 have e:∀ g,g<N→iAt (List.replicate N (-1)) g = -1:=fun g hg=>by simp[iAt,List.getD,hg]
 exact⟨by simp,rfl,by simp,fun g hg=>.inl (e g hg),fun g hg=>absurd hg (Nat.not_lt_zero _),fun g hg=>by rw[e g hg,e _ (hp.lt g hg)],fun c hc=>by simp at hc,fun c d _ hd=>by simp at hd,fun c hc=>by simp at hc,fun g hg h0=>by rw[e g hg] at h0;omega⟩
theorem Cyc.skip(hc:Cyc N nx cr h C I T)(hh:0≤iAt C h):Cyc N nx cr (h+1) C I T :=
 { hc with
  le:=Nat.le_succ_of_le hc.le
  done:=fun g hg hn=>by
   rcases Nat.lt_or_ge g h with k | k
   ·exact hc.done g k hn
   ·obtain rfl:g=h:=by omega
    exact hh
  fst:=fun c h1=>by
   obtain⟨g,e1,e2,e3⟩:=hc.fst c h1
   exact⟨g,e1,by omega,e3⟩ }
theorem Wlk.start(hc:Cyc N nx cr h C I T):Wlk N nx C h I.length 0 C :=
 ⟨hc.lenC,Nat.zero_le _,fun j hj=>absurd hj (Nat.not_lt_zero _),fun j k _ hk=>absurd hk (Nat.not_lt_zero _),fun g _ ⟨j,hj,_⟩=>absurd hj (Nat.not_lt_zero _),fun g _ _=>rfl⟩
theorem Wlk.fresh_cur{c i:Nat}{C' : List Int}(hp:PermN N nx)(hh:h<N)(hw:Wlk N nx C h c i C')(hneg:iAt C' (itN nx h i)<0):(∀ j,j<i→itN nx h j≠itN nx h i):=fun j hj e=>by
 have:=hw.lab _ (it_lt hp hh i) ⟨j,hj,e⟩
 omega
theorem Wlk.step{c i:Nat}{C' : List Int}(hp:PermN N nx)(hh:h<N)(hc:Cyc N nx cr h C I T)(hw:Wlk N nx C h c i C')(hneg:iAt C' (itN nx h i)<0):Wlk N nx C h c (i+1) (C'.set (itN nx h i) c):=by
 have hd:=hw.fresh_cur hp hh hneg
 have hl:=it_lt hp hh i
 have hn:¬ ∃ j,j<i∧itN nx h j=itN nx h i:=fun⟨j,hj,e⟩=>hd j hj e
 have ho:=hw.oth _ hl hn
 have dis' : ∀ j k,j<k→k<i+1→itN nx h j≠itN nx h k:=fun j k h1 h2=>by
  rcases Nat.lt_or_ge k i with k' | k'
  ·exact hw.dis j k h1 k'
  ·obtain rfl:k=i:=by omega
   exact hd j h1
 refine⟨by rw[List.length_set];exact hw.len,?_,fun j hj=>?_,dis',fun g hg ⟨j,hj,e⟩=>?_,fun g hg hne=>?_⟩
 ·have hnd:((List.range (i+1)).map (itN nx h)).Nodup:=by
   unfold List.Nodup
   rw[List.pairwise_map]
   refine List.Pairwise.imp_of_mem ?_ (List.pairwise_lt_range (n:=i+1))
   intro a b ha hb hab
   exact dis' a b hab (List.mem_range.1 hb)
  have:=len_le_of_sub hnd (m:=List.range N) (fun x hx=>by
   obtain⟨j,-,rfl⟩:=List.mem_map.1 hx
   exact List.mem_range.2 (it_lt hp hh j))
  simpa using this
 ·rcases Nat.lt_or_ge j i with k | k
  ·exact hw.fresh j k
  ·obtain rfl:j=i:=by omega
   rcases hc.rng _ hl with e | e
   ·exact e
   ·omega
 ·rw [iAt_set _ (by rw[hw.len];exact hl)]
  split
  ·rfl
  ·rename_i hne
   exact hw.lab g hg ⟨j,by
    rcases Nat.lt_or_ge j i with k | k
    ·exact k
    ·obtain rfl:j=i:=by omega
     exact absurd e.symm hne,e⟩
 ·rw[iAt_set _ (by rw[hw.len];exact hl)]
  have:g≠itN nx h i:=fun e=>hne ⟨i,by omega,e.symm⟩
  rw[if_neg this]
  exact hw.oth g hg fun⟨j,hj,e⟩=>hne ⟨j,by omega,e⟩
theorem Wlk.back{i:Nat}{C' : List Int}(hp:PermN N nx)(hh:h<N)(hc:Cyc N nx cr h C I T)(hw:Wlk N nx C h I.length i C')(h0:iAt C h = -1)(hpos:0≤iAt C' (itN nx h i)):0<i∧itN nx h i=h:=by
 have hlt:=it_lt hp hh i
 have hi:0<i:=by
  rcases Nat.eq_zero_or_pos i with e | e
  ·subst e
   have:=hw.oth h hh (fun⟨j,hj,_⟩=>absurd hj (Nat.not_lt_zero _))
   have e2:itN nx h 0=h:=rfl
   rw[e2] at hpos
   omega
  ·exact e
 refine⟨hi,?_⟩
 have hprev:itN nx h i=nx (itN nx h (i-1)):=by
  obtain⟨k,rfl⟩:∃ k,i=k+1:=⟨i-1,by omega⟩
  rfl
 by_cases hin:∃ j,j<i∧itN nx h j=itN nx h i
 ·obtain⟨j,hj,e⟩:=hin
  rcases Nat.eq_zero_or_pos j with k | k
  ·subst k;exact e.symm
  ·exfalso
   obtain⟨m,rfl⟩:∃ m,j=m+1:=⟨j-1,by omega⟩
   have e2:nx (itN nx h m)=nx (itN nx h (i-1)):=by rw[← hprev,← e];rfl
   have e3:=hp.inj _ _ (it_lt hp hh _) (it_lt hp hh _) e2
   exact hw.dis m (i-1) (by omega) (by omega) e3
 ·exfalso
  have h1:=hw.oth _ hlt hin
  have h2:=hw.fresh (i-1) (by omega)
  have h3:=hc.cls _ (it_lt hp hh (i-1))
  rw[← hprev] at h3
  omega
theorem sum_perm{cr:Nat→Int}{l m:List Nat}(h:l.Perm m):(l.map cr).sum=(m.map cr).sum:=by
 induction h with
 | nil=>rfl
 | cons x _ ih=>simp[ih]
 | swap x y l=>simp;omega
 | trans _ _ h1 h2=>rw[h1,h2]
def sumI(nx:Nat→Nat)(cr:Nat→Int)(h i:Nat):Int:=((List.range i).map fun j=>cr (itN nx h j)).sum
theorem sumI_succ(nx:Nat→Nat)(cr:Nat→Int)(h i:Nat):sumI nx cr h (i+1)=sumI nx cr h i+cr (itN nx h i):=by
 unfold sumI;rw[List.range_succ,List.map_append,List.sum_append];simp
theorem Cyc.step{i:Nat}{C' : List Int}(hp:PermN N nx)(hh:h<N)(hc:Cyc N nx cr h C I T)(hw:Wlk N nx C h I.length i C')(h0:iAt C h = -1)(hpos:0≤iAt C' (itN nx h i)):Cyc N nx cr (h+1) C' (I++[(h:Int)]) (T++[sumI nx cr h i]):=by
 obtain⟨hi,hb⟩:=hw.back hp hh hc h0 hpos
 have hlab:∀ g,g<N→((∃ j,j<i∧itN nx h j=g)↔iAt C' g=(I.length:Int)):=fun g hg=>by
  refine⟨hw.lab g hg,fun e=>?_⟩
  apply Classical.byContradiction
  intro hne
  have:=hw.oth g hg hne
  rcases hc.rng g hg with k | k <;> omega
 have hnew:∀ g,g<N→iAt C' g=(I.length:Int)→iAt C g = -1:=fun g hg e=>by
  obtain⟨j,hj,rfl⟩:=(hlab g hg).2 e
  exact hw.fresh j hj
 have hold:∀ g,g<N→iAt C' g≠(I.length:Int)→iAt C' g=iAt C g:=fun g hg e=>hw.oth g hg fun k=>e ((hlab g hg).1 k)
 have hIl:(I++[(h:Int)]).length=I.length+1:=by simp
 have hIold:∀ c,c<I.length→iAt (I++[(h:Int)]) c=iAt I c:=fun c hc=>by simp[iAt,List.getD,List.getElem?_append_left hc]
 have hInew:iAt (I++[(h:Int)]) I.length=h:=by simp[iAt,List.getD]
 have hTold:∀ c,c<I.length→iAt (T++[sumI nx cr h i]) c=iAt T c:=fun c hc' => by simp[iAt,List.getD,List.getElem?_append_left (show c<T.length by rw[hc.lenT];exact hc')]
 have hTnew:iAt (T++[sumI nx cr h i]) I.length=sumI nx cr h i:=by rw[← hc.lenT];simp[iAt,List.getD]
 have hcls:∀ g,g<N→iAt C' (nx g)=iAt C' g:=fun g hg=>by
  by_cases e:iAt C' g=(I.length:Int)
  ·obtain⟨j,hj,rfl⟩:=(hlab g hg).2 e
   rw[e]
   refine(hlab _ (hp.lt _ hg)).1 ?_
   rcases Nat.lt_or_ge (j+1) i with k | k
   ·exact⟨j+1,k,rfl⟩
   ·have:j+1=i:=by omega
    refine⟨0,hi,?_⟩
    show h=itN nx h (j+1)
    rw[this,hb]
  ·have e2:iAt C' (nx g)≠(I.length:Int):=fun k=>by
    have h1:=hnew _ (hp.lt g hg) k
    rw[hc.cls g hg] at h1
    obtain⟨j,hj,ej⟩:=(hlab _ (hp.lt g hg)).2 k
    rcases Nat.eq_zero_or_pos j with q | q
    ·subst q
     have e3:nx g=nx (itN nx h (i-1)):=by
      rw[← ej]
      show h=_
      obtain⟨k,rfl⟩:∃ k,i=k+1:=⟨i-1,by omega⟩
      exact hb.symm
     have e4:=hp.inj _ _ hg (it_lt hp hh _) e3
     exact e ((hlab g hg).1 ⟨i-1,by omega,e4.symm⟩)
    ·obtain⟨m,rfl⟩:∃ m,j=m+1:=⟨j-1,by omega⟩
     have e4:=hp.inj _ _ (it_lt hp hh m) hg ej
     exact e ((hlab g hg).1 ⟨m,by omega,e4⟩)
   rw[hold _ (hp.lt g hg) e2,hold g hg e,hc.cls g hg]
 refine⟨hw.len,by simp[hc.lenT],by rw[hIl];have:=hc.le;omega,fun g hg=>?_,fun g hg hn=>?_,hcls,fun c hcl=>?_,fun c d hcd hd=>?_,fun c hcl=>?_,fun g hg h0g=>?_⟩
 ·by_cases e:iAt C' g=(I.length:Int)
  ·right;rw[e,hIl];omega
  ·rw[hold g hg e,hIl]
   rcases hc.rng g hg with k | k
   ·exact .inl k
   ·right;omega
 ·by_cases e:iAt C' g=(I.length:Int)
  ·rw[e];omega
  ·rw[hold g hn e]
   rcases Nat.lt_or_ge g h with k | k
   ·exact hc.done g k hn
   ·obtain rfl:g=h:=by omega
    exact absurd ((hlab g hn).1 ⟨0,hi,rfl⟩) e
 ·rw[hIl] at hcl
  rcases Nat.lt_or_ge c I.length with k | k
  ·obtain⟨g,e1,e2,e3,e4,e5⟩:=hc.fst c k
   refine⟨g,by rw[hIold c k];exact e1,by omega,e3,?_,fun g' hg' e' => ?_⟩
   ·rw[hold g e3 (fun e=>by have:=hnew g e3 e;omega)];exact e4
   ·exact e5 g' hg' (by rw[← hold g' hg' (by omega)];exact e')
  ·obtain rfl:c=I.length:=by omega
   refine⟨h,hInew,by omega,hh,(hlab h hh).1 ⟨0,hi,rfl⟩,fun g' hg' e' => ?_⟩
   have h1:=hnew g' hg' e'
   rcases Nat.lt_or_ge g' h with q | q
   ·have:=hc.done g' q hg';omega
   ·exact q
 ·rw[hIl] at hd
  rcases Nat.lt_or_ge d I.length with k | k
  ·rw[hIold c (by omega),hIold d k];exact hc.inc c d hcd k
  ·obtain rfl:d=I.length:=by omega
   rw[hIold c hcd,hInew]
   obtain⟨g,e1,e2,-⟩:=hc.fst c hcd
   omega
 ·rw [hIl] at hcl
  rcases Nat.lt_or_ge c I.length with k | k
  ·rw[hTold c k,hc.sum c k]
   unfold sumC
   congr 2
   refine List.filter_congr fun g hg=>?_
   have hgN:=List.mem_range.1 hg
   by_cases e:iAt C' g=(I.length:Int)
   ·have:=hnew g hgN e
    rw[e,this]
    simp;omega
   ·rw[hold g hgN e]
  ·obtain rfl:c=I.length:=by omega
   rw[hTnew]
   unfold sumI sumC
   have:((List.range i).map fun j=>cr (itN nx h j))=(((List.range i).map (itN nx h)).map cr):=by rw[List.map_map];rfl
   rw[this]
   refine sum_perm ?_
   refine(List.perm_ext_iff_of_nodup ?_ ((List.nodup_range).filter _)).2 fun g=>?_
   ·unfold List.Nodup
    rw[List.pairwise_map]
    refine List.Pairwise.imp_of_mem ?_ (List.pairwise_lt_range (n:=i))
    intro a b ha hb' hab
    exact hw.dis a b hab (List.mem_range.1 hb')
   ·rw[List.mem_map,List.mem_filter,decide_eq_true_eq]
    constructor
    ·rintro⟨j,hj,rfl⟩
     have hl:=it_lt hp hh j
     exact⟨List.mem_range.2 hl,(hlab _ hl).1 ⟨j,List.mem_range.1 hj,rfl⟩⟩
    ·rintro⟨hg,e⟩
     obtain⟨j,hj,e2⟩:=(hlab g (List.mem_range.1 hg)).2 e
     exact⟨j,List.mem_range.2 hj,e2⟩
 ·by_cases e:iAt C' g=(I.length:Int)
  ·obtain⟨j,hj,ej⟩:=(hlab g hg).2 e
   refine⟨j,?_⟩
   rw[e,Int.toNat_natCast,hInew,Int.toNat_natCast]
   exact ej
  ·rw[hold g hg e] at h0g ⊢
   obtain⟨j,hj⟩:=hc.one g hg h0g
   refine⟨j,?_⟩
   rw[hIold]
   ·exact hj
   ·rcases hc.rng g hg with k | k <;> omega
end
end
section
def prtI(te:Int→Nat)(v:Int):List Int→List Int×List Int→List Int×List Int
 | [],s=>s
 | h :: hs,s=>prtI te v hs (if iAt s.1 (te h)<0 then(s.1.set (te h) v,s.2++[((te h:Nat):Int)]) else s)
def prtQ(te:Int→Nat)(R:Nat→List Int)(v:Int):Nat→List Int×List Int→List Int
 | 0,s=>s.1
 | m+1,s=>match s.2 with
  | []=>s.1
  | t :: q=>prtQ te R v m ((prtI te v (R t.toNat) s).1,(prtI te v (R t.toNat) s).2.drop 1)
def negs(A:List Int):Nat:=(A.filter fun x=>decide (x<0)).length
def prtV(te:Int→Nat)(R:Nat→List Int)(A:List Int)(v:Nat):List Int :=
 if 0≤iAt A v then A else prtQ te R v (A.length+1) (A.set v v,[(v:Int)])
def prtK(te:Int→Nat)(R:Nat→List Int)(V k:Nat):List Int:=(List.range k).foldl (prtV te R) (List.replicate V (-1))
section
variable {te : Int → Nat} {R : Nat → List Int} {v : Int} {V : Nat}
theorem prtK_succ(k:Nat):prtK te R V (k+1)=prtV te R (prtK te R V k) k:=by
 unfold prtK;rw[List.range_succ,List.foldl_append];rfl
theorem negs_set{A:List Int}{w:Nat}{x:Int}(hw:w<A.length)(hn:iAt A w<0)(hx:0≤x):negs (A.set w x)+1=negs A:=by
 induction A generalizing w with
 | nil=>simp at hw
 | cons a A ih =>
  cases w with
  | zero =>
   have ha:a<0:=by simpa[iAt] using hn
   have hx2:¬ x<0:=by omega
   unfold negs
   rw[List.set_cons_zero,List.filter_cons,List.filter_cons,if_neg (by simpa using hx),if_pos (by simpa using ha),List.length_cons]
  | succ w =>
   have hw2:w<A.length:=by simpa using hw
   have:=ih hw2 (by simpa[iAt] using hn)
   unfold negs at this ⊢
   rw[List.set_cons_succ,List.filter_cons,List.filter_cons]
   split <;> (try simp only[List.length_cons]) <;> omega
structure PrtS(V:Nat)(m:Nat)(s:List Int×List Int):Prop where
 len:s.1.length=V
 q:∀ x∈s.2,∃ w:Nat,x=w∧w<V
 meas:negs s.1+s.2.length≤m
theorem prtI_ok{m:Nat}(hv:0≤v):∀ (hs:List Int) (s:List Int×List Int),(∀ h∈hs,te h<V)→PrtS V m s→PrtS V m (prtI te v hs s)
 | [],s,_,h=>h
 | h :: hs,s,ht,hp=>by
  refine prtI_ok hv hs _ (fun x hx=>ht x (List.mem_cons_of_mem _ hx)) ?_
  split
  ·rename_i hn
   have hw:=ht h (List.mem_cons_self ..)
   refine⟨by rw[List.length_set];exact hp.len,fun x hx=>?_,?_⟩
   ·rcases List.mem_append.1 hx with k | k
    ·exact hp.q x k
    ·exact⟨te h,by simpa using k,hw⟩
   ·have:=negs_set (x:=v) (by rw[hp.len];exact hw) hn hv
    have:=hp.meas
    simp only[List.length_append,List.length_cons,List.length_nil]
    omega
  ·exact hp
theorem prtI_grow(hs:List Int)(s:List Int×List Int):∃ l,(prtI te v hs s).2=s.2++l:=by
 induction hs generalizing s with
 | nil=>exact⟨[],by simp[prtI]⟩
 | cons h hs ih =>
  obtain⟨l,hl⟩:=ih (if iAt s.1 (te h)<0 then(s.1.set (te h) v,s.2++[((te h:Nat):Int)]) else s)
  unfold prtI
  rw[hl]
  split
  ·exact⟨[((te h:Nat):Int)]++l,by simp⟩
  ·exact⟨l,rfl⟩
theorem prtI_app(a b:List Int)(s:List Int×List Int):prtI te v (a++b) s=prtI te v b (prtI te v a s):=by
 induction a generalizing s with
 | nil=>rfl
 | cons h a ih=>exact ih _
theorem prtI_take{l:List Int}{j:Nat}(hj:j<l.length)(s:List Int×List Int) :
  prtI te v (l.take (j+1)) s=(if iAt (prtI te v (l.take j) s).1 (te (iAt l j))<0 then((prtI te v (l.take j) s).1.set (te (iAt l j)) v,(prtI te v (l.take j) s).2++[((te (iAt l j):Nat):Int)]) else prtI te v (l.take j) s):=by
 have e:l.take (j+1)=l.take j++[iAt l j]:=by
  rw[List.take_succ_eq_append_getElem hj]
  simp[iAt,List.getD,hj]
 rw[e,prtI_app]
 rfl
theorem prtS_start{A:List Int}{w:Nat}(hl:A.length=V)(hw:w<V)(hn:iAt A w<0):PrtS V V (A.set w w,[(w:Int)]):=by
 have h1:=negs_set (x:=(w:Int)) (by rw[hl];exact hw) hn (by omega)
 have h2:negs A≤A.length:=List.length_filter_le _ _
 refine⟨by rw[List.length_set];exact hl,fun x hx=>⟨w,by simpa using hx,hw⟩,?_⟩
 simp only[List.length_cons,List.length_nil]
 omega
theorem prtS_next{m:Nat}{t:Int}{q:List Int}{A:List Int}(hv:0≤v)(hR:∀ w,w<V→∀ h∈R w,te h<V)(hp:PrtS V (m+1) (A,t :: q)) :
  PrtS V m ((prtI te v (R t.toNat) (A,t :: q)).1,(prtI te v (R t.toNat) (A,t :: q)).2.drop 1):=by
 obtain⟨w,rfl,hw⟩:=hp.q t (List.mem_cons_self ..)
 have h2:=prtI_ok hv (R (w:Int).toNat) _ (fun h hh=>hR w hw h (by simpa using hh)) hp
 obtain⟨l,hl⟩:=prtI_grow (te:=te) (v:=v) (R (w:Int).toNat) (A,(w:Int) :: q)
 refine⟨h2.len,fun x hx=>h2.q x (List.mem_of_mem_drop hx),?_⟩
 have:=h2.meas
 rw[hl] at this ⊢
 simp only[List.length_append,List.length_cons,List.length_drop] at this ⊢
 omega
theorem prtQ_len{m:Nat}(hv:0≤v)(hR:∀ w,w<V→∀ h∈R w,te h<V):∀ (m:Nat) (s:List Int×List Int),PrtS V m s→(prtQ te R v m s).length=V
 | 0,s,h=>h.len
 | m+1,(A,[]),h=>h.len
 | m+1,(A,t :: q),h=>prtQ_len (m:=m) hv hR m _ (prtS_next hv hR h)
theorem prtQ_more:∀ (m k:Nat) (s:List Int×List Int),(∀ x∈s.2,∃ w:Nat,x=w∧w<V)→s.1.length=V→0≤v→(∀ w,w<V→∀ h∈R w,te h<V)→negs s.1+s.2.length≤m→m≤k→prtQ te R v k s=prtQ te R v m s
 | 0,k,(A,q),hq,hl,hv,hR,hm,hk=>by
  have:q=[]:=List.eq_nil_of_length_eq_zero (by simp only at hm;omega)
  subst this
  cases k <;> rfl
 | m+1,0,s,_,_,_,_,_,hk=>absurd hk (by omega)
 | m+1,k+1,(A,[]),_,_,_,_,_,_=>rfl
 | m+1,k+1,(A,t :: q),hq,hl,hv,hR,hm,hk=>by
  have:=prtS_next hv hR (⟨hl,hq,hm⟩:PrtS V (m+1) (A,t :: q))
  exact prtQ_more m k _ this.q this.len hv hR this.meas (by omega)
theorem prtV_len{A:List Int}{k:Nat}(hR:∀ w,w<V→∀ h∈R w,te h<V)(hl:A.length=V)(hk:k<V):(prtV te R A k).length=V:=by
 unfold prtV
 split
 ·exact hl
 ·have:=prtS_start hl hk (by omega)
  have h2:PrtS V (A.length+1) (A.set k k,[(k:Int)]):=⟨this.len,this.q,by have:=this.meas;omega⟩
  exact prtQ_len (m:=0) (by omega) hR _ _ h2
theorem prtK_len(hR:∀ w,w<V→∀ h∈R w,te h<V):∀ k,k≤V→(prtK te R V k).length=V
 | 0,_=>by simp[prtK]
 | k+1,hk=>by rw[prtK_succ];exact prtV_len hR (prtK_len hR k (by omega)) (by omega)
end
end
section
def crsB(P:List Pt2)(fr:Nat→Nat)(p:Pt2)(g:Nat):Bool :=
 (decide ((pAt P (fr g)).2≤p.2) != decide ((pAt P (fr (twN g))).2≤p.2)) && (decide (0<turnV (pAt P (fr g)).1 (pAt P (fr g)).2 (pAt P (fr (twN g))).1 (pAt P (fr (twN g))).2 p.1 p.2) == decide ((pAt P (fr g)).2<(pAt P (fr (twN g))).2))
def insI(P:List Pt2)(fr nx:Nat→Nat)(p:Pt2)(h n:Nat):Bool:=(List.range n).foldl (fun b i=>if crsB P fr p (itN nx h i) then !b else b) false
theorem insI_succ(P:List Pt2)(fr nx:Nat→Nat)(p:Pt2)(h n:Nat):insI P fr nx p h (n+1)=if crsB P fr p (itN nx h n) then !insI P fr nx p h n else insI P fr nx p h n:=by
 unfold insI;rw[List.range_succ,List.foldl_append];rfl
def RndN(nx:Nat→Nat)(h n:Nat):Prop:=0<n∧itN nx h n=h∧∀ j,0<j→j<n→itN nx h j≠h
theorem RndN.uniq{nx:Nat→Nat}{h n m:Nat}(a:RndN nx h n)(b:RndN nx h m):n=m:=by
 rcases Nat.lt_trichotomy n m with k | k | k
 ·exact absurd a.2.1 (b.2.2 n a.1 k)
 ·exact k
 ·exact absurd b.2.1 (a.2.2 m b.1 k)
theorem it_back{N:Nat}{nx:Nat→Nat}(hp:PermN N nx){h:Nat}(hh:h<N):∀ i j,i≤j→itN nx h i=itN nx h j→itN nx h (j-i)=h
 | 0,j,_,e=>by rw[Nat.sub_zero];exact e.symm
 | i+1,j,hij,e=>by
  obtain⟨k,rfl⟩:∃ k,j=k+1:=⟨j-1,by omega⟩
  have e2:=hp.inj _ _ (it_lt hp hh i) (it_lt hp hh k) e
  have:=it_back hp hh i k (by omega) e2
  rw[show k+1-(i+1)=k-i by omega]
  exact this
theorem exists_least{Q:Nat→Prop}:∀ n,Q n→∃ m,Q m∧∀ j,j<m→¬ Q j:=by
 intro n
 induction n using Nat.strongRecOn with
 | _ n ih =>
  intro hn
  by_cases h:∃ j,j<n∧Q j
  ·obtain⟨j,hj,hq⟩:=h
   exact ih j hj hq
  ·exact⟨n,hn,fun j hj hq=>h ⟨j,hj,hq⟩⟩
theorem PermN.round{N:Nat}{nx:Nat→Nat}(hp:PermN N nx){h:Nat}(hh:h<N):∃ n,RndN nx h n∧n≤N:=by
 have hex:∃ i j,i<j∧j≤N∧itN nx h i=itN nx h j:=by
  apply Classical.byContradiction
  intro hne
  have hnd:((List.range (N+1)).map (itN nx h)).Nodup:=by
   unfold List.Nodup
   rw[List.pairwise_map]
   refine List.Pairwise.imp_of_mem ?_ (List.pairwise_lt_range (n:=N+1))
   intro a b ha hb hab e
   exact hne ⟨a,b,hab,by have:=List.mem_range.1 hb;omega,e⟩
  have:=len_le_of_sub hnd (m:=List.range N) (fun x hx=>by
   obtain⟨j,-,rfl⟩:=List.mem_map.1 hx
   exact List.mem_range.2 (it_lt hp hh j))
  simp at this
  omega
 obtain⟨i,j,hij,hj,e⟩:=hex
 have hb:=it_back hp hh i j (by omega) e
 obtain⟨m,⟨hm0,hm⟩,hl⟩:=exists_least (Q:=fun n=>0<n∧itN nx h n=h) (j-i) ⟨by omega,hb⟩
 refine⟨m,⟨hm0,hm,fun k hk hkm e=>hl k hkm ⟨hk,e⟩⟩,?_⟩
 rcases Nat.lt_or_ge (j-i) m with k | k
 ·exact absurd ⟨by omega,hb⟩ (hl _ k)
 ·omega
noncomputable def insV(P:List Pt2)(fr nx:Nat→Nat)(p:Pt2)(h:Nat):Bool := @decide (∃ n,RndN nx h n∧insI P fr nx p h n=true) (Classical.propDecidable _)
theorem insV_eq{P:List Pt2}{fr nx:Nat→Nat}{p:Pt2}{h n:Nat}(hr:RndN nx h n):insV P fr nx p h=insI P fr nx p h n:=by
 unfold insV
 cases hb:insI P fr nx p h n with
 | true=>exact @decide_eq_true _ (Classical.propDecidable _) ⟨n,hr,hb⟩
 | false =>
  refine @decide_eq_false _ (Classical.propDecidable _) ?_
  rintro⟨m,hm,e⟩
  rw[hm.uniq hr] at e
  rw[hb] at e
  cases e
def fac1(I T:List Int)(m:Nat):List Int×List Int :=
 (List.range m).foldl (fun s c=>if 0<iAt T c then(s.1.set c s.2.length,s.2++[iAt I c]) else s) (List.replicate I.length 0,[-1])
theorem fac1_succ(I T:List Int)(m:Nat):fac1 I T (m+1)=if 0<iAt T m then((fac1 I T m).1.set m (fac1 I T m).2.length,(fac1 I T m).2++[iAt I m]) else fac1 I T m:=by
 unfold fac1;rw[List.range_succ,List.foldl_append];rfl
theorem fac1_len(I T:List Int):∀ m,(fac1 I T m).1.length=I.length
 | 0=>by simp[fac1]
 | m+1=>by
  rw[fac1_succ]
  split
  ·rw[List.length_set];exact fac1_len I T m
  ·exact fac1_len I T m
theorem fac1_lenF(I T:List Int):∀ m,0<(fac1 I T m).2.length∧(fac1 I T m).2.length≤m+1
 | 0=>by simp[fac1]
 | m+1=>by
  have:=fac1_lenF I T m
  rw[fac1_succ]
  split
  ·simp only[List.length_append,List.length_cons,List.length_nil];omega
  ·omega
section
variable (P : List Pt2) (fr nx : Nat → Nat) (I T A : List Int)
def frC(c:Nat):Nat:=fr (iAt I c).toNat
def betB(c:Nat)(b:Int)(d:Nat):Prop:=0<iAt T d∧iAt A (frC fr I d)≠iAt A (frC fr I c)∧(b<0∨iAt T d<iAt T b.toNat)∧insV P fr nx (pAt P (frC fr I c)) (iAt I d).toNat=true
open Classical in
noncomputable def bstV(c m:Nat):Int:=(List.range m).foldl (fun b d=>if betB P fr nx I T A c b d then(d:Int) else b) (-1)
open Classical in
theorem bstV_succ(c m:Nat):bstV P fr nx I T A c (m+1)=if betB P fr nx I T A c (bstV P fr nx I T A c m) m then(m:Int) else bstV P fr nx I T A c m:=by
 unfold bstV;rw[List.range_succ,List.foldl_append];rfl
theorem bstV_rng(c:Nat):∀ m,bstV P fr nx I T A c m = -1∨∃ d:Nat,bstV P fr nx I T A c m=d∧d<m
 | 0=>.inl rfl
 | m+1=>by
  rw[bstV_succ]
  split
  ·exact .inr ⟨m,rfl,Nat.lt_succ_self m⟩
  ·rcases bstV_rng c m with k | ⟨d,k,h⟩
   ·exact .inl k
   ·exact .inr ⟨d,k,by omega⟩
noncomputable def fac2(m:Nat):List Int :=
 (List.range m).foldl (fun f c=>if 0<iAt T c then f else if 0≤bstV P fr nx I T A c I.length then f.set c (iAt f (bstV P fr nx I T A c I.length).toNat) else f) (fac1 I T I.length).1
theorem fac2_succ(m:Nat):fac2 P fr nx I T A (m+1)=if 0<iAt T m then fac2 P fr nx I T A m else if 0≤bstV P fr nx I T A m I.length then(fac2 P fr nx I T A m).set m (iAt (fac2 P fr nx I T A m) (bstV P fr nx I T A m I.length).toNat) else fac2 P fr nx I T A m:=by
 unfold fac2;rw[List.range_succ,List.foldl_append];rfl
theorem fac2_len:∀ m,(fac2 P fr nx I T A m).length=I.length
 | 0=>by show(fac1 I T I.length).1.length=_;exact fac1_len I T _
 | m+1=>by
  rw[fac2_succ]
  split
  ·exact fac2_len m
  ·split
   ·rw[List.length_set];exact fac2_len m
   ·exact fac2_len m
end
def fac3(f C F:List Int)(n:Nat):List Int:=(List.range n).foldl (fun F h=>if iAt f (iAt C h).toNat=0∧iAt F 0<0 then F.set 0 (h:Int) else F) F
theorem fac3_succ(f C F:List Int)(n:Nat):fac3 f C F (n+1)=if iAt f (iAt C n).toNat=0∧iAt (fac3 f C F n) 0<0 then(fac3 f C F n).set 0 (n:Int) else fac3 f C F n:=by
 unfold fac3;rw[List.range_succ,List.foldl_append];rfl
theorem fac3_len(f C F:List Int):∀ n,(fac3 f C F n).length=F.length
 | 0=>rfl
 | n+1=>by
  rw[fac3_succ]
  split
  ·rw[List.length_set];exact fac3_len f C F n
  ·exact fac3_len f C F n
end
section
open Go.RowKit Go.BigFrame
theorem run_append_suf{w:World}{B g o n c:Nat}{L:List Int}(ty:TypeId)(hown:w.ownsRow B 3 1 (.slice (some ⟨g,0,none⟩) (o+n) (o+c)) (o+n) (L.map iV))(hB:B≤w.heap.size)(a:Addr)(c2:Nat)(x:Int)(hnews:∀ j u,[iV x][j]? = some u→w.cell? (a.add j)=some u)(hb:o+n≤1000000000) :
  ∃ (g' o' c' : Nat) (L' : List Int) (w' : World),(Builtin.append_ #[22,22] ty #[.slice (some ⟨g,o,none⟩) n c,.slice (some a) 1 c2]).run Tryz.prog w=.ok (.slice (some ⟨g',o',none⟩) (n+1) c') w' ∧
   w'.ownsRow B 3 1 (.slice (some ⟨g',0,none⟩) (o' + (n+1)) (o' + c')) (o' + (n+1)) (L'.map iV)∧L'.drop o' = L.drop o++[x]∧w.grownBy w' (some g)∧(g' = g∨w.heap.size≤g')∧o' ≤ o:=by
 obtain⟨i0,hi,hz,hz1,hz2⟩:=info_parts infoI
 obtain⟨hl,⟨h1,-⟩ | ⟨g1,cap,cur,h1,hBg,hg,hc,hm,hs,ht⟩⟩:=hown
 ·cases h1
 injection h1 with h1 _ h3
 injection h1 with h1
 injection h1 with h1
 subst h1 h3
 rw[Nat.mul_one] at hs ht hl
 have hLl:L.length=o+n:=by simpa using hl
 have hnc:n≤c:=by omega
 have cellOf:∀ j,j<o+n→w.cell? ⟨g,j,none⟩=(L.map iV)[j]? := fun j hj=>by
  rw[Blk.cell hg j,← ht,List.getElem?_take,if_pos hj]
  simp
 rcases Nat.lt_or_ge c (n+1) with hlt | hge
 ·have hll:((L.drop o).map iV).length=n:=by simp[hLl]
  have hr:=run_append_grow (P:=Tryz.prog) w 22 ty 3 i0 _ Tryz.underlying22 hi hz ⟨g,o,none⟩ n c ((L.drop o).map iV) (by rw[hz1,hll,Nat.mul_one]) (fun j u hj=>by
   have hjn:j<n:=by rw[← hll];exact(List.getElem?_eq_some_iff.1 hj).1
   rw[Addr.add_lit]
   rw[cellOf (o+j) (by omega)]
   rw[List.getElem?_map,List.getElem?_drop] at hj
   rw[List.getElem?_map]
   exact hj) a 1 c2 [iV x] (by rw[hz1];rfl) hnews hlt (by omega) (by
    rw[hz2]
    refine growslice_fits hlt ?_
    omega)
  have hge:=grownCap_ge w (n+1) c 3
  have hcm:grownCap w (n+1) c 3≤maxLen:=grownCap_le_maxLen w (n+1) c 3 (by unfold maxLen;omega)
  refine⟨w.heap.size,0,_,L.drop o++[x],_,hr,⟨by simp[hLl],.inr ⟨w.heap.size,0+grownCap w (n+1) c 3,_,rfl,hB,heap_alloc_new w.drew _,by omega,by omega,?_,?_⟩⟩,by simp,⟨rfl,rfl,rfl,by simp,fun k hk _=>heap_alloc_old w.drew _ hk⟩,.inr (Nat.le_refl _),Nat.zero_le _⟩
  ·simp only[Array.size_append,List.size_toArray,size_zeroCells,hll,List.length_cons,List.length_nil,show(Value.int IntKind.i64 0).cells.size=1 from rfl]
   omega
  ·simp only[Array.toList_append,List.append_assoc,List.map_append,List.map_cons,List.map_nil]
   rw[← List.append_assoc]
   refine List.take_left' ?_
   simp[hLl]
 ·have hcs:(w.cell? ⟨g,o+n,none⟩).isSome=true:=by
   rw[Blk.cell hg (o+n),Array.getElem?_eq_getElem (by omega)]
   rfl
  have hr:=run_append_room_cells (P:=Tryz.prog) w 22 ty 3 i0 Tryz.underlying22 hi g o n c a 1 c2 [iV x] (by rw[hz1];rfl) hnews (fun u hu=>by rw[List.mem_singleton.1 hu];rfl) hge (fun j hj=>by
   have:j=0:=by simpa using hj
   subst this
   rw[hz1];simpa using hcs) (fun j hj=>Blk.frozen hg _)
  rw[hz1,Nat.mul_one] at hr
  refine⟨g,o,c,L++[x],_,hr,⟨by simp[hLl];omega,.inr ⟨g,o+c,cur.setIfInBounds (o+n) (iV x),rfl,hBg,Blk.set_ hg (o+n) (iV x),by omega,hm,by simp[hs],?_⟩⟩,?_,set_grown w ⟨g,o+n,none⟩ (iV x),.inl rfl,Nat.le_refl _⟩
  ·rw[Nat.mul_one,Array.toList_setIfInBounds,List.map_append,← ht]
   have hcl:cur.toList.length=o+c:=by simp[hs]
   apply List.ext_getElem?
   intro j
   rw[List.getElem?_take]
   rcases Nat.lt_or_ge j (o+n) with k | k
   ·rw[if_pos (by omega),List.getElem?_append_left (by rw[List.length_take];omega),List.getElem?_take,if_pos k,List.getElem?_set_ne (by omega)]
   ·rw[List.getElem?_append_right (by rw[List.length_take];omega),List.length_take,Nat.min_eq_left (by omega)]
    rcases Nat.lt_or_ge j (o+n+1) with k2 | k2
    ·obtain rfl:j=o+n:=by omega
     rw[if_pos (by omega),List.getElem?_set_self (by omega)]
     simp
    ·rw[if_neg (by omega)]
     symm
     refine List.getElem?_eq_none ?_
     simp;omega
  ·rw[List.drop_append_of_le_length (by omega)]
theorem wpList_append_suf{P:Program}{w:World}{ops:Array Oper}{rest:List Oper}{o:Oper}{a:Act}{Q:Exit→Act→World→Prop}(hgd:o.guard=none)(s x:Operand)
  (ho:o.op=.call { callee:=.builtin .append,args := #[s,x],argTypes := #[22,22] }) {v:Value} {ad:Addr} {c:Nat} (hs:a.eval s=v) (hx:a.eval x=.slice (some ad) 1 c) {R:Value→World→Prop}
  (hr:∃ v' w',(Builtin.append_ #[22,22] o.type #[v,.slice (some ad) 1 c]).run P w=.ok v' w' ∧ R v' w')
  (h:∀ v' w',R v' w' → wpList P ops Q rest (a.put o.dst v') w'):wpList P ops Q (o :: rest) a w :=
 wpList_plain hgd fun _ hK=>by
  obtain⟨v',w',hr,hR⟩:=hr
  unfold Oper.wp execOp
  simp only[ho,resolve,invoke,builtin,Sem.run_bind,Sem.run_pure,Result.andThen_ok,List.map_toArray,List.map_cons,List.map_nil,hs,hx,hr]
  exact hK _ _ (h v' w' hR)
def QueS(w:World)(B:Nat)(R:List Rw)(v:Value)(q:List Int)(k:Nat):Prop :=
 ∃ a c,v=.slice a q.length c∧((q=[]∧Rws w B R)∨∃ g o L,a=some ⟨g,o,none⟩∧o≤k∧L.drop o=q∧L.length=o+q.length∧Rws w B (R++[rI (.slice (some ⟨g,0,none⟩) (o+q.length) (o+c)) L]))
theorem Rws.init{w:World}{B:Nat}{R M:List Rw}(h:Rws w B (R++M)):Rws w B R :=
 ⟨fun i r hi=>h.ok i r (by rw[List.getElem?_append_left (List.getElem?_eq_some_iff.1 hi).1];exact hi),fun i j r s hij hi hj=>h.ap i j r s hij (by rw[List.getElem?_append_left (List.getElem?_eq_some_iff.1 hi).1];exact hi) (by rw[List.getElem?_append_left (List.getElem?_eq_some_iff.1 hj).1];exact hj)⟩
section
variable {w w' : World} {B k : Nat} {R : List Rw} {v : Value} {q : List Int}
theorem QueS.rows(h:QueS w B R v q k):Rws w B R:=by
 obtain⟨a,c,-,⟨-,h⟩ | ⟨g,o,L,-,-,-,-,h⟩⟩:=h
 ·exact h
 ·exact h.init
theorem QueS.since(h:QueS w B R v q k)(hs:Since w w'):QueS w' B R v q k:=by
 obtain⟨a,c,hv,⟨e,h⟩ | ⟨g,o,L,h1,h0,h2,h3,h⟩⟩:=h
 ·exact⟨a,c,hv,.inl ⟨e,h.since hs⟩⟩
 ·exact⟨a,c,hv,.inr ⟨g,o,L,h1,h0,h2,h3,h.since hs⟩⟩
theorem QueS.store(h:QueS w B R v q k){i:Nat}{r:Rw}(hi:R[i]? = some r){g n c:Nat}(hv:r.v=.slice (some ⟨g,0,none⟩) n c){j:Nat}(hj:j<r.n*r.k)(u:Value):QueS (w.setCell ⟨g,j,none⟩ u) B (R.set i { r with xs:=r.xs.set j u }) v q k:=by
 have hil:=(List.getElem?_eq_some_iff.1 hi).1
 obtain⟨a,c',hv',⟨e,h⟩ | ⟨g',o,L,h1,h0,h2,h3,h⟩⟩:=h
 ·exact⟨a,c',hv',.inl ⟨e,h.store hi hv hj u⟩⟩
 ·refine⟨a,c',hv',.inr ⟨g',o,L,h1,h0,h2,h3,?_⟩⟩
  have:=h.store (i:=i) (r:=r) (by rw[List.getElem?_append_left hil];exact hi) hv hj u
  rw[List.set_append_left _ _ hil] at this
  exact this
theorem QueS.start(h:Rws w B R)(hB:B≤w.heap.size)(x:Int):QueS (w.alloc (.cells #[iV x] 3)) B R (.slice (some ⟨w.heap.size,0,none⟩) 1 1) [x] 0:=by
 have h2:=(h.more [⟨.slice none 0 0,3,1,0,[]⟩] (fun r hr=>by rw[List.mem_singleton.1 hr];exact⟨rfl,rfl,rfl⟩)).fresh (w' := w.alloc (.cells #[iV x] 3)) (i:=R.length) (rI (.slice (some ⟨w.heap.size,0,none⟩) 1 1) [x]) (by rw[List.getElem?_append_right (Nat.le_refl _),Nat.sub_self];rfl) ((Since.rfl_ w).alloc _) hB
  ⟨rfl,.inr ⟨w.heap.size,1,_,rfl,Nat.le_refl _,heap_alloc_new w _,Nat.le_refl _,by unfold maxLen;omega,rfl,rfl⟩⟩
 rw[List.set_append_right _ _ (Nat.le_refl _),Nat.sub_self] at h2
 exact⟨_,1,rfl,.inr ⟨w.heap.size,0,[x],rfl,Nat.le_refl _,rfl,rfl,h2⟩⟩
theorem QueS.head{t:Int}(h:QueS w B R v (t :: q) k):∃ g o c,v=.slice (some ⟨g,o,none⟩) (q.length+1) c∧q.length+1≤c∧w.cell? ⟨g,o,none⟩=some (.int .i64 t):=by
 obtain⟨a,c,hv,⟨e,-⟩ | ⟨g,o,L,rfl,-,h2,h3,h⟩⟩:=h
 ·cases e
 ·have hr:=h.ok R.length _ (by rw[List.getElem?_append_right (Nat.le_refl _),Nat.sub_self];rfl)
  simp only[rI] at hr
  rw[h3] at hr
  refine⟨g,o,c,hv,?_,?_⟩
  ·obtain⟨-,⟨h1,-⟩ | ⟨g1,cap,cur,h1,-,-,hc,-⟩⟩:=hr
   ·cases h1
   ·injection h1 with _ _ h4
    simp only[List.length_cons] at h4 hc
    omega
  ·have:=hr.cellAt (j:=o) (by simp only[List.length_cons];omega)
   rw[this]
   have e2:L[o]? = some t:=by
    have:=congrArg (fun l=>l[0]?) h2
    simpa using this
   simp[rI,iV,e2]
theorem QueS.tail{g o c:Nat}{t:Int}(h:QueS w B R (.slice (some ⟨g,o,none⟩) (q.length+1) c) (t :: q) k)(a:Option Addr)(ha:1<c→a=some ⟨g,o+1,none⟩):QueS w B R (.slice a q.length (c-1)) q (k+1):=by
 obtain⟨a',c',hv,⟨e,-⟩ | ⟨g',o',L,h1,h0,h2,h3,h⟩⟩:=h
 ·cases e
 ·injection hv with hv1 _ hv3
  rw[h1] at hv1
  injection hv1 with hv1
  injection hv1 with e1 e2
  subst e1 e2 hv3
  by_cases hq:q=[]
  ·subst hq
   exact⟨a,c-1,rfl,.inl ⟨rfl,h.init⟩⟩
  ·have hql:0<q.length:=List.length_pos_iff.2 hq
   have hr:=h.ok R.length _ (by rw[List.getElem?_append_right (Nat.le_refl _),Nat.sub_self];rfl)
   have hc1:q.length+1≤c:=by
    simp only[rI] at hr
    rw[h3] at hr
    obtain⟨-,⟨h1,-⟩ | ⟨g1,cap,cur,h1,-,-,hc,-⟩⟩:=hr
    ·cases h1
    ·injection h1 with _ _ h4
     simp only[List.length_cons] at h4 hc
     omega
   refine⟨a,c-1,rfl,.inr ⟨g,o+1,L,ha (by omega),by omega,?_,by rw[h3,List.length_cons];omega,?_⟩⟩
   ·have:=congrArg List.tail h2
    simpa[List.tail_drop] using this
   ·rw[List.length_cons] at h
    rw[show o+1+q.length=o+(q.length+1) by omega,show o+1+(c-1)=o+c by omega]
    exact h
theorem QueS.push{a:Option Addr}{n c c2:Nat}{x:Int}{ad:Addr}(ty:TypeId)(h:QueS w B R (.slice a n c) q k)(hq:0<q.length)(hB:B≤w.heap.size)(hnews:∀ j u,[iV x][j]? = some u→w.cell? (ad.add j)=some u)(hmax:k+q.length≤1000000000) :
  ∃ v' w',(Builtin.append_ #[22,22] ty #[.slice a n c,.slice (some ad) 1 c2]).run Tryz.prog w=.ok v' w' ∧ QueS w' B R v' (q++[x]) k∧∃ g,w.grownBy w' (some g)∧B≤g:=by
 obtain⟨a',c',hv,⟨e,-⟩ | ⟨g,o,L,h1,h0,h2,h3,h⟩⟩:=h
 ·subst e;simp at hq
 ·injection hv with e1 e2 e3
  subst e1 e2 e3
  subst h1
  have hi:(R++[rI (.slice (some ⟨g,0,none⟩) (o+q.length) (o+c)) L])[R.length]? = some (rI (.slice (some ⟨g,0,none⟩) (o+q.length) (o+c)) L):=by rw[List.getElem?_append_right (Nat.le_refl _),Nat.sub_self];rfl
  have hr:=h.ok R.length _ hi
  simp only[rI,h3] at hr
  obtain⟨g',o',c3,L',w',hrun,hown,hL',hgr,hgg,ho'⟩:=run_append_suf (n:=q.length) ty hr hB ad c2 x hnews (by omega)
  rw[h2] at hL'
  have hl:L'.length=o' + (q.length+1):=by have:=hown.1;simpa using this
  refine⟨_,w',hrun,⟨some ⟨g',o',none⟩,c3,by simp,.inr ⟨g',o',L',rfl,by omega,hL',by simpa using hl,?_⟩⟩,g,hgr,(hr.lt g rfl).1⟩
  have:=h.upd (w' := w') (rI (.slice (some ⟨g',0,none⟩) (o' + (q.length+1)) (o' + c3)) L') hi hgr (by simp only[rI,hl];exact hown) (fun b hb=>by
   have e:g' = b:=by have:(Value.slice (some ⟨g',0,none⟩) (o' + (q.length+1)) (o' + c3)).ownBlock=some g' := rfl;rw[show(rI (Value.slice (some ⟨g',0,none⟩) (o' + (q.length+1)) (o' + c3)) L').v.ownBlock=some g' from rfl] at hb;injection hb
   rcases hgg with k | k
   ·exact .inl (by rw[← e,k];rfl)
   ·exact .inr (by omega))
  rw[List.set_append_right _ _ (Nat.le_refl _),Nat.sub_self] at this
  rw[List.length_append,List.length_singleton]
  exact this
structure MkQ(w:World)(G:Nat)(s:St)(v:Value)(q:List Int)(k:Nat):Prop where
 blk:Blk w G 94 #[s.vP,s.vH,s.vF,s.vC,s.vI,s.vT,s.vA,s.vO]
 que:QueS w (G+1) s.rows v q k
theorem MkQ.maker{G:Nat}{s:St}(h:MkQ w G s v q k):Mk w G s:=⟨h.blk,h.que.rows⟩
theorem MkQ.since{G:Nat}{s:St}(h:MkQ w G s v q k)(hs:Since w w'):MkQ w' G s v q k:=⟨hs.blk h.blk,h.que.since hs⟩
end
end
section
open Go.RowKit Go.BigFrame
theorem IndexI_any{w:World}{g c:Nat}{l:List Int}{x:Int}(hc:∀ j,j<l.length→w.cell? ⟨g,j,none⟩=some (.int .i64 (iAt l j)))(hx:x∈l)(hl:l.length≤1000000) :
  Calls Tryz.prog 42 #[.slice (some ⟨g,0,none⟩) l.length c,.int .i64 x] w fun e w' => e=.returned (.int .i64 (l.idxOf x:Nat))∧w' = w:=by
 have HI:Hid (l.idxOf x<l.length):=List.idxOf_lt_length_iff.2 hx
 have HA:Hid (iAt l (l.idxOf x)=x):=by
  show _=_
  have:=HI.out
  simp[iAt,List.getD,this]
 have HB:Hid (∀ j,j<l.idxOf x→iAt l j≠x):=fun j hj=>by
  have hjl:j<l.length:=Nat.lt_trans hj HI.out
  have:=List.not_of_lt_findIdx (p:=(· == x)) (xs:=l) (i:=j) hj
  intro e
  have e' : l[j]=x:=by simpa[iAt,List.getD,hjl] using e
  simp[e'] at this
 have HC:=Lib.hid hc
 obtain⟨m,hm⟩:∃ m,m=l.idxOf x:=⟨_,rfl⟩
 rw[← hm] at HI HA HB ⊢
 obtain⟨n,hn⟩:∃ n,n=l.length:=⟨_,rfl⟩
 rw[← hn] at HI HC hl ⊢
 clear hx hc hm hn
 go_enter Tryz.func42,Tryz.ntmps42
 go_wp2_with fail
 go_loopw [8] (fun v8 wr=>∃ k:Nat,k≤m∧v8=.int .i64 k∧wr=w) (fun v8 _=>m+1-(intOf v8).toNat)
 case atStart=>exact⟨0,by omega,by go_num,rfl⟩
 case round =>
  obtain⟨k,hk,rfl,rfl⟩:=hrel
  have hkn:k<n:=by have:=HI.out;omega
  have hz:decide ((k:Int)<(n:Int))=true:=by rw[decide_eq_true_eq];omega
  have i1:(0:Int)≤(k:Int):=by omega
  have i2:(k:Int)<(n:Int):=by omega
  have hck:=HC.out k hkn
  by_cases e:k=m
  ·subst e
   have hb:(x == iAt l k)=true:=by rw[beq_iff_eq];exact HA.out.symm
   go_wp2_with fail
   go_ret
   exact⟨rfl,rfl⟩
  ·have hb:(x == iAt l k)=false:=by rw[beq_eq_false_iff_ne];exact(HB.out k (by omega)).symm
   go_wp2_with fail
   go_roundw
   case rel=>exact⟨k+1,by omega,by go_num,trivial⟩
   case measure=>simp[intOf];omega
theorem MulB(x y:Nat)(h:x*y<18446744073709551616)(hx:x<18446744073709551616)(hy:y<18446744073709551616)(w:World) :
  Calls Tryz.prog 108 #[.int .u64 x,.int .u64 y] w fun e w' => e=.returned (.tuple #[.int .u64 0,.int .u64 ((x*y:Nat):Int)])∧w=w' := by
 have HM:=Lib.hid (fun w=>Mul64B_low x y h hx hy w)
 generalize x*y=z at HM ⊢
 go_enter Tryz.func108,Tryz.ntmps108
 go_wp2_with (go_at_call 142;refine(HM.out _).mono ?_;rintro e w' ⟨rfl,rfl⟩)
 go_ret2
 exact⟨rfl,rfl⟩
set_option maxRecDepth 100000 in
set_option maxHeartbeats 1000000 in
theorem Repeat_any{w:World}{g n:Nat}{x:Int}(hg:Blk w g 3 #[.int .i64 x])(hn:1≤n)(hl:n≤1000000) :
  Calls Tryz.prog 93 #[.slice (some ⟨g,0,none⟩) 1 1,.int .i64 n] w fun e w' => ∃ g',e=.returned (.slice (some ⟨g',0,none⟩) n n)∧Since w w' ∧ w'.ownsRow w.heap.size 3 1 (.slice (some ⟨g',0,none⟩) n n) n ((List.replicate n x).map iV):=by
 have HG:=Lib.hid hg
 have hz:decide ((n:Int)<0)=false:=by rw[decide_eq_false_iff_not];omega
 have hz2:decide ((9223372036854775807:Int)<(n:Int))=false:=by rw[decide_eq_false_iff_not];omega
 have HM:=Lib.hid (fun w=>MulB 1 n (by omega) (by omega) (by omega) w)
 rw[Nat.one_mul] at HM
 obtain⟨i2,hi2,hy0,hy1,hy3⟩:=info_parts infoI
 have HI2:=Lib.hid (And.intro hi2 (And.intro hy0 (And.intro hy1 hy3)))
 have HSZ:Hid ((Tryz.prog.info? 3).map (·.size)=some 1):=by show _=_;rw[hi2];show some i2.size=_;rw[hy1]
 clear hi2 hy0 hy1 hy3
 obtain⟨B,HB⟩:∃ B,Hid (B=w.heap.size):=⟨_,rfl⟩
 have HBe:=HB.out
 rw[← HBe]
 clear hg HBe
 go_enter Tryz.func93,Tryz.ntmps93
 go_upto_region 6 with(go_at_call 108;refine(HM.out _).mono ?_;rintro e w' ⟨rfl,rfl⟩)
 go_upto_region 7 with(at_make;refine wpList_make_full _ rfl _ _ 22 rfl w.heap.size 3 i2 _ 1 Tryz.underlying22 HI2.out.1 HI2.out.2.1 HI2.out.2.2.1 .i64 .i64 _ _ n rfl rfl rfl rfl (by rw[HI2.out.2.2.2];omega) (by unfold maxLen;omega) (Nat.le_refl _) ?_;intro w2 hown hgrow)
 rw[← HB.out] at hown ⊢
 have hs2:Since w w2:=⟨hgrow.os,hgrow.tape,hgrow.output,hgrow.size,fun i hi=>hgrow.block i hi (by simp)⟩
 obtain⟨-,⟨h1,-⟩ | ⟨g1,cap,cur,h1,-,hb,-,-,hsz,-⟩⟩:=hown
 ·cases h1
 injection h1 with h1 _ h3
 injection h1 with h1
 injection h1 with h1
 subst h1 h3
 have hcp0:=run_copy_cells (P:=Tryz.prog) w2 22 22 3 3 B 0 n n ⟨g,0,none⟩ 1 1 [.int .i64 x] Tryz.underlying22 HSZ.out (Nat.min_eq_left hn).symm (blk1 (hs2.blk HG.out)) (fun j hj=>by
  obtain rfl:j=0:=by simpa using hj
  rw[Nat.zero_add,Blk.cell hb,Array.getElem?_eq_getElem (by omega)]
  rfl) (fun j hj=>Blk.frozen hb _) (one1 _ _)
 have hcp:(Builtin.copy_ #[22,22] 3 #[.slice (some ⟨B,0,none⟩) n n,.slice (some ⟨g,0,none⟩) 1 1]).run Tryz.prog w2=.ok (.int .i64 1) (w2.setCell ⟨B,0,none⟩ (.int .i64 x)):=hcp0
 clear hcp0
 obtain⟨w3,hw3⟩:∃ w3,w3=w2.setCell ⟨B,0,none⟩ (.int .i64 x):=⟨_,rfl⟩
 rw[← hw3] at hcp
 have hb3:Blk w3 B 3 (cur.setIfInBounds 0 (.int .i64 x)):=by rw[hw3];exact Blk.set_ hb 0 _
 have hs3:Since w w3:=by rw[hw3];exact hs2.setCell (by rw[← HB.out];exact Nat.le_refl _) _
 have HW:=Lib.hid (And.intro hb3 hs3)
 have HZ:=Lib.hid hsz
 clear hb hgrow hs2 hw3 hb3 hs3 hsz
 go_wp2_with fail
 clear hcp
 go_loopw [8] (fun v8 wr=>∃ (d:Nat) (cs:List Value),1≤d∧d≤n∧v8=.int .i64 d∧cs.length=n∧Hid (∀ j,j<d→cs[j]? = some (.int .i64 x))∧Hid (Blk wr B 3 cs.toArray)∧Hid (Since w wr)) (fun v8 _=>n-(intOf v8).toNat)
 case atStart =>
  refine⟨1,(cur.setIfInBounds 0 (.int .i64 x)).toList,Nat.le_refl _,hn,rfl,by have:=HZ.out;simp;omega,fun j hj=>?_,HW.out.1,HW.out.2⟩
  obtain rfl:j=0:=by omega
  have:=HZ.out
  simp[show 0<cur.size by omega]
 case round =>
  clear HW HZ
  obtain⟨d,cs,hd1,hd,rfl,hcl,HX,HBB,HS⟩:=hrel
  obtain⟨wv,rfl⟩:∃ wv,wv=wr:=⟨_,rfl⟩
  rcases Nat.lt_or_ge d n with hlt | hge
  ·have hz3:decide ((d:Int)<(n:Int))=true:=by rw[decide_eq_true_eq];omega
   have i1:(0:Int)≤(d:Int):=by omega
   have i2:(d:Int)≤(n:Int):=by omega
   have i3:(d:Int)<(n:Int):=by omega
   obtain⟨m,hm⟩:∃ m,m=Nat.min d (n-d):=⟨_,rfl⟩
   have hmle:m≤d∧m≤n-d∧1≤m:=by
    have:Nat.min d (n-d)=min d (n-d):=rfl
    rw[hm,this];omega
   have hcp4:=run_copy_row (P:=Tryz.prog) wv.drew 22 22 3 3 B d (n-d) (n-d) ⟨B,0,none⟩ d n cs.toArray 3 (List.replicate m (Value.int .i64 x)) Tryz.underlying22 HSZ.out HBB.out.drew (by rw[List.length_replicate];exact hm) (fun j v hv=>by
    have hj:j<m:=by have:=(List.getElem?_eq_some_iff.1 hv).1;simpa using this
    have hv' : v=Value.int .i64 x:=by have:=List.mem_of_getElem? hv;exact(List.mem_replicate.1 this).2
    have e:(⟨B,0,none⟩:Addr).add j=⟨B,j,none⟩:=by unfold Addr.add;split <;> simp_all
    rw[e,Blk.cell HBB.out.drew,hv']
    simpa using HX.out j (by omega)) (by rw[List.length_replicate];simp;omega) (fun v hv=>by rw[(List.mem_replicate.1 hv).2];rfl)
   rw[List.length_replicate] at hcp4
   obtain⟨w4,hw4⟩:∃ w4,w4=wv.drew.setRow B (cs.toArray.toList.take d++List.replicate m (Value.int .i64 x)++cs.toArray.toList.drop (d+m)).toArray:=⟨_,rfl⟩
   rw[← hw4] at hcp4
   have hb4:Blk w4 B 3 (cs.toArray.toList.take d++List.replicate m (Value.int .i64 x)++cs.toArray.toList.drop (d+m)).toArray:=by rw[hw4];exact setRow_heap wv.drew B _ _ 3 _ HBB.out.drew
   have hs4:Since w w4:=by rw[hw4];exact below_setRow HS.out.drew (by have:=HB.out;omega) _
   have HW:=Lib.hid (And.intro hb4 hs4)
   have hcp5:(Builtin.copy_ #[22,22] 3 #[.slice (some ⟨B,d,none⟩) (n-d) (n-d),.slice (some ⟨B,0,none⟩) d n]).run Tryz.prog wv.drew=.ok (.int .i64 m) w4:=hcp4
   have wm:wrap64 ((d:Int)+(m:Int))=(d:Int)+(m:Int):=wrap_id (by omega)
   clear hcp4 hw4 hb4 hs4 hm
   go_upto_region 9 with fail
   go_region
   all_goals
    go_wp2_with fail
    go_roundw
    case rel =>
     refine⟨d+m,cs.toArray.toList.take d++List.replicate m (Value.int .i64 x)++cs.toArray.toList.drop (d+m),by omega,by omega,by go_num,by simp;omega,fun j hj=>?_,HW.out.1,HW.out.2⟩
     rcases Nat.lt_or_ge j d with k | k
     ·rw[List.append_assoc,List.getElem?_append_left (by simp;omega),List.getElem?_take_of_lt k]
      simpa using HX.out j k
     ·rw[List.append_assoc,List.getElem?_append_right (by simp;omega)]
      have hlt:j-(List.take d cs.toArray.toList).length<m:=by rw[List.length_take];simp only[hcl];omega
      rw[List.getElem?_append_left (by rw[List.length_replicate];exact hlt),List.getElem?_replicate,if_pos hlt]
    case measure=>simp[intOf];omega
  ·obtain rfl:n=d:=by omega
   have hz3:decide ((n:Int)<(n:Int))=false:=by rw[decide_eq_false_iff_not];omega
   go_wp2_with fail
   go_ret
   refine⟨B,rfl,HS.out,by simp,.inr ⟨B,n,cs.toArray,rfl,Nat.le_refl _,HBB.out,Nat.le_refl _,by unfold maxLen;omega,by simp[hcl],?_⟩⟩
   apply List.ext_getElem?
   intro j
   simp only[Nat.mul_one]
   by_cases hj:j<n
   ·rw[List.getElem?_take_of_lt hj,HX.out j hj]
    simp[hj,iV]
   ·rw[List.getElem?_take_eq_none (by omega),List.getElem?_eq_none (by simp;omega)]
end
end Go.Proofs.YtdnccjdlmepafaaGreat
