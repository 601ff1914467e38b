/-
  Plain laws of the end of the loop: the edges are sorted, and have at most ends in common; hot.Round of the segments of the stream, none or some; what is known of its edges; The walk of HotApart; The walks of arr.order, arr.apart and arr.check, of segments that are in order and apart. Conditions: those that each lemma names.
-/
import Derived.Test.YtdnccjdlmepafaaGreatK16
set_option linter.unusedSimpArgs false
set_option linter.unusedVariables false
set_option linter.constructorNameAsVariable false
namespace Go.Proofs.YtdnccjdlmepafaaGreat
section
def SrtG(E:List Sg):Prop:=E.Pairwise fun x y=>lxG x y=true
theorem snocG_srt:∀ (l acc:List Sg),(∀ x∈acc,∀ y∈l,lxG y x=false)→(l.Pairwise fun x y=>lxG y x=false)→SrtG acc→SrtG (l.foldl snocG acc)
 | [],_,_,_,h=>h
 | p :: l,acc,h1,h2,h3=>by
  rw[List.foldl_cons]
  rw[List.pairwise_cons] at h2
  have key:SrtG (snocG acc p):=by
   unfold snocG
   split
   ·unfold SrtG;simp
   ·split
    ·exact h3
    ·rename_i h0 hne
     rcases List.eq_nil_or_concat acc with e | ⟨I,L,e⟩
     ·rw[e] at h0;exact absurd rfl h0
     ·rw[List.concat_eq_append] at e
      subst e
      rw[lastG_snoc] at hne
      unfold SrtG at *
      rw[List.pairwise_append]
      refine⟨h3,by simp,fun x hx y hy=>?_⟩
      rw[List.mem_singleton.1 hy]
      have a:=h1 x hx p (by simp)
      have b:=h1 L (by simp) p (by simp)
      rcases lxG_tri x p with t | t | t
      ·exact t
      ·exfalso
       rcases List.mem_append.1 hx with k | k
       ·have:=(List.pairwise_append.1 h3).2.2 x k L (by simp)
        rw[t,b] at this;cases this
       ·rw[List.mem_singleton] at k;exact hne (by rw[← t,k])
      ·rw[t] at a;cases a
  refine snocG_srt l _ (fun x hx y hy=>?_) h2.2 key
  rcases snocG_mem.1 hx with k | k
  ·exact h1 x k y (List.mem_cons_of_mem _ hy)
  ·rw[k];exact h2.1 y hy
theorem srtG_pw(l:List Sg):(srtG l).Pairwise fun x y=>lxG y x=false:=by
 unfold srtG
 refine(List.pairwise_mergeSort ?_ ?_ l).imp fun {x y} h=>by simpa using h
 ·intro a b c h1 h2
  simp only[Bool.not_eq_true'] at *
  rw[Bool.eq_false_iff];intro e
  rcases lxG_tri a b with k | k | k
  ·have:=lxG_trans e k;rw[h2] at this;cases this
  ·rw[← k] at h2;rw[h2] at e;cases e
  ·rw[h1] at k;cases k
 ·intro a b
  rcases lxG_tri a b with k | k | k
  ·have:lxG b a=false:=by
    rw[Bool.eq_false_iff];intro e
    have:=lxG_trans k e;rw[lxG_irr] at this;cases this
   rw[this];rfl
  ·rw[k,lxG_irr];rfl
  ·have:lxG a b=false:=by
    rw[Bool.eq_false_iff];intro e
    have:=lxG_trans k e;rw[lxG_irr] at this;cases this
   rw[this];simp
theorem edg_srt(cs:List (List Pt2)):SrtG (edgL cs):=by
 unfold edgL cmpG
 exact snocG_srt _ _ (by simp) (srtG_pw _) (by unfold SrtG;simp)
theorem srtG_ext:∀ {X Y:List Sg},SrtG X→SrtG Y→(∀ x,x∈X↔x∈Y)→X=Y
 | [],[],_,_,_=>rfl
 | [],y :: Y,_,_,h=>by have:=(h y).2 (by simp);cases this
 | x :: X,[],_,_,h=>by have:=(h x).1 (by simp);cases this
 | x :: X,y :: Y,hX,hY,h=>by
  unfold SrtG at hX hY
  rw[List.pairwise_cons] at hX hY
  have asy:∀ {a b:Sg},lxG a b=true→lxG b a=true→False:=fun {a b} p q=>by
   have:=lxG_trans p q;rw[lxG_irr] at this;cases this
  have e:x=y:=by
   rcases List.mem_cons.1 ((h x).1 (by simp)) with a | a
   ·exact a
   ·rcases List.mem_cons.1 ((h y).2 (by simp)) with b | b
    ·exact b.symm
    ·exact(asy (hX.1 y b) (hY.1 x a)).elim
  subst e
  congr 1
  refine srtG_ext hX.2 hY.2 fun z=>⟨fun hz=>?_,fun hz=>?_⟩
  ·rcases List.mem_cons.1 ((h z).1 (by simp[hz])) with b | b
   ·rw[b] at hz;exact(asy (hX.1 _ hz) (hX.1 _ hz)).elim
   ·exact b
  ·rcases List.mem_cons.1 ((h z).2 (by simp[hz])) with b | b
   ·rw[b] at hz;exact(asy (hY.1 _ hz) (hY.1 _ hz)).elim
   ·exact b
theorem edg_ext{cs ds:List (List Pt2)}(h:∀ s,s∈edgL cs↔s∈edgL ds):edgL cs=edgL ds:=srtG_ext (edg_srt _) (edg_srt _) h
theorem metB_rev{a b p:Pt2}(ha:okP a.1 a.2=true)(hb:okP b.1 b.2=true)(hp:okP p.1 p.2=true):metB a b p=metB b a p:=by
 rw[Bool.eq_iff_iff,met_iff ha hb hp,met_iff hb ha hp]
 constructor
 ·rintro⟨t,h1,h2⟩;exact⟨1-t,I01_rev h1,by rw[← lerp_rev];exact h2⟩
 ·rintro⟨t,h1,h2⟩;exact⟨1-t,I01_rev h1,by rw[← lerp_rev];exact h2⟩
theorem fixed_of{cs:List (List Pt2)}(h:Inv cs)(hl:lensC (stepC cs)=lensC cs):stepC cs=cs:=by
 unfold lensC stepC at hl
 rw[List.map_map] at hl
 have hl:=List.map_inj_left.1 hl
 unfold stepC
 refine(List.map_congr_left (g:=id) fun C hC=>?_).trans (List.map_id _)
 exact next_same (hot_ok h.eok) (h.chain hC) (hl C hC)
theorem fix_two{H:List Pt2}(hH:HotOk H):∀ {C:List Pt2},ChainOk H C→nextC H C=C→∀ p q,Adj C p q→thrL p q H=[p,q]
 | [],h,_,_,_,_=>absurd rfl h.ne
 | [x],h,_,p,q,⟨u,v,e⟩=>by
  have:([x]:List Pt2).length=1:=rfl
  rw[e] at this;simp at this;omega
 | x :: y :: r,h,hf,p,q,k=>by
  obtain⟨m,hm⟩:=h.ends hH
  have hl:=congrArg List.length hf
  rw[nextC_cons hm] at hl hf
  have h2:=next_len hH h.tail
  simp only[List.length_append,List.length_cons] at hl h2
  have hm0:m=[]:=List.length_eq_zero_iff.1 (by omega)
  subst hm0
  rcases adj_cons k with⟨rfl,rfl⟩ | k
  ·exact hm
  ·refine fix_two hH h.tail ?_ p q k
   simpa using hf
theorem fix_org{cs:List (List Pt2)}(h:Inv cs)(hf:stepC cs=cs){s:Sg}(hs:s∈edgL cs) :
  ∃ p q,(s=(p,q)∨s=(q,p))∧thrL p q (hotL (edgL cs))=[p,q]∧((p,q)∈edgL cs∨(q,p)∈edgL cs)∧okP p.1 p.2=true∧okP q.1 q.2=true∧p≠q:=by
 have hH:=hot_ok h.eok
 obtain⟨C,hC,p,q,k,rfl⟩:=edg_mem.1 hs
 have hfC:nextC (hotL (edgL cs)) C=C:=by
  have:cs.map (nextC (hotL (edgL cs)))=cs.map id:=by rw[List.map_id];exact hf
  exact List.map_inj_left.1 this C hC
 refine⟨p,q,ordE_cases p q,fix_two hH (h.chain hC) hfC p q k,?_,h.ok C hC p (adj_mem k).1,h.ok C hC q (adj_mem k).2,h.adj C hC p q k⟩
 rcases ordE_cases p q with e | e <;> rw[e] at hs
 ·exact .inl hs
 ·exact .inr hs
theorem fix_edge{cs:List (List Pt2)}(h:Inv cs)(hf:stepC cs=cs){s:Sg}(hs:s∈edgL cs){x:Pt2}(hx:x∈hotL (edgL cs)){t:Rat}(ht:I01 t)(hi:inP (toQ x) (lerp (toQ s.1) (toQ s.2) t)):x=s.1∨x=s.2:=by
 have hH:=hot_ok h.eok
 obtain⟨p,q,e,k,-,op,oq,-⟩:=fix_org h hf hs
 have key:∀ {t:Rat},I01 t→inP (toQ x) (lerp (toQ p) (toQ q) t)→x=p∨x=q:=fun {t} ht hi=>by
  have hm:=thr_mem.2 ⟨hx,(met_iff op oq (hH.ok x hx)).2 ⟨t,ht,hi⟩⟩
  rw[k] at hm
  simpa using hm
 rcases e with rfl | rfl
 ·exact key ht hi
 ·rw[lerp_rev] at hi
  exact(key (I01_rev ht) hi).symm
theorem fix_apart{cs:List (List Pt2)}(h:Inv cs)(hf:stepC cs=cs){s t:Sg}(hs:s∈edgL cs)(ht:t∈edgL cs)(n1:t.1≠s.1)(n2:t.1≠s.2)(n3:t.2≠s.1)(n4:t.2≠s.2):¬ segI (toQ s.1) (toQ s.2) (toQ t.1) (toQ t.2):=by
 intro hseg
 have hH:=hot_ok h.eok
 obtain⟨p,q,e1,k1,m1,oa,ob,nab⟩:=fix_org h hf hs
 obtain⟨r,u,e2,k2,m2,oc,od,ncd⟩:=fix_org h hf ht
 have hX:=hot_common h.eok m1 m2
 have a1:Adj (thrL p q (hotL (edgL cs))) p q:=by rw[k1];exact⟨[],[],rfl⟩
 have a2:Adj (thrL r u (hotL (edgL cs))) r u:=by rw[k2];exact⟨[],[],rfl⟩
 rcases e1 with rfl | rfl <;> rcases e2 with rfl | rfl
 ·exact pieces_apart hH oa ob oc od nab a1 a2 n1 n2 n3 n4 hX hseg
 ·exact pieces_apart hH oa ob oc od nab a1 a2 n3 n4 n1 n2 hX (segI_rev2 hseg)
 ·exact pieces_apart hH oa ob oc od nab a1 a2 n2 n1 n4 n3 hX (segI_rev hseg)
 ·exact pieces_apart hH oa ob oc od nab a1 a2 n4 n3 n2 n1 hX (segI_rev2 (segI_rev hseg))
theorem onV_lerp{a b p:Pt2}(ha:okP a.1 a.2=true)(hb:okP b.1 b.2=true)(hp:okP p.1 p.2=true)(hne:a≠b)(h:onV a b p=true):∃ t,I01 t∧toQ p=lerp (toQ a) (toQ b) t:=by
 obtain⟨hc,hd⟩:=onV_ok ha hb hp h
 obtain⟨n,hn⟩:∃ n:Int,n=(p.1-a.1)*(b.1-a.1)+(p.2-a.2)*(b.2-a.2):=⟨_,rfl⟩
 obtain⟨D,hD⟩:∃ D:Int,D=(b.1-a.1)*(b.1-a.1)+(b.2-a.2)*(b.2-a.2):=⟨_,rfl⟩
 unfold crs crossV at hc
 have e1:D*(p.1-a.1)=n*(b.1-a.1):=by rw[hn,hD];grind
 have e2:D*(p.2-a.2)=n*(b.2-a.2):=by rw[hn,hD];grind
 have s1:=sq_nn (b.1-a.1)
 have s2:=sq_nn (b.2-a.2)
 have hD0:0<D:=by
  rcases Int.lt_or_eq_of_le (show 0≤D by omega) with k | k
  ·exact k
  ·exfalso
   have z1:(b.1-a.1)*(b.1-a.1)=0:=by omega
   have z2:(b.2-a.2)*(b.2-a.2)=0:=by omega
   have y1:b.1-a.1=0:=by rcases Int.mul_eq_zero.1 z1 with y | y <;> exact y
   have y2:b.2-a.2=0:=by rcases Int.mul_eq_zero.1 z2 with y | y <;> exact y
   exact hne (Prod.ext (by omega) (by omega))
 have e3:D*((a.1-p.1)*(b.1-p.1)+(a.2-p.2)*(b.2-p.2)) = -(n*(D-n)):=by grind
 have e4:0≤n*(D-n):=by
  have:D*((a.1-p.1)*(b.1-p.1)+(a.2-p.2)*(b.2-p.2))≤0:=Int.mul_nonpos_of_nonneg_of_nonpos (by omega) hd
  omega
 have n0:0≤n:=by
  refine Classical.byContradiction fun k=>?_
  have:=Int.mul_neg_of_neg_of_pos (a:=n) (b:=D-n) (by omega) (by omega)
  omega
 have n1:n≤D:=by
  refine Classical.byContradiction fun k=>?_
  have:=Int.mul_neg_of_pos_of_neg (a:=n) (b:=D-n) (by omega) (by omega)
  omega
 have q0:(0:Rat)≤(n:Rat):=Rat.intCast_nonneg.2 n0
 have q1:(n:Rat)≤(D:Rat):=Rat.intCast_le_intCast.2 n1
 have qD:(0:Rat)<(D:Rat):=castPos.2 hD0
 have g1:(D:Rat)*((p.1:Rat)-a.1)=(n:Rat)*((b.1:Rat)-a.1):=by have:=congrArg (fun z:Int=>(z:Rat)) e1;push_cast at this;exact this
 have g2:(D:Rat)*((p.2:Rat)-a.2)=(n:Rat)*((b.2:Rat)-a.2):=by have:=congrArg (fun z:Int=>(z:Rat)) e2;push_cast at this;exact this
 obtain⟨i,hi⟩:=inv_ (show(D:Rat)≠0 by grind)
 have hip:0≤i:=by
  refine Classical.byContradiction fun k=>?_
  have:=Rat.mul_nonneg (a := -i) (b:=(D:Rat)) (by grind) (by grind)
  grind
 refine⟨n*i,⟨Rat.mul_nonneg q0 hip,?_⟩,?_⟩
 ·have:=Rat.mul_nonneg (a:=(D:Rat)-n) (b:=i) (by grind) hip
  grind
 ·unfold lerp toQ
  apply Prod.ext <;> dsimp only
  ·have:((p.1:Rat)-a.1)=(i*D)*((p.1:Rat)-a.1):=by rw[hi];grind
   grind
  ·have:((p.2:Rat)-a.2)=(i*D)*((p.2:Rat)-a.2):=by rw[hi];grind
   grind
theorem cross_segI{p q r s:Pt2}(hprop:cmpI (crs p q r) 0*cmpI (crs p q s) 0<0∧cmpI (crs r s p) 0*cmpI (crs r s q) 0<0):segI (toQ p) (toQ q) (toQ r) (toQ s):=by
 have h1:=cmp_mul hprop.1
 have h2:=cmp_mul hprop.2
 have hD:crs r s p-crs r s q≠0:=by omega
 have hid:crs p q r-crs p q s = -(crs r s p-crs r s q):=by unfold crs crossV;grind
 have hDq:((crs r s p:Int):Rat)-((crs r s q:Int):Rat)≠0:=fun k=>hD (by have:=castNe hD;push_cast at this;exact absurd k this)
 obtain⟨i,hi⟩:=inv_ hDq
 have e0:((crs p q r:Int):Rat)-((crs p q s:Int):Rat) = -(((crs r s p:Int):Rat)-((crs r s q:Int):Rat)):=by
  have:=congrArg (fun z:Int=>(z:Rat)) hid
  push_cast at this;exact this
 obtain⟨N,hN⟩:∃ N:Rat,N=((crs r s p:Int):Rat):=⟨_,rfl⟩
 obtain⟨K,hK⟩:∃ K:Rat,K=((crs r s q:Int):Rat):=⟨_,rfl⟩
 obtain⟨M,hM⟩:∃ M:Rat,M=((crs p q r:Int):Rat):=⟨_,rfl⟩
 obtain⟨L,hL⟩:∃ L:Rat,L=((crs p q s:Int):Rat):=⟨_,rfl⟩
 rw[← hN,← hK] at hDq hi
 rw[← hN,← hK,← hM,← hL] at e0
 have sN:(N<0∧0<K)∨(0<N∧K<0):=by
  rw[hN,hK]
  rcases h2 with h | h
  ·exact .inl ⟨castNeg.2 h.1,castPos.2 h.2⟩
  ·exact .inr ⟨castPos.2 h.1,castNeg.2 h.2⟩
 have sM:(M<0∧0<L)∨(0<M∧L<0):=by
  rw[hM,hL]
  rcases h1 with h | h
  ·exact .inl ⟨castNeg.2 h.1,castPos.2 h.2⟩
  ·exact .inr ⟨castPos.2 h.1,castNeg.2 h.2⟩
 have in01:∀ {x y j:Rat},j*(x-y)=1→((x<0∧0<y)∨(0<x∧y<0))→I01 (x*j):=fun {x y j} hj h=>by
  unfold I01
  rcases h with h | h
  ·have jn:j<0:=by
    refine Classical.byContradiction fun k=>?_
    have:=Rat.mul_nonneg (a:=j) (b:=y-x) (by grind) (by grind)
    grind
   have p1:=Rat.mul_pos (a := -x) (b := -j) (by grind) (by grind)
   have p2:=Rat.mul_pos (a:=y) (b := -j) h.2 (by grind)
   exact⟨by grind,by grind⟩
  ·have jp:0<j:=by
    refine Classical.byContradiction fun k=>?_
    have:=Rat.mul_nonneg (a := -j) (b:=x-y) (by grind) (by grind)
    grind
   have p1:=Rat.mul_pos (a:=x) (b:=j) h.1 jp
   have p2:=Rat.mul_pos (a := -y) (b:=j) (by grind) jp
   exact⟨by grind,by grind⟩
 refine⟨N*i,M * -i,in01 hi sN,in01 (by grind) sM,?_⟩
 have c1:=hN
 have c2:=hK
 have c3:=hM
 rw[crsQ] at c1 c2 c3
 unfold lerp toQ
 apply Prod.ext <;> dsimp only
 ·have:(((p.1:Rat)+N*i*((q.1:Rat)-p.1))-((r.1:Rat)+M * -i*((s.1:Rat)-r.1)))*(N-K)=0:=by
   have:(((p.1:Rat)+N*i*((q.1:Rat)-p.1))-((r.1:Rat)+M * -i*((s.1:Rat)-r.1)))*(N-K)=((p.1:Rat)-r.1)*(N-K)+(i*(N-K))*(N*((q.1:Rat)-p.1)+M*((s.1:Rat)-r.1)):=by grind
   rw[this,hi,c1,c2,c3];grind
  rcases Rat.mul_eq_zero.1 this with h | h
  ·grind
  ·exact absurd h hDq
 ·have:(((p.2:Rat)+N*i*((q.2:Rat)-p.2))-((r.2:Rat)+M * -i*((s.2:Rat)-r.2)))*(N-K)=0:=by
   have:(((p.2:Rat)+N*i*((q.2:Rat)-p.2))-((r.2:Rat)+M * -i*((s.2:Rat)-r.2)))*(N-K)=((p.2:Rat)-r.2)*(N-K)+(i*(N-K))*(N*((q.2:Rat)-p.2)+M*((s.2:Rat)-r.2)):=by grind
   rw[this,hi,c1,c2,c3];grind
  rcases Rat.mul_eq_zero.1 this with h | h
  ·grind
  ·exact absurd h hDq
theorem meet_segI{p q r s:Pt2}(hp:okP p.1 p.2=true)(hq:okP q.1 q.2=true)(hr:okP r.1 r.2=true)(hs:okP s.1 s.2=true)(npq:p≠q)(nrs:r≠s)(hm:smeetV p q r s≠0):segI (toQ p) (toQ q) (toQ r) (toQ s):=by
 by_cases hl:sharedL p q r s=[]
 ·unfold smeetV at hm
  split at hm
  ·rename_i k
   rw[turn_crs hp hq hr,turn_crs hp hq hs,turn_crs hr hs hp,turn_crs hr hs hq] at k
   exact cross_segI k
  ·rw[hl] at hm;exact absurd rfl hm
 ·obtain⟨x,hx⟩:=List.exists_mem_of_ne_nil _ hl
  have z0:I01 0:=by unfold I01;grind
  have z1:I01 1:=by unfold I01;grind
  rcases sharedL_mem hx with⟨rfl,k⟩ | ⟨rfl,k⟩ | ⟨rfl,k⟩ | ⟨rfl,k⟩
  ·obtain⟨t,ht,e⟩:=onV_lerp hr hs hp nrs k;exact⟨0,t,z0,ht,by rw[lerp0];exact e⟩
  ·obtain⟨t,ht,e⟩:=onV_lerp hr hs hq nrs k;exact⟨1,t,z1,ht,by rw[lerp1];exact e⟩
  ·obtain⟨t,ht,e⟩:=onV_lerp hp hq hr npq k;exact⟨t,0,ht,z0,by rw[lerp0];exact e.symm⟩
  ·obtain⟨t,ht,e⟩:=onV_lerp hp hq hs npq k;exact⟨t,1,ht,z1,by rw[lerp1];exact e.symm⟩
theorem ord_lx(p q:Pt2)(h:p≠q):lx (ordE p q).1 (ordE p q).2:=by
 have:=cmpP_lt p q
 unfold ordE
 split
 ·rename_i k
  rcases lx_tri p q with a | a | a
  ·have:cmpP p q<0:=by
    have e:=cmpP_lt p q
    rw[lxB_lx.2 a] at e
    unfold Go.Proofs.ltOf at e
    simpa using e
   omega
  ·exact absurd a h
  ·exact a
 ·rename_i k
  rcases lx_tri p q with a | a | a
  ·exact a
  ·exact absurd a h
  ·exfalso
   apply k
   have e:=cmpP_lt q p
   rw[lxB_lx.2 a] at e
   unfold Go.Proofs.ltOf at e
   have e:cmpP q p<0:=by simpa using e
   unfold cmpP cmpI at e ⊢
   repeat' split at e
   all_goals (repeat' split) <;> omega
theorem edg_lx{cs:List (List Pt2)}(h:Inv cs){s:Sg}(hs:s∈edgL cs):lx s.1 s.2:=by
 obtain⟨C,hC,p,q,k,rfl⟩:=edg_mem.1 hs
 exact ord_lx p q (h.adj C hC p q k)
theorem fix_meet{cs:List (List Pt2)}(h:Inv cs)(hf:stepC cs=cs){s t:Sg}(hs:s∈edgL cs)(ht:t∈edgL cs)(hne:s≠t) :
  smeetV s.1 s.2 t.1 t.2≤1∧(smeetV s.1 s.2 t.1 t.2=1→t.1=s.1∨t.1=s.2∨t.2=s.1∨t.2=s.2):=by
 have os:=h.eok s hs
 have ot:=h.eok t ht
 have ls:=edg_lx h hs
 have lt:=edg_lx h ht
 constructor
 ·unfold smeetV
  split
  ·omega
  ·suffices (sharedL s.1 s.2 t.1 t.2).length≤1 by omega
   refine Classical.byContradiction fun k=>?_
   have z0:I01 0:=by unfold I01;grind
   have z1:I01 1:=by unfold I01;grind
   have key:∀ x∈sharedL s.1 s.2 t.1 t.2,(x=s.1∨x=s.2)∧(x=t.1∨x=t.2):=fun x hx=>by
    rcases sharedL_mem hx with⟨rfl,o⟩ | ⟨rfl,o⟩ | ⟨rfl,o⟩ | ⟨rfl,o⟩
    ·obtain⟨u,hu,e⟩:=onV_lerp ot.1 ot.2.1 os.1 ot.2.2 o
     exact⟨.inl rfl,fix_edge h hf ht (hot_end hs).1 hu (by rw[← e];exact in_self _)⟩
    ·obtain⟨u,hu,e⟩:=onV_lerp ot.1 ot.2.1 os.2.1 ot.2.2 o
     exact⟨.inr rfl,fix_edge h hf ht (hot_end hs).2 hu (by rw[← e];exact in_self _)⟩
    ·obtain⟨u,hu,e⟩:=onV_lerp os.1 os.2.1 ot.1 os.2.2 o
     exact⟨fix_edge h hf hs (hot_end ht).1 hu (by rw[← e];exact in_self _),.inl rfl⟩
    ·obtain⟨u,hu,e⟩:=onV_lerp os.1 os.2.1 ot.2.1 os.2.2 o
     exact⟨fix_edge h hf hs (hot_end ht).2 hu (by rw[← e];exact in_self _),.inr rfl⟩
   have hnd:=sharedL_nodup s.1 s.2 t.1 t.2
   obtain⟨L,hL⟩:∃ L,L=sharedL s.1 s.2 t.1 t.2:=⟨_,rfl⟩
   rw[← hL] at k key hnd
   rcases L with _ | ⟨x,_ | ⟨y,L⟩⟩
   ·simp at k
   ·simp at k
   ·have kx:=key x (by simp)
    have ky:=key y (by simp)
    have nxy:x≠y:=by
     intro e;rw[e] at hnd;simp at hnd
    have no:∀ {a b:Pt2},lx a b→lx b a→False:=fun h k=>lx_asy h k
    apply hne
    rcases kx with⟨rfl | rfl,a | a⟩ <;> rcases ky with⟨rfl | rfl,b | b⟩
    all_goals first
     | exact absurd rfl nxy
     | exact absurd (a.trans b.symm) nxy
     | exact Prod.ext a b
     | exact Prod.ext b a
     | (rw[a,b] at ls;exact(no ls lt).elim)
 ·intro hm
  refine Classical.byContradiction fun k=>?_
  exact fix_apart h hf hs ht (fun e=>k (.inl e)) (fun e=>k (.inr (.inl e))) (fun e=>k (.inr (.inr (.inl e)))) (fun e=>k (.inr (.inr (.inr e)))) (meet_segI os.1 os.2.1 ot.1 ot.2.1 os.2.2 ot.2.2 (by omega))
end
section
open Go.RowKit Go.BigFrame
attribute [local go_sem ↓] eqPt neqPt
def SegsN(w:World)(v:Value)(m:List Sg):Prop:=(m=[]→v=.slice none 0 0)∧(m≠[]→SegsS w v m)
theorem SegsN.slice{w:World}{v:Value}{m:List Sg}(h:SegsN w v m):∃ a c,v=.slice a m.length c:=by
 by_cases hm:m=[]
 ·exact⟨none,0,by rw[h.1 hm,hm];rfl⟩
 ·obtain⟨a,c,hv,-⟩:=h.2 hm
  exact⟨a,c,hv⟩
theorem SegsN.since{w w' : World}{v:Value}{m:List Sg}(h:SegsN w v m)(hs:Since w w'):SegsN w' v m:=⟨h.1,fun k=>(h.2 k).since hs⟩
theorem own_segsN{w:World}{B:Nat}{v:Value}{L:List Sg}(h:w.ownsRow B 37 4 v L.length (L.flatMap sgV))(hn:L=[]→v=.slice none 0 0):SegsN w v L :=
 ⟨hn,fun k=>own_segs h (List.length_pos_iff.2 k)⟩
def IsRnd(m E:List Sg):Prop:=(m=[]∧E=[])∨(m≠[]∧∃ N,RunC (cs0 m) N∧E=edgL (iterC (N+1) (cs0 m)))
theorem Round_nil(w:World):Calls Tryz.prog 37 #[.slice none 0 0] w fun e w' => e=.returned (.tuple #[.slice none 0 0,.int .i64 0])∧Since w w' := by
 go_enter Tryz.func37,Tryz.ntmps37
 go_wp2_with fail
 refine(chains_nil _).mono ?_
 rintro e w1 ⟨g,rfl,hs⟩
 have HS1:=Lib.hid hs
 clear hs
 go_wp2_with fail
 refine(edges_nil _ _ _).mono ?_
 rintro e w2 ⟨rfl,hs⟩
 have HS2:=Lib.hid (HS1.out.trans hs)
 clear hs HS1
 go_wp2_with fail
 refine bodyPost_ret (v:=.tuple #[.slice none 0 0,.int .i64 0]) (by simp[results,Tryz.results37,go_sem,cSetS,cSetO,cellDrew,go_sem]) rfl ⟨rfl,HS2.out⟩
theorem Round_m(v:Value)(m:List Sg)(w:World)(hv:SegsN w v m)(hl:m.length≤12)(hok:∀ s∈m,SgOk s) :
  Calls Tryz.prog 37 #[v] w fun e w' => ∃ x E,e=.returned (.tuple #[x,.int .i64 0])∧IsRnd m E∧w'.ownsRow w.heap.size 37 4 x E.length (E.flatMap sgV)∧(E=[]→x=.slice none 0 0)∧Since w w' := by
 by_cases hm:m=[]
 ·rw[hv.1 hm]
  refine(Round_nil w).mono ?_
  rintro e w' ⟨rfl,hs⟩
  exact⟨_,[],rfl,.inl ⟨hm,rfl⟩,World.ownsRow_nil _ _ _ _,fun _=>rfl,hs⟩
 ·have hcap:=few_hot hl
  obtain⟨N,hN⟩:=run_ex hm (by omega) hok hcap
  obtain⟨hI,hW⟩:=cs0_inv hok
  have hit:=iter_inv hI hW (N+1)
  have hst:StepOk (iterC (N+1) (cs0 m)):=by
   refine step_ok hit.1 hit.2.1 ?_ ?_ (Nat.le_trans hit.2.2 hcap)
   ·intro e
    have:=congrArg List.length e
    rw[iterC_len] at this
    simp[cs0] at this
    exact hm this
   ·rw[iterC_len];simp[cs0];omega
  refine(Round_any v m w (hv.2 hm) (List.length_pos_iff.2 hm) (by omega) hok N hN hst).mono ?_
  rintro e w' ⟨x,rfl,ho,hs⟩
  exact⟨x,_,rfl,.inr ⟨hm,N,hN,rfl⟩,ho,fun h=>absurd h hst.ene,hs⟩
structure RndOk(E:List Sg):Prop where
 ok:∀ s∈E,SgOk s
 srt:SrtG E
 lt:∀ s∈E,lx s.1 s.2
 meet:∀ s∈E,∀ t∈E,s≠t→smeetV s.1 s.2 t.1 t.2≤1∧(smeetV s.1 s.2 t.1 t.2=1→t.1=s.1∨t.1=s.2∨t.2=s.1∨t.2=s.2)
theorem IsRnd.good{m E:List Sg}(h:IsRnd m E)(hok:∀ s∈m,SgOk s):RndOk E:=by
 rcases h with⟨-,rfl⟩ | ⟨-,N,hN,rfl⟩
 ·exact⟨by simp,by unfold SrtG;simp,by simp,by simp⟩
 ·obtain⟨hI,hW⟩:=cs0_inv hok
  have hi:=(iter_inv hI hW N).1
  have hf:=fixed_of hi hN.last
  have e:iterC (N+1) (cs0 m)=iterC N (cs0 m):=hf
  rw[e]
  exact⟨hi.eok,edg_srt _,fun s hs=>edg_lx hi hs,fun s hs t ht hne=>fix_meet hi hf hs ht hne⟩
theorem msegs_ok(l:List Int):∀ s∈msegs l,SgOk s:=by
 intro s hs
 obtain⟨i,hi,rfl⟩:=sg_at hs
 have hi' : i<min (l.length/4) 12:=by unfold msegs at hi;rwa[segsK_len] at hi
 have hb:=segO_bd (restS i l)
 have e:sgAt (msegs l) i=segO (restS i l):=segsK_at hi'
 rw[e]
 unfold SgOk
 rw[okP_iff,okP_iff]
 refine⟨by omega,by omega,?_⟩
 have e1:(segO (restS i l)).1=(ptOf (restS i l)).1:=by unfold segO;rw[mline2];rfl
 have e2:(segO (restS i l)).2=mNext [(ptOf (restS i l)).1] (ptOf (ptOf (restS i l)).2).1:=by unfold segO;rw[mline2];rfl
 rw[e1,e2]
 unfold mNext
 split
 ·rename_i h
  intro k
  have:=congrArg Prod.fst k
  have h1:=congrArg Prod.fst h
  simp[lastP,pAt] at this h1
  omega
 ·rename_i h
  intro k
  apply h
  rw[← k];simp[lastP,pAt]
theorem msegs_len(l:List Int):(msegs l).length≤12:=by unfold msegs;rw[segsK_len];omega
end
section
open Go.RowKit Go.BigFrame
attribute [local go_sem ↓] eqPt neqPt
def eqB(p q:Pt2):Bool:=p.1 == q.1 && p.2 == q.2
theorem eqB_iff{p q:Pt2}:eqB p q=true↔p=q:=by
 unfold eqB;rw[Bool.and_eq_true,beq_iff_eq,beq_iff_eq]
 exact⟨fun h=>Prod.ext h.1 h.2,fun h=>by rw[h];exact⟨rfl,rfl⟩⟩
theorem SegsN.cells{w:World}{a:Option Addr}{n c:Nat}{m:List Sg}(h:SegsN w (.slice a n c) m){k:Nat}(hk:k<m.length):∃ g o:Nat,a=some ⟨g,o,none⟩∧w.cell? ⟨g,o+k*4,none⟩=some (.int .i64 (sgAt m k).1.1)∧w.cell? ⟨g,o+k*4+1,none⟩=some (.int .i64 (sgAt m k).1.2)∧w.cell? ⟨g,o+k*4+2,none⟩=some (.int .i64 (sgAt m k).2.1)∧w.cell? ⟨g,o+k*4+3,none⟩=some (.int .i64 (sgAt m k).2.2):=by
 obtain⟨a',c',hv,-,hx⟩:=h.2 (fun e=>by rw[e] at hk;exact absurd hk (Nat.not_lt_zero _))
 injection hv with h1 h2 h3
 subst h1
 exact hx k hk
theorem SegsN.cap{w:World}{a:Option Addr}{n c:Nat}{m:List Sg}(h:SegsN w (.slice a n c) m):m.length≤c:=by
 by_cases hm:m=[]
 ·rw[hm];simp
 ·obtain⟨a',c',hv,hc,hx⟩:=h.2 hm
  injection hv with h1 h2 h3
  omega
end
section
open Go.RowKit Go.BigFrame
attribute [local go_sem ↓] eqPt neqPt
set_option maxHeartbeats 1000000 in
theorem Order_any(s t:Sg)(w:World):Calls Tryz.prog 84 #[.agg #[.int .i64 s.1.1,.int .i64 s.1.2,.int .i64 s.2.1,.int .i64 s.2.2],.agg #[.int .i64 t.1.1,.int .i64 t.1.2,.int .i64 t.2.1,.int .i64 t.2.2]] w fun e w' => e=.returned (.int .i64 (cmpS s t))∧Since w w' := by
 have H1:=Lib.hid (fun w=>Cmp_any s.1 t.1 w)
 have H2:=Lib.hid (fun w=>Cmp_any s.2 t.2 w)
 have HD:Hid (cmpS s t=if cmpP s.1 t.1=0 then cmpP s.2 t.2 else cmpP s.1 t.1):=rfl
 obtain⟨x,HX⟩:∃ x,Hid (x=cmpP s.1 t.1):=⟨_,rfl⟩
 obtain⟨y,HY⟩:∃ y,Hid (y=cmpP s.2 t.2):=⟨_,rfl⟩
 rw[← HX.out] at H1 HD
 rw[← HY.out] at H2 HD
 go_enter Tryz.func84,Tryz.ntmps84
 go_upto_region 1 with fail
 obtain⟨G,HG⟩:∃ G,G=w.heap.size:=⟨_,rfl⟩
 rw[← HG]
 refine atW (fun w' => Hid (Since w w')∧Blk w' G 37 #[.int .i64 s.1.1,.int .i64 s.1.2,.int .i64 s.2.1,.int .i64 s.2.2]∧Blk w' (G+1) 37 #[.int .i64 t.1.1,.int .i64 t.1.2,.int .i64 t.2.1,.int .i64 t.2.2]) ⟨((Since.rfl_ w).alloc _).alloc _,(Blk.new' HG).alloc _,Blk.new' (by simp[HG])⟩ ?_
 clear HG
 rintro w1 ⟨HW,hs,ht⟩
 have a_0:=hs.cell 0
 have a_1:=hs.cell 1
 have a_2:=hs.cell 2
 have a_3:=hs.cell 3
 simp only[List.getElem?_toArray,List.getElem?_cons_zero,List.getElem?_cons_succ] at a_0 a_1 a_2 a_3
 have b_0:=ht.cell 0
 have b_1:=ht.cell 1
 have b_2:=ht.cell 2
 have b_3:=ht.cell 3
 simp only[List.getElem?_toArray,List.getElem?_cons_zero,List.getElem?_cons_succ] at b_0 b_1 b_2 b_3
 clear hs ht
 go_wp2_with fail
 refine(H1.out _).mono ?_
 rintro e w2 ⟨rfl,hq⟩
 have hs2:Since w1 w2:=by
  obtain⟨q,os,rfl⟩:=hq
  exact grown_since _ _ _
 have HW2:=Lib.hid (HW.out.trans hs2)
 have a_2:=keepC hs2 _ _ a_2
 have a_3:=keepC hs2 _ _ a_3
 have b_2:=keepC hs2 _ _ b_2
 have b_3:=keepC hs2 _ _ b_3
 clear a_0 a_1 b_0 b_1 HW hs2 hq
 by_cases hx:x=0
 ·have hx0:(x == 0)=true:=by rw[beq_iff_eq];exact hx
  have HE:Hid (y=cmpS s t):=by show _=_;rw[HD.out,if_pos hx]
  clear hx HD
  go_wp2_with fail
  refine(H2.out _).mono ?_
  rintro e w3 ⟨rfl,hq⟩
  have HW3:Hid (Since w w3):=by
   obtain⟨q,os,rfl⟩:=hq
   exact HW2.out.trans (grown_since _ _ _)
  clear hq
  go_wp2_with fail
  go_ret
  exact⟨ret_int HE.out,HW3.out⟩
 ·have hx0:(x == 0)=false:=by rw[beq_eq_false_iff_ne];exact hx
  have HE:Hid (x=cmpS s t):=by show _=_;rw[HD.out,if_neg hx]
  clear hx HD
  go_wp2_with fail
  go_ret
  exact⟨ret_int HE.out,HW2.out⟩
set_option maxRecDepth 100000 in
set_option maxHeartbeats 2000000 in
theorem Apart_any{s t:Sg}(hs:SgOk s)(ht:SgOk t)(hm:smeetV s.1 s.2 t.1 t.2≤1∧(smeetV s.1 s.2 t.1 t.2=1→t.1=s.1∨t.1=s.2∨t.2=s.1∨t.2=s.2))(h0:0≤smeetV s.1 s.2 t.1 t.2)(w:World) :
  Calls Tryz.prog 85 #[.agg #[.int .i64 s.1.1,.int .i64 s.1.2,.int .i64 s.2.1,.int .i64 s.2.2],.agg #[.int .i64 t.1.1,.int .i64 t.1.2,.int .i64 t.2.1,.int .i64 t.2.2]] w fun e w' => e=.returned (.bool true)∧Since w w' := by
 have HM:=Lib.hid (fun w=>SMeetG_any hs.1 hs.2.1 ht.1 ht.2.1 w)
 obtain⟨mv,HMV⟩:∃ mv,Hid (mv=smeetV s.1 s.2 t.1 t.2):=⟨_,rfl⟩
 rw[← HMV.out] at HM hm h0
 have HC:=Lib.hid hm.2
 have hm1:=hm.1
 clear hm hs ht
 go_enter Tryz.func85,Tryz.ntmps85
 go_upto_region 1 with fail
 obtain⟨G,HG⟩:∃ G,G=w.heap.size:=⟨_,rfl⟩
 rw[← HG]
 refine atW (fun w' => Hid (Since w w')∧Blk w' G 37 #[.int .i64 s.1.1,.int .i64 s.1.2,.int .i64 s.2.1,.int .i64 s.2.2]∧Blk w' (G+1) 37 #[.int .i64 t.1.1,.int .i64 t.1.2,.int .i64 t.2.1,.int .i64 t.2.2]) ⟨((Since.rfl_ w).alloc _).alloc _,(Blk.new' HG).alloc _,Blk.new' (by simp[HG])⟩ ?_
 clear HG
 rintro w1 ⟨HW,hs,ht⟩
 have a_0:=hs.cell 0
 have a_1:=hs.cell 1
 have a_2:=hs.cell 2
 have a_3:=hs.cell 3
 simp only[List.getElem?_toArray,List.getElem?_cons_zero,List.getElem?_cons_succ] at a_0 a_1 a_2 a_3
 have b_0:=ht.cell 0
 have b_1:=ht.cell 1
 have b_2:=ht.cell 2
 have b_3:=ht.cell 3
 simp only[List.getElem?_toArray,List.getElem?_cons_zero,List.getElem?_cons_succ] at b_0 b_1 b_2 b_3
 have HBB:=Lib.hid (And.intro hs ht)
 clear hs ht
 go_wp2_with fail
 refine(HM.out _).mono ?_
 rintro e w2 ⟨rfl,hs⟩
 have HW2:=Lib.hid (HW.out.trans hs)
 have HB2:=Lib.hid (And.intro (hs.blk HBB.out.1) (hs.blk HBB.out.2))
 clear hs HW HBB HM a_0 a_1 a_2 a_3 b_0 b_1 b_2 b_3
 by_cases h:mv=0
 ·have e1:(mv == 0)=true:=by rw[beq_iff_eq];exact h
  clear h
  go_wp2_with fail
  go_ret
  exact⟨rfl,HW2.out⟩
 ·have e1:(mv == 0)=false:=by rw[beq_eq_false_iff_ne];exact h
  have e2:(mv == 1)=true:=by rw[beq_iff_eq];omega
  have hcc:=HC.out (by omega)
  clear h
  obtain⟨hs,ht⟩:=HB2.out
  have a_0:=hs.cell 0
  have a_1:=hs.cell 1
  have a_2:=hs.cell 2
  have a_3:=hs.cell 3
  simp only[List.getElem?_toArray,List.getElem?_cons_zero,List.getElem?_cons_succ] at a_0 a_1 a_2 a_3
  have b_0:=ht.cell 0
  have b_1:=ht.cell 1
  have b_2:=ht.cell 2
  have b_3:=ht.cell 3
  simp only[List.getElem?_toArray,List.getElem?_cons_zero,List.getElem?_cons_succ] at b_0 b_1 b_2 b_3
  clear hs ht
  have HQ:Hid ((((eqB s.1 t.1 || eqB s.1 t.2) || eqB s.2 t.1) || eqB s.2 t.2)=true):=by
   show _=_
   rcases hcc with e | e | e | e
   ·rw[eqB_iff.2 e.symm];rfl
   ·rw[eqB_iff.2 e.symm];simp
   ·rw[eqB_iff.2 e.symm];simp
   ·rw[eqB_iff.2 e.symm];simp
  clear hcc
  obtain⟨q1,H1⟩:∃ q1,Hid (q1=eqB s.1 t.1):=⟨_,rfl⟩
  obtain⟨q2,H2⟩:∃ q2,Hid (q2=eqB s.1 t.2):=⟨_,rfl⟩
  obtain⟨q3,H3⟩:∃ q3,Hid (q3=eqB s.2 t.1):=⟨_,rfl⟩
  obtain⟨q4,H4⟩:∃ q4,Hid (q4=eqB s.2 t.2):=⟨_,rfl⟩
  rw[← H1.out,← H2.out,← H3.out,← H4.out] at HQ
  have e3:(s.1.1 == t.1.1 && s.1.2 == t.1.2)=q1:=H1.out.symm
  have e4:(s.1.1 == t.2.1 && s.1.2 == t.2.2)=q2:=H2.out.symm
  have e5:(s.2.1 == t.1.1 && s.2.2 == t.1.2)=q3:=H3.out.symm
  have e6:(s.2.1 == t.2.1 && s.2.2 == t.2.2)=q4:=H4.out.symm
  clear H1 H2 H3 H4
  cases q1
  ·cases q2
   ·cases q3
    ·have hq4:q4=true:=by have:=HQ.out;simpa using this
     subst hq4
     go_wp2_with fail
     go_ret
     exact⟨rfl,HW2.out⟩
    ·go_wp2_with fail
     go_ret
     exact⟨rfl,HW2.out⟩
   ·go_wp2_with fail
    go_ret
    exact⟨rfl,HW2.out⟩
  ·go_wp2_with fail
   go_ret
   exact⟨rfl,HW2.out⟩
theorem smeet_nn(a b c d:Pt2):0≤smeetV a b c d:=by unfold smeetV;split <;> omega
theorem cmpP_neg{a b:Pt2}:cmpP a b<0↔lx a b:=by
 have e:=cmpP_lt a b
 unfold Go.Proofs.ltOf at e
 rw[← lxB_lx,← e,decide_eq_true_eq]
theorem cmpS_neg{s t:Sg}:cmpS s t<0↔lxG s t=true:=by
 have e:=cmpS_lt s t
 unfold Go.Proofs.ltOf at e
 rw[← e,decide_eq_true_eq]
set_option maxRecDepth 100000 in
set_option maxHeartbeats 4000000 in
theorem ArrCheck_any (v:Value) (E:List Sg) (w:World) (hv:SegsN w v E) (hE:RndOk E) (hl:E.length≤3000) :
  Calls Tryz.prog 63 #[v] w fun e w' => e=.returned (.int .i64 0)∧Since w w' := by
 obtain⟨a,c,rfl⟩:=hv.slice
 have hcap:=hv.cap
 have HV:=Lib.hid hv
 have HE:=Lib.hid hE
 obtain⟨n,hnn⟩:∃ n,n=E.length:=⟨_,rfl⟩
 have HN:=Lib.hid hnn
 rw[← hnn] at hl hcap HV ⊢
 have HSEG:=Lib.hid (fun k (hk:k<n)=>(show sgAt E k∈E from sgAt_mem (by rw[← HN.out];exact hk)))
 have HSR:=Lib.hid (fun j k (hjk:j<k) (hk:k<n)=>(show lxG (sgAt E j) (sgAt E k)=true from by
  have hp:=List.pairwise_iff_getElem.1 HE.out.srt j k (by rw[← HN.out];omega) (by rw[← HN.out];omega) hjk
  have e1:sgAt E j=E[j]'(by rw[← HN.out];omega):=by simp[sgAt,List.getD,show j<E.length by rw[← HN.out];omega]
  have e2:sgAt E k=E[k]'(by rw[← HN.out];omega):=by simp[sgAt,List.getD,show k<E.length by rw[← HN.out];omega]
  rw[e1,e2];exact hp))
 clear hv hE hnn
 have g1:decide ((3000:Int)<(n:Int))=false:=by rw[decide_eq_false_iff_not];omega
 go_enter Tryz.func63,Tryz.ntmps63
 go_upto_region 4 with fail
 go_loopw [14] (fun v wr=>∃ k:Nat,k≤n∧v=.int .i64 k∧Hid (Since w wr)) (fun v _=>n-(intOf v).toNat)
 case atStart=>exact⟨0,by omega,rfl,Since.rfl_ w⟩
 case round =>
  obtain⟨k,hk,rfl,HR⟩:=hrel
  rcases Nat.lt_or_ge k n with hlt | hge
  ·have hz:decide ((k:Int)<(n:Int))=true:=by rw[decide_eq_true_eq];omega
   obtain⟨g,o,rfl,h1,h2,h3,h4⟩:=HV.out.cells (k:=k) (by rw[← HN.out];exact hlt)
   obtain⟨s,hs⟩:∃ s,s=sgAt E k:=⟨_,rfl⟩
   have HS:Hid (s∈E):=by show s∈E;rw[hs];exact HSEG.out k hlt
   rw[← hs] at h1 h2 h3 h4
   have h1:=keepC HR.out _ _ h1
   have h2:=keepC HR.out _ _ h2
   have h3:=keepC HR.out _ _ h3
   have h4:=keepC HR.out _ _ h4
   have HSE:=Lib.hid hs
   have O1:=Lib.hid (HE.out.ok s HS.out).1
   have O2:=Lib.hid (HE.out.ok s HS.out).2.1
   have HC:=Lib.hid (fun w=>Cmp_any s.1 s.2 w)
   obtain⟨x,HX⟩:∃ x,Hid (x=cmpP s.1 s.2):=⟨_,rfl⟩
   rw[← HX.out] at HC
   have hx:decide ((0:Int)≤x)=false:=by
    rw[decide_eq_false_iff_not,HX.out]
    have:=cmpP_neg.2 (HE.out.lt s HS.out)
    omega
   have i1:(0:Int)≤(k:Int):=by omega
   have i2:(k:Int)<(n:Int):=by omega
   clear hs
   go_upto_region 6 with fail
   obtain⟨G,HG⟩:∃ G,G=wr.heap.size:=⟨_,rfl⟩
   rw[← HG]
   refine atW (fun w' => Since wr w' ∧ Blk w' G 37 #[.int .i64 s.1.1,.int .i64 s.1.2,.int .i64 s.2.1,.int .i64 s.2.2]) ⟨(Since.rfl_ wr).alloc _,Blk.new' HG⟩ ?_
   rintro w1 ⟨hs,hb⟩
   have r_0:=hb.cell 0
   have r_1:=hb.cell 1
   have r_2:=hb.cell 2
   have r_3:=hb.cell 3
   simp only[List.getElem?_toArray,List.getElem?_cons_zero,List.getElem?_cons_succ] at r_0 r_1 r_2 r_3
   have HS1:=Lib.hid (HR.out.trans hs)
   have HB1:=Lib.hid hb
   clear hs hb HG h1 h2 h3 h4 HR
   go_wp2_with fail
   refine(Ok_val O1.out _).mono ?_
   rintro e w2 ⟨rfl,hs⟩
   have HS2:=Lib.hid (HS1.out.trans hs)
   have HB2:=Lib.hid (hs.blk HB1.out)
   have r_0:=keepC hs _ _ r_0
   have r_1:=keepC hs _ _ r_1
   have r_2:=keepC hs _ _ r_2
   have r_3:=keepC hs _ _ r_3
   clear hs HS1 HB1
   go_wp2_with fail
   refine(Ok_val O2.out _).mono ?_
   rintro e w3 ⟨rfl,hs⟩
   have HS3:=Lib.hid (HS2.out.trans hs)
   have HB3:=Lib.hid (hs.blk HB2.out)
   have r_0:=keepC hs _ _ r_0
   have r_1:=keepC hs _ _ r_1
   have r_2:=keepC hs _ _ r_2
   have r_3:=keepC hs _ _ r_3
   clear hs HS2 HB2
   go_wp2_with fail
   refine(HC.out _).mono ?_
   rintro e w4 ⟨rfl,hq⟩
   have hs:Since w3 w4:=by
    obtain⟨q,os,rfl⟩:=hq
    exact grown_since _ _ _
   have HS4:=Lib.hid (HS3.out.trans hs)
   have HB4:=Lib.hid (hs.blk HB3.out)
   clear hs hq HS3 HB3 HC r_0 r_1 r_2 r_3
   by_cases hk0:k=0
   ·subst hk0
    have z1:decide ((0:Int)<((0:Nat):Int))=false:=by decide
    go_upto_region 10 with fail
    apply region_facts 12 (fun w' => Since w4 w')
    case hm=>kernel_rfl
    case hB=>kernel_rfl
    case hS=>exact(Since.rfl_ w4).drew
    case h =>
    simp only[List.take_succ_cons,List.take_zero,List.drop_succ_cons,List.drop_zero]
    iterate 3 (apply wpO_det;(case hw=>rfl);(case h=>intro hFm wx hS_ hF_ K hK;go_big_quiet_op;first | exact hK _ rfl | (apply Exists.intro;refine⟨fun _=>?_,?_⟩;(focus (first | (intro hC;have hC:=hC.out;(try simp only[hC,Result.andThen]);first | exact⟨True.intro,rfl⟩ | exact⟨rfl,rfl⟩ | rfl)));exact hK _ rfl));(case' k=>simp only[Act.put,List.setIfInBounds_toArray,List.set_cons_succ,List.set_cons_zero,List.cons_append,List.nil_append]))
    apply wpO_skip
    case hw=>rfl
    case k =>
    simp only[Act.put,List.setIfInBounds_toArray,List.set_cons_succ,List.set_cons_zero,List.cons_append,List.nil_append]
    apply wpO_skip
    case hw=>rfl
    case k =>
    simp only[Act.put,List.setIfInBounds_toArray,List.set_cons_succ,List.set_cons_zero,List.cons_append,List.nil_append]
    apply wpO_skip
    case hw=>rfl
    case k =>
    simp only[Act.put,List.setIfInBounds_toArray,List.set_cons_succ,List.set_cons_zero,List.cons_append,List.nil_append]
    apply wpO_skip
    case hw=>rfl
    case k =>
    simp only[Act.put,List.setIfInBounds_toArray,List.set_cons_succ,List.set_cons_zero,List.cons_append,List.nil_append]
    apply wpO_skip
    case hw=>rfl
    case k =>
    simp only[Act.put,List.setIfInBounds_toArray,List.set_cons_succ,List.set_cons_zero,List.cons_append,List.nil_append]
    apply wpO_skip
    case hw=>rfl
    case k =>
    simp only[Act.put,List.setIfInBounds_toArray,List.set_cons_succ,List.set_cons_zero,List.cons_append,List.nil_append]
    apply wpO_skip
    case hw=>rfl
    case k =>
    simp only[Act.put,List.setIfInBounds_toArray,List.set_cons_succ,List.set_cons_zero,List.cons_append,List.nil_append]
    apply wpO_skip
    case hw=>rfl
    case k =>
    simp only[Act.put,List.setIfInBounds_toArray,List.set_cons_succ,List.set_cons_zero,List.cons_append,List.nil_append]
    (apply wpO_det;(case hw=>rfl);(case h=>intro hFm wx hS_ hF_ K hK;go_big_quiet_op;first | exact hK _ rfl | (apply Exists.intro;refine⟨fun _=>?_,?_⟩;(focus (first | (intro hC;have hC:=hC.out;(try simp only[hC,Result.andThen]);first | exact⟨True.intro,rfl⟩ | exact⟨rfl,rfl⟩ | rfl)));exact hK _ rfl));(case' k=>simp only[Act.put,List.setIfInBounds_toArray,List.set_cons_succ,List.set_cons_zero,List.cons_append,List.nil_append]))
    refine wpO_nil ?_
    intro w5 hS hF hB
    (try simp[allF] at hF)
    (try simp[List.pairwise_cons] at hB)
    have HS5:=Lib.hid (HS4.out.trans hS)
    clear hS hF hB HS4 HB4
    go_wp2_with fail
    go_roundw
    case rel=>exact⟨0+1,by omega,by go_num,HS5⟩
    case measure=>simp[intOf];omega
   ·obtain⟨i,hki⟩:∃ i,k=i+1:=⟨k-1,by omega⟩
    obtain⟨g',o',hgo,h1,h2,h3,h4⟩:=HV.out.cells (k:=i) (by rw[← HN.out];omega)
    injection hgo with hgo
    injection hgo with hg1 hg2
    subst hg1 hg2
    obtain⟨t,ht⟩:∃ t,t=sgAt E i:=⟨_,rfl⟩
    rw[← ht] at h1 h2 h3 h4
    have HOR:=Lib.hid (fun w=>Order_any t s w)
    obtain⟨y,HY⟩:∃ y,Hid (y=cmpS t s):=⟨_,rfl⟩
    rw[← HY.out] at HOR
    have hy:decide ((0:Int)≤y)=false:=by
     rw[decide_eq_false_iff_not,HY.out,ht,HSE.out]
     have:=cmpS_neg.2 (HSR.out i k (by omega) hlt)
     omega
    have iw:IntKind.i64.wrap ((k:Int)-1)=(i:Int):=by
     rw[i64wc,show(k:Int)-1=i by omega]
     exact wrap_id (by omega)
    have z1:decide ((0:Int)<(k:Int))=true:=by rw[decide_eq_true_eq];omega
    have z2:decide (0<k)=true:=by rw[decide_eq_true_eq];omega
    have z3:0<k:=by omega
    have i3:(0:Int)≤(i:Int):=by omega
    have i4:(i:Int)<(n:Int):=by omega
    have KF:=Lib.hid (fun w' (h:Since w4 w')=>(show w'.cell? ⟨g,o+i*4,none⟩=some (.int .i64 t.1.1)∧w'.cell? ⟨g,o+i*4+1,none⟩=some (.int .i64 t.1.2)∧w'.cell? ⟨g,o+i*4+2,none⟩=some (.int .i64 t.2.1)∧w'.cell? ⟨g,o+i*4+3,none⟩=some (.int .i64 t.2.2)∧w'.cell? ⟨G,0,none⟩=some (.int .i64 s.1.1)∧w'.cell? ⟨G,1,none⟩=some (.int .i64 s.1.2)∧w'.cell? ⟨G,2,none⟩=some (.int .i64 s.2.1)∧w'.cell? ⟨G,3,none⟩=some (.int .i64 s.2.2) from
     ⟨keepC (HS4.out.trans h) _ _ h1,keepC (HS4.out.trans h) _ _ h2,keepC (HS4.out.trans h) _ _ h3,keepC (HS4.out.trans h) _ _ h4,(h.blk HB4.out).cell 0,(h.blk HB4.out).cell 1,(h.blk HB4.out).cell 2,(h.blk HB4.out).cell 3⟩))
    clear hki ht h1 h2 h3 h4 hk0
    go_upto_region 10 with fail
    apply region_facts 12 (fun w' => Since w4 w')
    case hm=>kernel_rfl
    case hB=>kernel_rfl
    case hS=>exact(Since.rfl_ w4).drew
    case h =>
    simp only[List.take_succ_cons,List.take_zero,List.drop_succ_cons,List.drop_zero]
    iterate 9 (apply wpO_det;(case hw=>rfl);(case h=>intro hFm wx hS_ hF_ K hK;go_big_quiet_op;first | exact hK _ rfl | (apply Exists.intro;refine⟨fun _=>?_,?_⟩;(focus (first | (intro hC;have hC:=KF.out _ hC.out.1;(try simp only[hC,Result.andThen]);first | exact⟨True.intro,rfl⟩ | exact⟨rfl,rfl⟩ | rfl)));exact hK _ rfl));(case' k=>simp only[Act.put,List.setIfInBounds_toArray,List.set_cons_succ,List.set_cons_zero,List.cons_append,List.nil_append]))
    (apply wpO_det;(case hw=>rfl);(case h=>intro hFm wx hS_ hF_ K hK;go_big_quiet_op;first | exact hK _ rfl | (apply Exists.intro;refine⟨fun _=>?_,?_⟩;(focus (first | (intro hC;go_at_call 84;refine(HOR.out _).mono ?_;rintro e w' ⟨rfl,hb⟩;refine⟨rfl,?_⟩;exact cls_call hFm hC hb)));exact hK _ rfl));(case' k=>simp only[Act.put,List.setIfInBounds_toArray,List.set_cons_succ,List.set_cons_zero,List.cons_append,List.nil_append]))
    iterate 2 (apply wpO_det;(case hw=>rfl);(case h=>intro hFm wx hS_ hF_ K hK;go_big_quiet_op;first | exact hK _ rfl | (apply Exists.intro;refine⟨fun _=>?_,?_⟩;(focus (first | (intro hC;have hC:=KF.out _ hC.out.1;(try simp only[hC,Result.andThen]);first | exact⟨True.intro,rfl⟩ | exact⟨rfl,rfl⟩ | rfl)));exact hK _ rfl));(case' k=>simp only[Act.put,List.setIfInBounds_toArray,List.set_cons_succ,List.set_cons_zero,List.cons_append,List.nil_append]))
    refine wpO_nil ?_
    intro w5 hS hF hB
    (try simp[allF] at hF)
    (try simp[List.pairwise_cons] at hB)
    have HS5:=Lib.hid (HS4.out.trans hS)
    clear hS hF hB HS4 HB4 KF iw HOR
    go_wp2_with fail
    go_roundw
    case rel=>exact⟨k+1,by omega,by go_num,HS5⟩
    case measure=>simp[intOf];omega
  ·obtain rfl:k=n:=by omega
   have hz:decide ((k:Int)<(k:Int))=false:=by rw[decide_eq_false_iff_not];omega
   go_upto_region 14 with fail
   obtain⟨wz,rfl⟩:∃ wz,wz=wr:=⟨_,rfl⟩
   clear hz
   go_loopw [50] (fun v wr=>∃ j:Nat,j≤k∧v=.int .i64 j∧Hid (Since w wr)) (fun v _=>k-(intOf v).toNat)
   case atStart=>exact⟨0,by omega,by go_num,HR⟩
   case round =>
    clear HR
    obtain⟨j,hj,rfl,HR⟩:=hrel
    rcases Nat.lt_or_ge j k with hlt | hge2
    ·have hz:decide ((j:Int)<(k:Int))=true:=by rw[decide_eq_true_eq];omega
     obtain⟨g,o,rfl,h1,h2,h3,h4⟩:=HV.out.cells (k:=j) (by rw[← HN.out];exact hlt)
     obtain⟨s,hs⟩:∃ s,s=sgAt E j:=⟨_,rfl⟩
     have HS:Hid (s∈E):=by show s∈E;rw[hs];exact HSEG.out j hlt
     rw[← hs] at h1 h2 h3 h4
     have h1:=keepC HR.out _ _ h1
     have h2:=keepC HR.out _ _ h2
     have h3:=keepC HR.out _ _ h3
     have h4:=keepC HR.out _ _ h4
     have HSE:=Lib.hid hs
     have i1:(0:Int)≤(j:Int):=by omega
     have i2:(j:Int)<(k:Int):=by omega
     have i3:(j:Int)≤(k:Int):=by omega
     clear hs
     go_upto_region 16 with fail
     obtain⟨G6,HG6⟩:∃ G6,G6=wr.heap.size:=⟨_,rfl⟩
     rw[← HG6]
     refine atW (fun w' => Hid (Since w w')∧Hid (Blk w' G6 37 #[.int .i64 s.1.1,.int .i64 s.1.2,.int .i64 s.2.1,.int .i64 s.2.2])) ⟨HR.out.alloc _,Blk.new' HG6⟩ ?_
     clear HR HG6 h1 h2 h3 h4
     rintro w4 ⟨HS4,HB4⟩
     go_upto_region 17 with fail
     go_loopw [59] (fun v59 wr=>∃ i:Nat,i≤j∧v59=.int .i64 i∧Hid (Since w wr)∧Hid (Blk wr G6 37 #[.int .i64 s.1.1,.int .i64 s.1.2,.int .i64 s.2.1,.int .i64 s.2.2])) (fun v59 _=>j-(intOf v59).toNat)
     case atStart=>exact⟨0,by omega,by go_num,HS4,HB4⟩
     case round =>
      clear HS4 HB4
      obtain⟨i,hi,rfl,HR,HB⟩:=hrel
      rcases Nat.lt_or_ge i j with hlt3 | hge3
      ·have hz2:decide ((i:Int)<(j:Int))=true:=by rw[decide_eq_true_eq];omega
       obtain⟨g',o',hgo,h1,h2,h3,h4⟩:=HV.out.cells (k:=i) (by rw[← HN.out];omega)
       injection hgo with hgo
       injection hgo with hg1 hg2
       subst hg1 hg2
       obtain⟨t,ht⟩:∃ t,t=sgAt E i:=⟨_,rfl⟩
       have HT:Hid (t∈E):=by show t∈E;rw[ht];exact HSEG.out i (by omega)
       have HST:Hid (s≠t):=by
        show s≠t
        rw[ht,HSE.out]
        intro e
        have hp:=HSR.out i j hlt3 (by omega)
        rw[e,lxG_irr] at hp
        cases hp
       rw[← ht] at h1 h2 h3 h4
       have h1:=keepC HR.out _ _ h1
       have h2:=keepC HR.out _ _ h2
       have h3:=keepC HR.out _ _ h3
       have h4:=keepC HR.out _ _ h4
       have HAP:=Lib.hid (fun w=>Apart_any (HE.out.ok s HS.out) (HE.out.ok t HT.out) (HE.out.meet s HS.out t HT.out HST.out) (smeet_nn _ _ _ _) w)
       have j1:(0:Int)≤(i:Int):=by omega
       have j2:(i:Int)<(j:Int):=by omega
       clear ht
       go_upto_region 19 with fail
       obtain⟨G8,HG8⟩:∃ G8,G8=wr.heap.size:=⟨_,rfl⟩
       rw[← HG8]
       refine atW (fun w' => Hid (Since w w')∧Blk w' G6 37 #[.int .i64 s.1.1,.int .i64 s.1.2,.int .i64 s.2.1,.int .i64 s.2.2]∧Blk w' G8 37 #[.int .i64 t.1.1,.int .i64 t.1.2,.int .i64 t.2.1,.int .i64 t.2.2]) ⟨HR.out.alloc _,HB.out.alloc _,Blk.new' HG8⟩ ?_
       clear HR HB HG8 h1 h2 h3 h4
       rintro w5 ⟨HS5,hb6,hb8⟩
       have a_0:=hb6.cell 0
       have a_1:=hb6.cell 1
       have a_2:=hb6.cell 2
       have a_3:=hb6.cell 3
       simp only[List.getElem?_toArray,List.getElem?_cons_zero,List.getElem?_cons_succ] at a_0 a_1 a_2 a_3
       have b_0:=hb8.cell 0
       have b_1:=hb8.cell 1
       have b_2:=hb8.cell 2
       have b_3:=hb8.cell 3
       simp only[List.getElem?_toArray,List.getElem?_cons_zero,List.getElem?_cons_succ] at b_0 b_1 b_2 b_3
       have HB6:=Lib.hid hb6
       clear hb6 hb8
       go_wp2_with fail
       refine(HAP.out _).mono ?_
       rintro e w6 ⟨rfl,hs⟩
       have HS6:=Lib.hid (HS5.out.trans hs)
       have HB7:=Lib.hid (hs.blk HB6.out)
       clear hs HS5 HB6 HAP a_0 a_1 a_2 a_3 b_0 b_1 b_2 b_3
       go_wp2_with fail
       go_roundw
       case rel=>exact⟨i+1,by omega,by go_num,HS6,HB7⟩
       case measure=>simp[intOf];omega
      ·obtain rfl:i=j:=by omega
       have hz2:decide ((i:Int)<(i:Int))=false:=by rw[decide_eq_false_iff_not];omega
       go_wp2_with fail
       go_roundw
       case rel=>exact⟨i+1,by omega,by go_num,HR⟩
       case measure=>simp[intOf];omega
    ·obtain rfl:j=k:=by omega
     have hz:decide ((j:Int)<(j:Int))=false:=by rw[decide_eq_false_iff_not];omega
     go_wp2_with fail
     go_ret
     exact⟨rfl,HR.out⟩
end
end Go.Proofs.YtdnccjdlmepafaaGreat
