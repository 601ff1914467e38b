/-
  The walk of arr's begin: the points. Conditions: those that each lemma names.
-/
import Derived.Test.YtdnccjdlmepafaaGreatK18
import Derived.Test.YtdnccjdlmepafaaGreatK17
import Derived.Test.YtdnccjdlmepafaaGreatK16
import Derived.Test.YtdnccjdlmepafaaGreatK05
import Derived.Test.YtdnccjdlmepafaaGreatK21
set_option linter.unusedSimpArgs false
set_option linter.unusedVariables false
set_option linter.constructorNameAsVariable false
namespace Go.Proofs.YtdnccjdlmepafaaGreat
section
open Go.RowKit Go.BigFrame Go.Maps
attribute [local go_sem ↓] eqPt neqPt
def ptsK(E:List Sg)(k:Nat):List Pt2:=(List.range k).flatMap fun i=>[(sgAt E i).1,(sgAt E i).2]
theorem ptsK_succ(E:List Sg)(k:Nat):ptsK E (k+1)=ptsK E k++[(sgAt E k).1,(sgAt E k).2]:=by unfold ptsK;rw[List.range_succ,List.flatMap_append];simp
theorem ptsK_len(E:List Sg)(k:Nat):(ptsK E k).length=2*k:=by
 induction k with
 | zero=>rfl
 | succ k ih=>rw[ptsK_succ,List.length_append,ih];simp;omega
theorem Rws.ne_blk{w:World}{B:Nat}{L:List Rw}(h:Rws w B L){i:Nat}{r:Rw}(hi:L[i]? = some r){g:Nat}{t:TypeId}{cs:Array Value}(hb:Blk w g t cs)(ht:t≠r.t):r.v.ownBlock≠some g:=fun e=>by
 obtain⟨-,⟨h1,-⟩ | ⟨g',cap,cur,h1,-,hg,-⟩⟩:=h.ok i r hi
 ·rw[h1] at e;cases e
 ·rw[h1] at e
  injection e with e
  dsimp only at e
  subst e
  unfold Blk at hb
  rw[hb] at hg
  injection hg with hg
  injection hg with _ h2
  exact ht h2
theorem Rws.ge{w:World}{B:Nat}{L:List Rw}(h:Rws w B L){i:Nat}{r:Rw}(hi:L[i]? = some r){g:Nat}(e:r.v.ownBlock=some g):B≤g∧g<w.heap.size:=(h.ok i r hi).lt g e
theorem ApK.since{B base:Nat}{As:List Ap}{w0 w w' : World}(h:ApK B base As w w')(hs:Since w0 w)(hB:w0.heap.size≤B)(ho:∀ A∈As,∀ g,A.v.ownBlock=some g→B≤g):Since w0 w' :=
 ⟨h.os.trans hs.os,h.tape.trans hs.tape,h.output.trans hs.output,Nat.le_trans hs.size h.size,fun i hi=>(h.block i (Nat.lt_of_lt_of_le hi hs.size) fun A hA e=>by have:=ho A hA i e;omega).trans (hs.block i hi)⟩
theorem Rws.keepA{w w' : World}{B base:Nat}{L:List Rw}(h:Rws w B L){i:Nat}{r:Rw}(hi:L[i]? = some r){A:Ap}(hA:A.v=r.v)(hK:ApK B base [A] w w'){g:Nat}{t:TypeId}{cs:Array Value}(hb:Blk w g t cs)(hne:t≠r.t∨g<B):Blk w' g t cs :=
 hK.blk (fun A' hA' e=>by
  rw[List.mem_singleton.1 hA',hA] at e
  rcases hne with k | k
  ·exact h.ne_blk hi hb k e
  ·have:=(h.ge hi e).1;omega) hb
theorem Rws.turn{w w' : World}{B:Nat}{L:List Rw}(h:Rws w B L){i:Nat}{r:Rw}(hi:L[i]? = some r){g n c:Nat}(hv:r.v=.slice (some ⟨g,0,none⟩) n c)(hon:Only g w w')(r' : Rw){n' c' : Nat}(hv' : r'.v=.slice (some ⟨g,0,none⟩) n' c')(ho:w'.ownsRow B r'.t r'.k r'.v r'.n r'.xs):Rws w' B (L.set i r'):=by
 have e:r.v.ownBlock=some g:=by rw[hv];rfl
 refine h.upd r' hi (by rw[e];exact hon) ho fun b hb=>.inl ?_
 rw[hv'] at hb
 rw[e];exact hb
theorem Rws.keepO{w w' : World}{B:Nat}{L:List Rw}(h:Rws w B L){i:Nat}{r:Rw}(hi:L[i]? = some r){g n c:Nat}(hv:r.v=.slice (some ⟨g,0,none⟩) n c)(hon:Only g w w'){g' : Nat}{t:TypeId}{cs:Array Value}(hb:Blk w g' t cs)(hne:t≠r.t∨g' < B):Blk w' g' t cs:=by
 have e:r.v.ownBlock=some g:=by rw[hv];rfl
 refine hon.blk hb fun k=>?_
 subst k
 rcases hne with k | k
 ·exact h.ne_blk hi hb k e
 ·have:=(h.ge hi e).1;omega
theorem Rws.lo{w:World}{B:Nat}{L:List Rw}(h:Rws w B L){i:Nat}{r:Rw}(hi:L[i]? = some r){A:Ap}(hA:A.v=r.v):∀ A' ∈ [A],∀ g,A'.v.ownBlock=some g→B≤g∧g<w.heap.size:=fun A' hA' g e=>by
 rw[List.mem_singleton.1 hA',hA] at e
 exact h.ge hi e
def idP(P:List Pt2)(p:Pt2):Nat:=P.idxOf p
def endH(E:List Sg)(h:Nat):Pt2:=if h % 2=0 then(sgAt E (h/2)).1 else(sgAt E (h/2)).2
def frH(E:List Sg)(P:List Pt2)(h:Nat):Nat:=idP P (endH E h)
def twH(h:Nat):Nat:=if h % 2=0 then h+1 else h-1
def hfK(E:List Sg)(P:List Pt2)(k:Nat):List Hf:=(List.range k).map fun h=>((frH E P h:Int),(twH h:Int),0,0)
def outK(E:List Sg)(P:List Pt2)(k v:Nat):List Int:=((List.range k).filter fun h=>frH E P h=v).map fun h:Nat=>(h:Int)
theorem hfK_succ(E:List Sg)(P:List Pt2)(k:Nat):hfK E P (k+1)=hfK E P k++[((frH E P k:Int),(twH k:Int),0,0)]:=by unfold hfK;rw[List.range_succ,List.map_append];rfl
theorem hfK_len(E:List Sg)(P:List Pt2)(k:Nat):(hfK E P k).length=k:=by simp[hfK]
theorem outK_same{E:List Sg}{P:List Pt2}{k v:Nat}(h:frH E P k=v):outK E P (k+1) v=outK E P k v++[(k:Int)]:=by
 unfold outK;rw[List.range_succ,List.filter_append];simp[h]
theorem outK_other{E:List Sg}{P:List Pt2}{k v:Nat}(h:frH E P k≠v):outK E P (k+1) v=outK E P k v:=by
 unfold outK;rw[List.range_succ,List.filter_append];simp[h]
theorem outK_len(E:List Sg)(P:List Pt2)(k v:Nat):(outK E P k v).length≤k:=by
 unfold outK;rw[List.length_map];exact Nat.le_trans (List.length_filter_le _ _) (by simp)
theorem idP_at{P:List Pt2}{p:Pt2}(h:p∈P):idP P p<P.length∧pAt P (idP P p)=p:=by
 have hl:P.idxOf p<P.length:=List.idxOf_lt_length_iff.2 h
 exact⟨hl,by unfold idP pAt;simp[List.getD,hl]⟩
theorem endH_mem{E:List Sg}{n h:Nat}(hh:h<2*n)(hn:n=E.length):endH E h∈ptsK E n:=by
 unfold ptsK endH
 refine List.mem_flatMap.2 ⟨h/2,List.mem_range.2 (by omega),?_⟩
 split <;> simp
theorem blk1{w:World}{g:Nat}{t:TypeId}{x:Value}(h:Blk w g t #[x]):∀ j v,[x][j]? = some v→w.cell? ((⟨g,0,none⟩:Addr).add j)=some v:=by
 intro j v hv
 have e:(⟨g,0,none⟩:Addr).add j=⟨g,j,none⟩:=by unfold Addr.add;split <;> simp_all
 rw[e,h.cell]
 simpa using hv
theorem one1(k:IntKind)(a:Int):∀ u∈[Value.int k a],u.oneCell' = true:=by
 intro u hu
 rw[List.mem_singleton.1 hu];rfl
def stB(gP cP gO V:Nat)(P:List Pt2)(vH:Value)(H:List Hf)(O:List (Value×List Int)):St:=⟨.slice (some ⟨gP,0,none⟩) P.length cP,vH,nilV,nilV,nilV,nilV,nilV,.slice (some ⟨gO,0,none⟩) V V,P,H,[],[],[],[],[],O⟩
theorem stB_set(gP cP gO V:Nat)(P:List Pt2)(vH:Value)(H:List Hf)(O:List (Value×List Int))(v:Nat)(x:Value×List Int) :
  ((stB gP cP gO V P vH H O).rows.set (8+v) (rI x.1 x.2)).set 7 ⟨.slice (some ⟨gO,0,none⟩) V V,22,1,O.length,(O.map Prod.fst).set v x.1⟩=(stB gP cP gO V P vH H (O.set v x)).rows:=St.rows_setO (s:=stB gP cP gO V P vH H O) x
theorem made_nil(n:Nat):(madeCells (Value.slice none 0 0).cells n).toList=(List.replicate n (nilV,([]:List Int))).map Prod.fst:=by
 rw[List.map_replicate]
 apply List.ext_getElem
 ·simp[madeCells]
 ·intro i h1 h2
  simp[madeCells,nilV,Value.cells,Nat.mod_one]
theorem rowP_cells{w:World}{B g c:Nat}{l:List Pt2}(h:w.ownsRow B 36 2 (.slice (some ⟨g,0,none⟩) l.length c) l.length (l.flatMap ptV)){j:Nat}(hj:j<l.length) :
  w.cell? ⟨g,j*2,none⟩=some (.int .i64 (pAt l j).1)∧w.cell? ⟨g,j*2+1,none⟩=some (.int .i64 (pAt l j).2):=by
 have e:pAt l j=l[j]:=by simp[pAt,List.getD,hj]
 rw[e]
 refine⟨?_,?_⟩
 ·rw[h.cellAt _ (by omega)];have:=flat_at ptV_len l j 0 hj (by decide);simpa[ptV] using this
 ·rw[h.cellAt _ (by omega),flat_at ptV_len l j 1 hj (by decide)];rfl
theorem Rws.some_{w:World}{B:Nat}{L:List Rw}(h:Rws w B L){i:Nat}{r:Rw}(hi:L[i]? = some r)(hn:0<r.n):∃ g c,r.v=.slice (some ⟨g,0,none⟩) r.n c:=by
 obtain⟨-,⟨h1,h2⟩ | ⟨g',cap,cur,h1,-⟩⟩:=h.ok i r hi
 ·omega
 ·exact⟨g',cap,h1⟩
theorem Mk.see{w:World}{G gP cP gH cH:Nat}{s:St}(hM:Mk w G s)(h1:s.vP=.slice (some ⟨gP,0,none⟩) s.P.length cP)(h2:s.vH=.slice (some ⟨gH,0,none⟩) s.H.length cH):See w G gP cP gH cH s.P s.H:=by
 have r0:=hM.rows.ok 0 _ rfl
 have r1:=hM.rows.ok 1 _ rfl
 simp only[h1,h2] at r0 r1
 refine⟨?_,?_,fun j hj=>rowP_cells r0 hj,fun j hj=>(rowH_cells r1 hj).1⟩
 ·have:=hM.blk.cell 0
  rw[this]
  simp[h1]
 ·have:=hM.blk.cell 1
  rw[this]
  simp[h2]
theorem St.rows_setL{s:St}{v:Nat}(h:v<s.O.length)(l:List Int):s.rows.set (8+v) (rI (s.O.getD v (nilV,[])).1 l)={ s with O:=s.O.set v ((s.O.getD v (nilV,[])).1,l) }.rows:=by
 rw[← St.rows_setO (s:=s) (v:=v) ((s.O.getD v (nilV,[])).1,l)]
 have e:(s.O.map Prod.fst).set v (s.O.getD v (nilV,[])).1=s.O.map Prod.fst:=by
  apply List.ext_getElem?
  intro i
  rw[List.getElem?_set]
  split
  ·rename_i e;subst e;simp[h,List.getD]
  ·rfl
 rw[e]
 apply List.ext_getElem?
 intro i
 by_cases hi:i=7
 ·subst hi
  rw[List.getElem?_set_ne (by omega),List.getElem?_set_self (by unfold St.rows;simp)]
  rfl
 ·rw[List.getElem?_set_ne (Ne.symm hi)]
theorem hAt_hfK{E:List Sg}{P:List Pt2}{n h:Nat}(hh:h<n):hAt (hfK E P n) h=((frH E P h:Int),(twH h:Int),0,0):=by
 unfold hAt hfK
 simp[List.getD,hh]
theorem endH_tw{E:List Sg}{n h:Nat}(hE:RndOk E)(hh:h<2*n)(hn:n=E.length):endH E (twN h)≠endH E h:=by
 have hs:sgAt E (h/2)∈E:=sgAt_mem (by omega)
 have hlt:=hE.lt _ hs
 have hne:(sgAt E (h/2)).1≠(sgAt E (h/2)).2:=fun e=>by
  unfold lx at hlt
  rw[e] at hlt
  omega
 unfold endH twN
 by_cases k:h % 2=0
 ·have e1:(h+1)/2=h/2:=by omega
  have e2:¬ (h+1) % 2=0:=by omega
  simp only[if_pos k,if_neg e2,e1]
  exact fun e=>hne e.symm
 ·have e1:(h-1)/2=h/2:=by omega
  have e2:(h-1) % 2=0:=by omega
  simp only[if_neg k,if_pos e2,e1]
  exact hne
theorem way_fr{E:List Sg}{P:List Pt2}{g h:Nat}(hg:endH E g∈P)(hh:endH E h∈P):wayV P (frH E P g) (frH E P h)=((endH E h).1-(endH E g).1,(endH E h).2-(endH E g).2):=by
 unfold wayV frH
 rw[(idP_at hg).2,(idP_at hh).2]
theorem dirI_fr{E:List Sg}{P:List Pt2}{n h:Nat}(hh:h<2*n)(hP:∀ h,h<2*n→endH E h∈P):dirI P (hfK E P (2*n)) (h:Int)=((endH E (twN h)).1-(endH E h).1,(endH E (twN h)).2-(endH E h).2):=by
 have ht:twN h<2*n:=twN_lt hh (by omega)
 unfold dirI
 rw[Int.toNat_natCast,hAt_hfK hh,hAt_hfK ht]
 simp only[Int.toNat_natCast]
 exact way_fr (hP h hh) (hP _ ht)
theorem good_half{E:List Sg}{P:List Pt2}{n h:Nat}(hE:RndOk E)(hn:n=E.length)(hl:n≤3000)(hP:∀ h,h<2*n→endH E h∈P)(hok:∀ p∈P,okP p.1 p.2=true)(hh:h<2*n):GoodH P (hfK E P (2*n)) (h:Int):=by
 have ht:twN h<2*n:=twN_lt hh (by omega)
 refine⟨⟨h,frH E P h,frH E P (twN h),rfl,by rw[hfK_len];exact hh,by rw[hfK_len];exact ht,by rw[hfK_len];omega,by rw[hAt_hfK hh],by rw[hAt_hfK ht],(idP_at (hP h hh)).1,(idP_at (hP _ ht)).1,hok⟩,?_⟩
 rw[dirI_fr hh hP]
 intro e
 injection e with e1 e2
 exact endH_tw hE hh hn (Prod.ext (by omega) (by omega))
theorem outK_mem{E:List Sg}{P:List Pt2}{n v:Nat}{x:Int}:x∈outK E P n v↔∃ h:Nat,x=h∧h<n∧frH E P h=v:=by
 unfold outK
 simp only[List.mem_map,List.mem_filter,List.mem_range,decide_eq_true_eq]
 constructor
 ·rintro⟨h,⟨h1,h2⟩,rfl⟩;exact⟨h,rfl,h1,h2⟩
 ·rintro⟨h,rfl,h1,h2⟩;exact⟨h,⟨h1,h2⟩,rfl⟩
def SrtO(P:List Pt2)(H:List Hf)(l l' : List Int):Prop:=l'.Perm l∧l'.Pairwise fun x y=>¬ arV (dirI P H y) (dirI P H x)<0
theorem SrtO.nil(P:List Pt2)(H:List Hf):SrtO P H [] []:=⟨List.Perm.refl _,List.Pairwise.nil⟩
def BegS(w:World)(G:Nat)(E:List Sg):Prop:=∃ (gP cP gO gH cH V n:Nat) (P:List Pt2) (O:List (Value×List Int)),n=E.length∧P=hullS (ptsK E n)∧V=P.length∧Mk w G (stB gP cP gO V P (.slice (some ⟨gH,0,none⟩) (hfK E P (2*n)).length cH) (hfK E P (2*n)) O)∧O.length=V∧∀ v,v<V→SrtO P (hfK E P (2*n)) (outK E P (2*n) v) (O.getD v (nilV,[])).2
set_option maxRecDepth 100000 in
set_option maxHeartbeats 4000000 in
theorem Begin_any (a : Option Addr) (c G:Nat) (E:List Sg) (w0 w:World) (hs0:Since w0 w) (hG:w0.heap.size≤G) (hM:Mk w G St.nil) (hv:SegsN w0 (.slice a E.length c) E) (hE:RndOk E) (hl:E.length≤3000) (hpos:0<E.length) :
  Calls Tryz.prog 64 #[.pointer (some ⟨G,0,none⟩),.slice a E.length c] w fun e w' => e=.returned (.tuple #[])∧Since w0 w' ∧ BegS w' G E:=by
 obtain⟨i0,hi0,hz0,hz1,hz3⟩:=info_parts infoPt
 have HI:=Lib.hid hi0
 have HZ:=Lib.hid (And.intro hz0 (And.intro hz1 hz3))
 clear hi0 hz0 hz1 hz3
 have HV:=Lib.hid hv
 have HE:=Lib.hid hE
 have hGw:G<w.heap.size:=hM.lt
 obtain⟨n,hnn⟩:∃ n,n=E.length:=⟨_,rfl⟩
 have HN:=Lib.hid hnn
 rw[← hnn] at hl HV hpos ⊢
 clear hv hE hnn
 go_enter Tryz.func64,Tryz.ntmps64
 go_upto_region 2 with fail
 obtain⟨Gb,HGb⟩:∃ Gb,Gb=w.heap.size:=⟨_,rfl⟩
 rw[← HGb]
 refine atW (fun w' => Hid (Since w0 w')∧Hid (Blk w' Gb 91 #[.pointer (some ⟨G,0,none⟩)])∧Hid (Mk w' G St.nil)) ⟨hs0.alloc _,Blk.new' HGb,hM.alloc _⟩ ?_
 have hGb:G<Gb:=by omega
 clear hs0 hM HGb hGw
 rintro w1 ⟨HS1,HB1,HM1⟩
 go_loopw [16] (fun v16 wr=>∃ (k:Nat) (vP:Value),k≤n∧v16=.int .i64 k∧Hid (Since w0 wr)∧Hid (Blk wr Gb 91 #[.pointer (some ⟨G,0,none⟩)])∧Hid (Mk wr G { St.nil with vP:=vP,P:=ptsK E k })) (fun v16 _=>n-(intOf v16).toNat)
 case atStart=>exact⟨0,nilV,by omega,by go_num,HS1,HB1,HM1⟩
 case round =>
  clear HS1 HB1 HM1
  obtain⟨k,vP,hk,rfl,HS,HB,HM⟩:=hrel
  rcases Nat.lt_or_ge k n with hlt | hge
  ·have hz:decide ((k:Int)<(n:Int))=true:=by rw[decide_eq_true_eq];omega
   obtain⟨g,o,rfl,h1,h2,h3,h4⟩:=HV.out.cells (k:=k) (by rw[← HN.out];exact hlt)
   obtain⟨s,hs⟩:∃ s,s=sgAt E k:=⟨_,rfl⟩
   rw[← hs] at h1 h2 h3 h4
   have h1:=keepC HS.out _ _ h1
   have h2:=keepC HS.out _ _ h2
   have h3:=keepC HS.out _ _ h3
   have h4:=keepC HS.out _ _ h4
   have HSU:Hid (ptsK E (k+1)=ptsK E k++[s.1,s.2]):=by show _=_;rw[hs];exact ptsK_succ E k
   have HLN:Hid ((ptsK E k).length=2*k):=ptsK_len E k
   have i1:(0:Int)≤(k:Int):=by omega
   have i2:(k:Int)<(n:Int):=by omega
   clear hs
   go_upto_region 4 with fail
   obtain⟨G5,HG5⟩:∃ G5,G5=wr.heap.size:=⟨_,rfl⟩
   rw[← HG5]
   refine atW (fun w' => Hid (Since w0 w')∧Hid (Blk w' Gb 91 #[.pointer (some ⟨G,0,none⟩)])∧Hid (Mk w' G { St.nil with vP:=vP,P:=ptsK E k })∧Hid (Blk w' G5 37 #[.int .i64 s.1.1,.int .i64 s.1.2,.int .i64 s.2.1,.int .i64 s.2.2])) ⟨HS.out.alloc _,HB.out.alloc _,HM.out.alloc _,Blk.new' HG5⟩ ?_
   clear HS HB HM HG5 h1 h2 h3 h4
   rintro w5 ⟨HS5,HB5,HM5,HX5⟩
   obtain⟨aP,cP,hvP⟩:=Rws.slice HM5.out.rows (i:=0) rfl
   simp only at hvP
   obtain⟨A,HA⟩:∃ A:Ap,Hid (A=⟨vP,36,2,(ptsK E k).length,(ptsK E k).flatMap ptV,2,ptV s.1++ptV s.2⟩):=⟨_,rfl⟩
   have HAV:Hid (A.v=vP):=by show _=_;rw[HA.out]
   have HLO:=Lib.hid (HM5.out.rows.lo (i:=0) rfl HAV.out)
   letI RG:RegG:=apG (G+1) w5.heap.size [A] (fun A' hA' g e=>(HLO.out A' hA' g e).2)
   have KF:=Lib.hid (fun w' (h:SinceG w5 w')=>(show w'.cell? ⟨Gb,0,none⟩=some (.pointer (some ⟨G,0,none⟩))∧w'.cell? ⟨G,0,none⟩=some vP∧w'.cell? ⟨G5,0,none⟩=some (.int .i64 s.1.1)∧w'.cell? ⟨G5,1,none⟩=some (.int .i64 s.1.2)∧w'.cell? ⟨G5,2,none⟩=some (.int .i64 s.2.1)∧w'.cell? ⟨G5,3,none⟩=some (.int .i64 s.2.2) from by
    have b1:=HM5.out.rows.keepA (i:=0) rfl HAV.out h HB5.out (.inl (by show(91:Nat)≠36;decide))
    have b2:=HM5.out.rows.keepA (i:=0) rfl HAV.out h HM5.out.blk (.inr (by omega))
    have b3:=HM5.out.rows.keepA (i:=0) rfl HAV.out h HX5.out (.inl (by show(37:Nat)≠36;decide))
    exact⟨b1.cell 0,b2.cell 0,b3.cell 0,b3.cell 1,b3.cell 2,b3.cell 3⟩))
   subst hvP
   apply region_factsG 15 (fun w' => SinceG w5 w')
   case hm=>kernel_rfl
   case hB=>kernel_rfl
   case hS=>exact(SinceG.rfl_ w5).drew
   case hmono=>exact(fun _ _ h k=>h.trans k)
   case hTb=>exact(fun g hg=>hg)
   case h =>
   simp only[List.take_succ_cons,List.take_zero,List.drop_succ_cons,List.drop_zero]
   iterate 10 (apply wpO_detG;(case hw=>rfl);(case h=>intro hFm wx hS_ hF_ K hK;go_big_quiet_op;first | exact hK _ rfl | (apply Exists.intro;refine⟨fun _=>?_,?_⟩;(focus (first | (intro hC;have hC:=KF.out _ hC.out.1;(try simp only[hC,Result.andThen]);first | exact⟨True.intro,rfl⟩ | exact⟨rfl,rfl⟩ | rfl)));exact hK _ rfl));(case' k=>simp only[Act.put,List.setIfInBounds_toArray,List.set_cons_succ,List.set_cons_zero,List.cons_append,List.nil_append]))
   apply wpO_mkG (f:=fun g=>.slice (some ⟨g,0,none⟩) 2 2) (t:=36) (cs := #[.int .i64 s.1.1,.int .i64 s.1.2,.int .i64 s.2.1,.int .i64 s.2.2])
   case hk=>trivial
   case hi=>(intro g g' h;simpa using h)
   case hw=>rfl
   case h=>(intro w;simp[go_sem])
   case k =>
   intro gs
   simp only[Act.put,List.setIfInBounds_toArray,List.set_cons_succ,List.set_cons_zero,List.cons_append,List.nil_append]
   apply wpO_anyG (R:=fun v' w' => w'.ownsRow (G+1) (A).t (A).k v' ((A).n+(A).m) ((A).xs++(A).news)∧(v'.ownBlock=(A).v.ownBlock∨∃ b,v'.ownBlock=some b∧w5.heap.size≤b))
   case hR=>exact fun v' w' w'' h k=>⟨k.post _ (List.mem_singleton.2 rfl) v' h.2 h.1,h.2⟩
   case hw=>rfl
   case h =>
    intro wx hS_ hF_
    refine runVG_app _ _ _ rfl rfl rfl ?_
    (
       obtain⟨hbg,-,-⟩:=factsOf_at (j:=10) (by decide) hF_
       exact ap_one HA.out HLO.out (HM5.out.rows.ok 0 _ rfl) hS_ (by have:=HM5.out.lt;omega) (Nat.le_refl _) _ _ i0 _ 16 Tryz.underlying23 HI.out HZ.out.1 HZ.out.2.1 HZ.out.2.2 rfl (by decide) _ _ rfl (blk4 hbg) (one4 _ _ _ _ _ _ _ _) (by rw[HLN.out];unfold maxLen;omega) (by rw[HLN.out];omega))
   case k =>
   intro v'
   simp only[Act.put,List.setIfInBounds_toArray,List.set_cons_succ,List.set_cons_zero,List.cons_append,List.nil_append]
   iterate 3 (apply wpO_detG;(case hw=>rfl);(case h=>intro hFm wx hS_ hF_ K hK;go_big_quiet_op;first | exact hK _ rfl | (apply Exists.intro;refine⟨fun _=>?_,?_⟩;(focus (first | (intro hC;have hC:=hC.out;(try simp only[hC,Result.andThen]);first | exact⟨True.intro,rfl⟩ | exact⟨rfl,rfl⟩ | rfl)));exact hK _ rfl));(case' k=>simp only[Act.put,List.setIfInBounds_toArray,List.set_cons_succ,List.set_cons_zero,List.cons_append,List.nil_append]))
   refine wpO_nilG ?_
   intro w6 hS hF hB
   (try simp[allF] at hF)
   (try simp[List.pairwise_cons] at hB)
   obtain⟨-,hown,hloc⟩:=hF
   have hb1:=HM5.out.rows.keepA (i:=0) rfl HAV.out hS HB5.out (.inl (by show(91:Nat)≠36;decide))
   have hb2:=HM5.out.rows.keepA (i:=0) rfl HAV.out hS HM5.out.blk (.inr (by omega))
   have hS6:=ApK.since hS HS5.out (by omega) (fun A' hA' g e=>(HLO.out A' hA' g e).1)
   have hrw:=HM5.out.rows.app (i:=0) rfl HAV.out (Nat.le_refl _) hS ⟨v',36,2,(ptsK E (k+1)).length,(ptsK E (k+1)).flatMap ptV⟩ (by
    show World.ownsRow _ _ _ _ _ _ _
    rw[HSU.out,List.length_append,List.flatMap_append]
    rw[HA.out] at hown
    exact hown) hloc
   obtain⟨av,cv,hv'⟩:=Rws.slice hrw (i:=0) rfl
   simp only at hv'
   have HW:=Lib.hid (And.intro hb1 (And.intro hb2 (And.intro hS6 hrw)))
   subst hv'
   have g_0:=hb2.cell 0
   have g_f:=hb2.frozen 0
   simp only[List.getElem?_toArray,List.getElem?_cons_zero,List.getElem?_cons_succ] at g_0
   clear hown hloc hb1 hb2 hS6 hrw hS hB KF RG HLO HM5 HB5 HX5 HS5
   go_wp2_with fail
   go_roundw
   case rel=>exact⟨k+1,_,by omega,by go_num,HW.out.2.2.1.setCell hG _,HW.out.1.far (by dsimp only;omega) _,⟨HW.out.2.1.set_ 0 _,HW.out.2.2.2.low (Nat.lt_succ_self _) _⟩⟩
   case measure=>simp[intOf];omega
  ·obtain rfl : k=n:=by omega
   have hz:decide ((k:Int)<(k:Int))=false:=by rw[decide_eq_false_iff_not];omega
   have HLN:Hid ((ptsK E k).length=2*k):=ptsK_len E k
   obtain⟨aP,cP,hvP⟩:=Rws.slice HM.out.rows (i:=0) rfl
   simp only at hvP
   subst hvP
   obtain⟨gP,cP',hv2⟩:=own_some (HM.out.rows.ok 0 _ rfl) (by show 0<(ptsK E k).length;rw[HLN.out];omega)
   simp only at hv2
   injection hv2 with e1 _ e3
   subst e1 e3
   have hlt:=HM.out.rows.ge (i:=0) rfl (g:=gP) rfl
   have b_0:=HB.out.cell 0
   have g_0:=HM.out.blk.cell 0
   simp only[List.getElem?_toArray,List.getElem?_cons_zero,List.getElem?_cons_succ] at b_0 g_0
   have HSRT:=Lib.hid (sort_spec gP cP (ptsK E k).length (G+1) (ptsK E k) wr (HM.out.rows.ok 0 _ rfl) rfl (by rw[HLN.out];omega))
   go_wp2_with fail
   refine(HSRT.out).mono ?_
   rintro e w2 ⟨rfl,ho,hon⟩
   have hsl:(srtL (ptsK E k)).length=(ptsK E k).length:=srt_len _
   obtain⟨Q,HQ⟩:∃ Q,Hid (Q=srtL (ptsK E k)):=⟨_,rfl⟩
   rw[← HQ.out] at ho hsl
   have hb1:=HM.out.rows.keepO (i:=0) rfl rfl hon HB.out (.inl (by show(91:Nat)≠36;decide))
   have hb2:=HM.out.rows.keepO (i:=0) rfl rfl hon HM.out.blk (.inr (by omega))
   have hr2:=HM.out.rows.turn (i:=0) rfl rfl hon ⟨.slice (some ⟨gP,0,none⟩) (ptsK E k).length cP,36,2,Q.length,Q.flatMap ptV⟩ rfl (by
    show World.ownsRow _ _ _ _ _ _ _
    rw[hsl];exact ho)
   have hs2:Since w0 w2:=Only.since HS.out hon (by omega)
   have HW2:=Lib.hid (And.intro hb1 (And.intro hb2 (And.intro hr2 hs2)))
   obtain⟨N,HNN⟩:∃ N,Hid (N=(ptsK E k).length):=⟨_,rfl⟩
   have HNQ:Hid (Q.length=N):=by show _=_;rw[hsl,HNN.out]
   have hNb:N≤6000:=by rw[HNN.out,HLN.out];omega
   have hr2' := hr2.ok 0 _ rfl
   have HCP:=Lib.hid (fun w' (h:Since w2 w')=>CompactOwn gP cP (G+1) Q w' (by rw[HNQ.out];omega) (own_since h (by have:=hr2';simp only[hsl] at this ⊢;exact this)))
   rw[HNQ.out] at HCP
   rw[← HNN.out] at HW2 ⊢
   have hltN:G+1≤gP:=hlt.1
   have b_0:=HW2.out.1.cell 0
   have hGne:Gb≠G:=by omega
   have hGne2:¬ G=Gb:=by omega
   have g_0:=HW2.out.2.1.cell 0
   have g_f:=HW2.out.2.1.frozen 0
   simp only[List.getElem?_toArray,List.getElem?_cons_zero,List.getElem?_cons_succ] at b_0 g_0
   clear ho hon hsl hb1 hb2 hr2 hs2 hr2' HS HB HM hlt HSRT
   go_upto_region 7 with fail
   go_cut [] from 17 to 51 (fun w' => Hid (Since w0 w')∧Hid (Blk w' Gb 91 #[.pointer (some ⟨G,0,none⟩)])∧Hid (Mk w' G { St.nil with vP:=.slice (some ⟨gP,0,none⟩) (cmpL Q).length cP,P:=cmpL Q }))
   case first =>
    go_region_with (go_at_call 87;(with_reducible refine(HCP.out _ (by first | exact(Since.rfl_ w2).drew | exact(Since.rfl_ w2).drew.drew)).mono ?_);rintro e w3 ⟨rfl,ho,hon⟩;have hon2:=Only.trans ((Since.rfl_ w2).drew.only gP) hon;have hb1:=HW2.out.2.2.1.keepO (i:=0) rfl rfl hon2 HW2.out.1 (.inl (by show(91:Nat)≠36;decide));have hb2:=HW2.out.2.2.1.keepO (i:=0) rfl rfl hon2 HW2.out.2.1 (.inr (by omega));have HW3:=Lib.hid (And.intro ho (And.intro hon2 (And.intro hb1 hb2)));have b_0:=hb1.cell 0;have g_0:=hb2.cell 0;have g_f:=hb2.frozen 0;simp only[List.getElem?_toArray,List.getElem?_cons_zero,List.getElem?_cons_succ] at b_0 g_0;clear ho hon hon2 hb1 hb2)
    all_goals
     go_wp2_with fail
     go_meet
     refine⟨(Only.since HW2.out.2.2.2 HW3.out.2.1 (by omega)).setCell hG _,HW3.out.2.2.1.far (by dsimp only;omega) _,HW3.out.2.2.2.set_ 0 _,?_⟩
     refine(HW2.out.2.2.1.turn (i:=0) rfl rfl HW3.out.2.1 ⟨.slice (some ⟨gP,0,none⟩) (cmpL Q).length cP,36,2,(cmpL Q).length,(cmpL Q).flatMap ptV⟩ rfl HW3.out.1).low (Nat.lt_succ_self _) _
   case rest =>
    clear HW2 HCP g_0 g_f b_0
    obtain⟨HS3,HB3,HM3⟩:=hcut
    obtain⟨w3,rfl⟩:∃ w3,w3=wc:=⟨_,rfl⟩
    obtain⟨P,HP⟩:∃ P,Hid (P=hullS (ptsK E k)):=⟨_,rfl⟩
    have hPQ:cmpL Q=P:=by rw[HP.out,HQ.out];rfl
    rw[hPQ] at HM3
    clear hPQ HQ HNQ
    obtain⟨V,HVV⟩:∃ V,Hid (V=P.length):=⟨_,rfl⟩
    have hVb:V≤6000:=by rw[HVV.out,HP.out];have h1:(hullS (ptsK E k)).length≤(ptsK E k).length:=hull_len_le (fun p hp=>hp);rw[HLN.out] at h1;omega
    have HPO:Hid (∀ p∈P,okP p.1 p.2=true):=fun p hp=>by
     rw[HP.out,hullS_mem] at hp
     unfold ptsK at hp
     obtain⟨i,hi,h⟩:=List.mem_flatMap.1 hp
     rw[List.mem_range] at hi
     have hm:=HE.out.ok _ (sgAt_mem (l:=E) (i:=i) (by rw[← HN.out];exact hi))
     simp only[List.mem_cons,List.not_mem_nil,or_false] at h
     rcases h with rfl | rfl
     ·exact hm.1
     ·exact hm.2.1
    have HPN:Hid P.Nodup:=by show P.Nodup;rw[HP.out];exact srt_nodup (hullS_srt _)
    have HB3b:=HB3.out.cell 0
    have HM3b:=HM3.out.blk.cell 0
    simp only[List.getElem?_toArray,List.getElem?_cons_zero,List.getElem?_cons_succ] at HB3b HM3b
    rw[← HVV.out] at HM3b
    have hmm := @run_makeMap Tryz.prog
    go_upto_region 9 with fail
    clear hmm
    obtain⟨Gm,HGm⟩:∃ Gm,Gm=w3.heap.size:=⟨_,rfl⟩
    rw[← HGm]
    refine atW (fun w' => Hid (Since w0 w')∧Hid (Blk w' Gb 91 #[.pointer (some ⟨G,0,none⟩)])∧Hid (Mk w' G { St.nil with vP:=.slice (some ⟨gP,0,none⟩) P.length cP,P:=P })∧Hid (NumP w' Gm P 0)) ⟨HS3.out.alloc _,HB3.out.alloc _,HM3.out.alloc _,by rw[HGm];exact NumP.made w3 P⟩ ?_
    have hGm:G<Gm:=by have:=HM3.out.lt;omega
    have hGbm:Gb<Gm:=by have:=HB3.out.lt;omega
    obtain⟨wr0,rfl⟩:∃ wr0,wr0=wr:=⟨_,rfl⟩
    clear HS3 HB3 HM3 HB3b HM3b HGm
    rintro w4 ⟨HS4,HB4,HM4,HN4⟩
    have HB4b:=HB4.out.cell 0
    have HM4b:=HM4.out.blk.cell 0
    simp only[List.getElem?_toArray,List.getElem?_cons_zero,List.getElem?_cons_succ] at HB4b HM4b
    rw[← HVV.out] at HM4b
    go_wp2_with fail
    clear HB4b HM4b
    go_loopw [59] (fun v59 wr=>∃ j:Nat,j≤V∧v59=.int .i64 j∧Hid (Since w0 wr)∧Hid (Blk wr Gb 91 #[.pointer (some ⟨G,0,none⟩)])∧Hid (Mk wr G { St.nil with vP:=.slice (some ⟨gP,0,none⟩) P.length cP,P:=P })∧Hid (NumP wr Gm P j)) (fun v59 _=>V-(intOf v59).toNat)
    case atStart=>exact⟨0,by omega,by go_num,HS4,HB4,HM4,HN4⟩
    case round =>
     clear HS4 HB4 HM4 HN4
     obtain⟨j,hj,rfl,HS,HB,HM,HNM⟩:=hrel
     rcases Nat.lt_or_ge j V with hlt | hge
     ·have hz:decide ((j:Int)<(V:Int))=true:=by rw[decide_eq_true_eq];omega
      obtain⟨c0,c1⟩:=(RowP.own (HM.out.rows.ok 0 _ rfl)).1.cells (i:=j) (by rw[← HVV.out];exact hlt)
      obtain⟨p,hp⟩:∃ p,p=pAt P j:=⟨_,rfl⟩
      rw[← hp] at c0 c1
      have HPP:=Lib.hid hp
      have j1:(0:Int)≤(j:Int):=by omega
      have j2:(j:Int)<(V:Int):=by omega
      clear hp
      go_upto_region 12 with fail
      obtain⟨G8,HG8⟩:∃ G8,G8=wr.heap.size:=⟨_,rfl⟩
      rw[← HG8]
      refine atW (fun w' => Hid (Since w0 w')∧Hid (Blk w' Gb 91 #[.pointer (some ⟨G,0,none⟩)])∧Hid (Mk w' G { St.nil with vP:=.slice (some ⟨gP,0,none⟩) P.length cP,P:=P })∧Hid (NumP w' Gm P j)∧Blk w' G8 36 #[.int .i64 p.1,.int .i64 p.2]) ⟨HS.out.alloc _,HB.out.alloc _,HM.out.alloc _,HNM.out.since ((Since.rfl_ wr).alloc _),Blk.new' HG8⟩ ?_
      clear HS HB HM HNM HG8 c0 c1
      rintro w5 ⟨HS5,HB5,HM5,HN5,hb8⟩
      have b_0:=hb8.cell 0
      have b_1:=hb8.cell 1
      have b_f0:=hb8.frozen 0
      have b_f1:=hb8.frozen 1
      simp only[List.getElem?_toArray,List.getElem?_cons_zero,List.getElem?_cons_succ] at b_0 b_1
      clear hb8 b_f0 b_f1
      obtain⟨w6,k1,k2,k3⟩:=HN5.out.store (by rw[← HVV.out];exact hlt) (by rw[← HVV.out];omega) HPO.out HPN.out
      rw[← HPP.out] at k1
      unfold ptA at k1
      have HW6:=Lib.hid (And.intro (Only.since HS5.out k3 (by omega)) (And.intro (k3.blk HB5.out (by omega)) (And.intro (HM5.out.onlyM HN5.out k3 (by omega)) k2)))
      clear k2 k3 HS5 HB5 HM5 HN5
      go_wp2_with fail
      clear k1 b_0 b_1
      go_roundw
      case rel=>exact⟨j+1,by omega,by go_num,HW6.out.1,HW6.out.2.1,HW6.out.2.2.1,HW6.out.2.2.2⟩
      case measure=>simp[intOf];omega
     ·obtain rfl : j = V:=by omega
      have hz:decide ((j:Int)<(j:Int))=false:=by rw[decide_eq_false_iff_not];omega
      have HBb:=HB.out.cell 0
      have HMb:=HM.out.blk.cell 0
      have HMo:=HM.out.blk.cell 7
      have HMf:=HM.out.blk.frozen 7
      simp only[List.getElem?_toArray,List.getElem?_cons_zero,List.getElem?_cons_succ] at HBb HMb HMo
      rw[← HVV.out] at HMb
      obtain⟨i2,hi2,hy0,hy1,hy3⟩:=info_parts infoIs
      have HI2:=Lib.hid (And.intro hi2 (And.intro hy0 (And.intro hy1 hy3)))
      clear hi2 hy0 hy1 hy3
      have hjp:0<j:=by
       rw[HVV.out,HP.out]
       refine List.length_pos_iff.2 (List.ne_nil_of_mem (a:=(sgAt E 0).1) (hullS_mem.2 ?_))
       unfold ptsK
       exact List.mem_flatMap.2 ⟨0,List.mem_range.2 hpos,by simp⟩
      go_upto_region 14 with fail
      letI RG:RegG:=sinceRG
      have KF:=Lib.hid (fun w' (h:SinceG wr w')=>(show w'.cell? ⟨Gb,0,none⟩=some (.pointer (some ⟨G,0,none⟩))∧w'.cell? ⟨G,0,none⟩=some (.slice (some ⟨gP,0,none⟩) j cP) from⟨keepC h _ _ HBb,keepC h _ _ HMb⟩))
      apply region_factsG 8 (fun w' => SinceG wr w')
      case hm=>kernel_rfl
      case hB=>kernel_rfl
      case hS=>exact(SinceG.rfl_ wr).drew
      case hmono=>exact(fun _ _ h k=>h.trans k)
      case hTb=>exact(fun g hg=>Nat.zero_le _)
      case h =>
      simp only[List.take_succ_cons,List.take_zero,List.drop_succ_cons,List.drop_zero]
      iterate 7 (apply wpO_detG;(case hw=>rfl);(case h=>intro hFm wx hS_ hF_ K hK;go_big_quiet_op;first | exact hK _ rfl | (apply Exists.intro;refine⟨fun _=>?_,?_⟩;(focus (first | (intro hC;have hC:=KF.out _ hC.out.1;(try simp only[hC,Result.andThen]);first | exact⟨True.intro,rfl⟩ | exact⟨rfl,rfl⟩ | rfl)));exact hK _ rfl));(case' k=>simp only[Act.put,List.setIfInBounds_toArray,List.set_cons_succ,List.set_cons_zero,List.cons_append,List.nil_append]))
      apply wpO_anyG (R:=(MadeR wr.heap.size 22 1 j (madeCells (Value.slice none 0 0).cells (j*1)).toList))
      case hR=>exact(fun v' w' w'' h k=>by obtain⟨g,e,ho⟩:=h;exact⟨g,e,own_since k ho⟩)
      case hw=>rfl
      case h =>
       intro wx hS_ hF_
       unfold runVG
       (
             obtain⟨w',h1,h2,h3⟩:=run_make_full (P:=Tryz.prog) wx wr.heap.size 92 22 i2 _ 1 Tryz.underlying92 HI2.out.1 HI2.out.2.1 HI2.out.2.2.1 .i64 .i64 j (by rw[HI2.out.2.2.2];omega) (by unfold maxLen;omega) (SinceG.size hS_)
             refine runVG_make _ _ _ rfl rfl rfl ⟨w',h1,⟨_,rfl,h2⟩,⟨h3.os,h3.tape,h3.output,h3.size,fun i hi=>h3.block i hi (by simp)⟩⟩)
      case k =>
      intro v0
      simp only[Act.put,List.setIfInBounds_toArray,List.set_cons_succ,List.set_cons_zero,List.cons_append,List.nil_append]
      refine wpO_nilG ?_
      intro w5 hS hF hB
      (try simp[allF] at hF)
      (try simp[List.pairwise_cons] at hB)
      obtain⟨gO,rfl,ho⟩:=hF
      replace hS:Since wr w5:=hS
      rw[made_nil] at ho
      have hrw:=(HM.out.rows.fresh (i:=7) (⟨.slice (some ⟨gO,0,none⟩) j j,22,1,j,(List.replicate j (nilV,([]:List Int))).map Prod.fst⟩) rfl hS (by have:=HM.out.lt;omega) ho).more ((List.replicate j (nilV,([]:List Int))).map fun p=>rI p.1 p.2) (fun r hr=>by
       obtain⟨p,hp,rfl⟩:=List.mem_map.1 hr
       rw[(List.mem_replicate.1 hp).2]
       exact⟨rfl,rfl,rfl⟩)
      have HW:=Lib.hid (And.intro (HS.out.trans hS) (And.intro (hS.blk HB.out) (And.intro (hS.blk HM.out.blk) (And.intro hrw (HNM.out.since hS)))))
      have HMo:=HW.out.2.2.1.cell 7
      have HMf:=HW.out.2.2.1.frozen 7
      simp only[List.getElem?_toArray,List.getElem?_cons_zero,List.getElem?_cons_succ] at HMo
      clear ho hrw hS hB KF RG HBb HMb HS HB HM HNM hz
      obtain⟨V,rfl⟩:∃ V,V=j:=⟨_,rfl⟩
      go_upto_region 15 with fail
      refine atW (fun w' => Hid (Since w0 w')∧Hid (Blk w' Gb 91 #[.pointer (some ⟨G,0,none⟩)])∧Hid (Mk w' G { St.nil with vP:=.slice (some ⟨gP,0,none⟩) P.length cP,P:=P,vO:=.slice (some ⟨gO,0,none⟩) V V,O:=List.replicate V (nilV,[]) })∧Hid (NumP w' Gm P V)) ⟨HW.out.1.setCell hG _,HW.out.2.1.far (by dsimp only;omega) _,⟨HW.out.2.2.1.set_ 7 _,by
       have:=HW.out.2.2.2.1.low (p:=⟨G,7,none⟩) (Nat.lt_succ_self _) (.slice (some ⟨gO,0,none⟩) V V)
       simpa[St.rows,St.nil] using this⟩,HW.out.2.2.2.2.kept (set_grown _ _ _) (by dsimp only;intro e;injection e;omega)⟩ ?_
      clear HW HMo HMf
      rintro w6 ⟨HS6,HB6,HM6,HN6⟩
      go_upto_region 16 with fail
      go_loopw [80] (fun v80 wr=>∃ (i:Nat) (vH:Value) (O:List (Value×List Int)),i≤k∧v80=.int .i64 i∧Hid (Since w0 wr)∧Hid (Blk wr Gb 91 #[.pointer (some ⟨G,0,none⟩)])∧Hid (Mk wr G (stB gP cP gO V P (vH) (hfK E P (2*i)) (O)))∧Hid (NumP wr Gm P V)∧O.length=V∧Hid (∀ v,v<V→(O.getD v (nilV,[])).2=outK E P (2*i) v)) (fun v80 _=>k-(intOf v80).toNat)
      case atStart=>exact⟨0,nilV,List.replicate V (nilV,[]),by omega,by go_num,HS6,HB6,HM6,HN6,by simp,fun v hv=>by simp[List.getD,hv,outK]⟩
      case round =>
       clear HS6 HB6 HM6 HN6 HMf HMo b_0 g_0 hjp hge hj hz
       obtain⟨i,vH,O,hi,rfl,HS,HB,HM,HNM,hOl,HO⟩:=hrel
       rcases Nat.lt_or_ge i k with hlt | hge
       ·have hz:decide ((i:Int)<(k:Int))=true:=by rw[decide_eq_true_eq];omega
        obtain⟨g,o,rfl,h1,h2,h3,h4⟩:=HV.out.cells (k:=i) (by rw[← HN.out];exact hlt)
        obtain⟨s,hs⟩:∃ s,s=sgAt E i:=⟨_,rfl⟩
        rw[← hs] at h1 h2 h3 h4
        have h1:=keepC HS.out _ _ h1
        have h2:=keepC HS.out _ _ h2
        have h3:=keepC HS.out _ _ h3
        have h4:=keepC HS.out _ _ h4
        have HSE:=Lib.hid hs
        have i1:(0:Int)≤(i:Int):=by omega
        have i2' : (i:Int)<(k:Int):=by omega
        clear hs
        go_upto_region 18 with fail
        obtain⟨G10,HG10⟩:∃ G10,G10=wr.heap.size:=⟨_,rfl⟩
        rw[← HG10]
        refine atW (fun w' => Hid (Since w0 w')∧Hid (Blk w' Gb 91 #[.pointer (some ⟨G,0,none⟩)])∧Hid (Mk w' G (stB gP cP gO V P (vH) (hfK E P (2*i)) (O)))∧Hid (NumP w' Gm P V)∧Hid (Blk w' G10 37 #[.int .i64 s.1.1,.int .i64 s.1.2,.int .i64 s.2.1,.int .i64 s.2.2])) ⟨HS.out.alloc _,HB.out.alloc _,HM.out.alloc _,HNM.out.since ((Since.rfl_ wr).alloc _),Blk.new' HG10⟩ ?_
        have hG10:G<G10:=by have:=HM.out.lt;omega
        clear HS HB HM HNM HG10 h1 h2 h3 h4
        rintro w7 ⟨HS7,HB7,HM7,HN7,HX7⟩
        go_upto_region 19 with fail
        obtain⟨wr3,rfl⟩:∃ wr3,wr3=wr:=⟨_,rfl⟩
        go_loopw [85] (fun v85 wr=>∃ (d:Nat) (vH:Value) (O:List (Value×List Int)),d≤2∧v85=.int .i64 d∧Hid (Since w0 wr)∧Hid (Blk wr Gb 91 #[.pointer (some ⟨G,0,none⟩)])∧Hid (Mk wr G (stB gP cP gO V P (vH) (hfK E P (2*i+d)) (O)))∧Hid (NumP wr Gm P V)∧O.length=V∧Hid (∀ v,v<V→(O.getD v (nilV,[])).2=outK E P (2*i+d) v)∧Hid (Blk wr G10 37 #[.int .i64 s.1.1,.int .i64 s.1.2,.int .i64 s.2.1,.int .i64 s.2.2])) (fun v85 _=>2-(intOf v85).toNat)
        case atStart=>exact⟨0,vH,O,by omega,by go_num,HS7,HB7,HM7,HN7,hOl,HO,HX7⟩
        case round =>
         clear HS7 HB7 HM7 HN7 HX7 HO hOl O vH
         obtain⟨d,vH,O,hd,rfl,HS,HB,HM,HNM,hOl,HO,HX⟩:=hrel
         rcases Nat.lt_or_ge d 2 with hd2 | hd2
         ·have hz2 : decide ((d:Int)<2)=true:=by rw[decide_eq_true_eq];omega
          obtain⟨h,hh⟩:∃ h,h=2*i+d:=⟨_,rfl⟩
          rw[← hh] at HM HO
          obtain⟨p,hp⟩:∃ p,p=endH E h:=⟨_,rfl⟩
          have hpm:p∈P:=by
           rw[hp,HP.out,hullS_mem]
           exact endH_mem (by omega) HN.out
          obtain⟨v,hv⟩:∃ v,v=idP P p:=⟨_,rfl⟩
          have hvv:=idP_at hpm
          rw[← hv] at hvv
          have hvV:v<V:=by rw[HVV.out];exact hvv.1
          have HFR:Hid (frH E P h=v):=by show _=_;unfold frH;rw[← hp,hv]
          have k1:=(show NumP wr Gm P P.length by rw[← HVV.out];exact HNM.out).look HPO.out hvv.1
          rw[hvv.2] at k1
          unfold ptA at k1
          have c01:wr.cell? ⟨G10,d*2,none⟩=some (.int .i64 p.1)∧wr.cell? ⟨G10,d*2+1,none⟩=some (.int .i64 p.2):=by
           have hdd:d=0∨d=1:=by omega
           rw[hp]
           rcases hdd with rfl | rfl
           ·have e:endH E h=s.1:=by unfold endH;rw[if_pos (by omega),show h/2=i by omega,HSE.out]
            rw[e];exact⟨HX.out.cell 0,HX.out.cell 1⟩
           ·have e:endH E h=s.2:=by unfold endH;rw[if_neg (by omega),show h/2=i by omega,HSE.out]
            rw[e];exact⟨HX.out.cell 2,HX.out.cell 3⟩
          obtain⟨c0,c1⟩:=c01
          have HHH:=Lib.hid hh
          have hhb:h<2*k:=by omega
          have d1:(0:Int)≤(d:Int):=by omega
          have d2:(d:Int)<2:=by omega
          clear hp hv hvv hh
          go_upto_region 22 with fail
          clear k1 c0 c1
          obtain⟨i3,hi3,hq0,hq1,hq3⟩:=info_parts infoHf
          have HI3:=Lib.hid (And.intro hi3 (And.intro hq0 (And.intro hq1 hq3)))
          obtain⟨i4,hi4,hr0,hr1,hr3⟩:=info_parts infoI
          have HI4:=Lib.hid (And.intro hi4 (And.intro hr0 (And.intro hr1 hr3)))
          clear hi3 hq0 hq1 hq3 hi4 hr0 hr1 hr3
          have HHL:Hid ((hfK E P h).length=h):=hfK_len E P h
          obtain⟨tw,HTW⟩:∃ tw:Nat,Hid (tw=twH h):=⟨_,rfl⟩
          obtain⟨a2,HA2⟩:∃ a2:Nat,Hid (a2=2*i):=⟨_,rfl⟩
          have m1:IntKind.i64.wrap (2*(i:Int))=(a2:Int):=by
           rw[i64wc,HA2.out];push_cast;exact wrap_id (by omega)
          obtain⟨a3,HA3⟩:∃ a3:Nat,Hid (a3=a2+1):=⟨_,rfl⟩
          have m2:IntKind.i64.wrap ((a2:Int)+1)=(a3:Int):=by
           rw[i64wc,HA3.out,HA2.out];push_cast;exact wrap_id (by omega)
          have m3:IntKind.i64.wrap ((a3:Int)-(d:Int))=(tw:Int):=by
           have e:(a3:Int)-(d:Int)=(tw:Int):=by
            rw[HTW.out,HA3.out,HA2.out]
            have hx:=HHH.out
            unfold twH
            split <;> omega
           rw[i64wc,e];exact wrap_id (by have:=HTW.out;unfold twH at this;split at this <;> omega)
          have m4:IntKind.i64.wrap ((a2:Int)+(d:Int))=(h:Int):=by
           have e:(a2:Int)+(d:Int)=(h:Int):=by rw[HHH.out,HA2.out];push_cast;rfl
           rw[i64wc,e];exact wrap_id (by omega)
          obtain⟨aH,cH,hvH⟩:=Rws.slice HM.out.rows (i:=1) rfl
          replace hvH:vH=.slice aH (hfK E P h).length cH:=hvH
          obtain⟨A,HA⟩:∃ A:Ap,Hid (A=⟨vH,33,4,(hfK E P h).length,(hfK E P h).flatMap hfV,1,hfV ((v:Int),(tw:Int),0,0)⟩):=⟨_,rfl⟩
          have HAV:Hid (A.v=vH):=by show _=_;rw[HA.out]
          have HLO:=Lib.hid (HM.out.rows.lo (i:=1) rfl HAV.out)
          letI RG:RegG:=apG (G+1) wr.heap.size [A] (fun A' hA' g e=>(HLO.out A' hA' g e).2)
          have KF:=Lib.hid (fun w' (h:SinceG wr w')=>(show w'.cell? ⟨Gb,0,none⟩=some (.pointer (some ⟨G,0,none⟩))∧w'.cell? ⟨G,1,none⟩=some vH from by
           have b1:=HM.out.rows.keepA (i:=1) rfl HAV.out h HB.out (.inl (by show(91:Nat)≠33;decide))
           have b2:=HM.out.rows.keepA (i:=1) rfl HAV.out h HM.out.blk (.inr (by omega))
           exact⟨b1.cell 0,b2.cell 1⟩))
          subst hvH
          apply region_factsG 18 (fun w' => SinceG wr w')
          case hm=>kernel_rfl
          case hB=>kernel_rfl
          case hS=>exact(SinceG.rfl_ wr).drew
          case hmono=>exact(fun _ _ h k=>h.trans k)
          case hTb=>exact(fun g hg=>hg)
          case h =>
          simp only[List.take_succ_cons,List.take_zero,List.drop_succ_cons,List.drop_zero]
          iterate 13 (apply wpO_detG;(case hw=>rfl);(case h=>intro hFm wx hS_ hF_ K hK;go_big_quiet_op;first | exact hK _ rfl | (apply Exists.intro;refine⟨fun _=>?_,?_⟩;(focus (first | (intro hC;have hC:=KF.out _ hC.out.1;(try simp only[hC,Result.andThen]);first | exact⟨True.intro,rfl⟩ | exact⟨rfl,rfl⟩ | rfl)));exact hK _ rfl));(case' k=>simp only[Act.put,List.setIfInBounds_toArray,List.set_cons_succ,List.set_cons_zero,List.cons_append,List.nil_append]))
          apply wpO_mkG (f:=fun g=>.slice (some ⟨g,0,none⟩) 1 1) (t:=33) (cs := #[.int .i64 v,.int .i64 tw,.int .i64 0,.int .i64 0])
          case hk=>trivial
          case hi=>(intro g g' h;simpa using h)
          case hw=>rfl
          case h=>(intro w;simp[go_sem])
          case k =>
          intro gs
          simp only[Act.put,List.setIfInBounds_toArray,List.set_cons_succ,List.set_cons_zero,List.cons_append,List.nil_append]
          apply wpO_anyG (R:=fun v' w' => w'.ownsRow (G+1) (A).t (A).k v' ((A).n+(A).m) ((A).xs++(A).news)∧(v'.ownBlock=(A).v.ownBlock∨∃ b,v'.ownBlock=some b∧wr.heap.size≤b))
          case hR=>exact fun v' w' w'' h k=>⟨k.post _ (List.mem_singleton.2 rfl) v' h.2 h.1,h.2⟩
          case hw=>rfl
          case h =>
           intro wx hS_ hF_
           refine runVG_app _ _ _ rfl rfl rfl ?_
           (
                     obtain⟨hbg,-,-⟩:=factsOf_at (j:=13) (by decide) hF_
                     exact ap_one HA.out HLO.out (HM.out.rows.ok 1 _ rfl) hS_ (by have:=HM.out.lt;omega) (Nat.le_refl _) _ _ i3 _ 32 Tryz.underlying24 HI3.out.1 HI3.out.2.1 HI3.out.2.2.1 HI3.out.2.2.2 rfl (by decide) _ _ rfl (blk4 hbg) (one4 _ _ _ _ _ _ _ _) (by rw[HHL.out];unfold maxLen;omega) (by rw[HHL.out];omega))
          case k =>
          intro v'
          simp only[Act.put,List.setIfInBounds_toArray,List.set_cons_succ,List.set_cons_zero,List.cons_append,List.nil_append]
          iterate 3 (apply wpO_detG;(case hw=>rfl);(case h=>intro hFm wx hS_ hF_ K hK;go_big_quiet_op;first | exact hK _ rfl | (apply Exists.intro;refine⟨fun _=>?_,?_⟩;(focus (first | (intro hC;have hC:=hC.out;(try simp only[hC,Result.andThen]);first | exact⟨True.intro,rfl⟩ | exact⟨rfl,rfl⟩ | rfl)));exact hK _ rfl));(case' k=>simp only[Act.put,List.setIfInBounds_toArray,List.set_cons_succ,List.set_cons_zero,List.cons_append,List.nil_append]))
          refine wpO_nilG ?_
          intro w8 hS hF hB
          (try simp[allF] at hF)
          (try simp[List.pairwise_cons] at hB)
          obtain⟨-,hown,hloc⟩:=hF
          have hb1:=HM.out.rows.keepA (i:=1) rfl HAV.out hS HB.out (.inl (by show(91:Nat)≠33;decide))
          have hb2:=HM.out.rows.keepA (i:=1) rfl HAV.out hS HM.out.blk (.inr (by omega))
          have hb3:=HM.out.rows.keepA (i:=1) rfl HAV.out hS HX.out (.inl (by show(37:Nat)≠33;decide))
          have hS8:=ApK.since hS HS.out (by omega) (fun A' hA' g e=>(HLO.out A' hA' g e).1)
          have hN8:=HNM.out.apk HM.out.rows (i:=1) rfl HAV.out hS
          have hrw:=HM.out.rows.app (i:=1) rfl HAV.out (Nat.le_refl _) hS ⟨v',33,4,(hfK E P (h+1)).length,(hfK E P (h+1)).flatMap hfV⟩ (by
           show World.ownsRow _ _ _ _ _ _ _
           rw[hfK_succ,HFR.out,← HTW.out,List.length_append,List.flatMap_append]
           rw[HA.out] at hown
           exact hown) hloc
          obtain⟨av,cv,hv'⟩:=Rws.slice hrw (i:=1) rfl
          simp only at hv'
          have HW:=Lib.hid (And.intro hb1 (And.intro hb2 (And.intro hS8 (And.intro hrw (And.intro hb3 hN8)))))
          subst hv'
          have g_0:=hb2.cell 1
          have g_f:=hb2.frozen 1
          simp only[List.getElem?_toArray,List.getElem?_cons_zero,List.getElem?_cons_succ] at g_0
          clear hown hloc hb1 hb2 hb3 hS8 hN8 hrw hS hB KF RG HLO HM HB HX HS HNM HAV HA A m2 m3
          go_upto_region 23 with fail
          refine atW (fun w' => Hid (Since w0 w')∧Hid (Blk w' Gb 91 #[.pointer (some ⟨G,0,none⟩)])∧Hid (Mk w' G (stB gP cP gO V P (.slice av (hfK E P (h+1)).length cv) (hfK E P (h+1)) (O)))∧Hid (NumP w' Gm P V)∧Hid (Blk w' G10 37 #[.int .i64 s.1.1,.int .i64 s.1.2,.int .i64 s.2.1,.int .i64 s.2.2])) ⟨HW.out.2.2.1.setCell hG _,HW.out.1.far (by dsimp only;omega) _,⟨HW.out.2.1.set_ 1 _,HW.out.2.2.2.1.low (Nat.lt_succ_self _) _⟩,HW.out.2.2.2.2.2.kept (set_grown _ _ _) (by dsimp only;intro e;injection e;omega),HW.out.2.2.2.2.1.far (by dsimp only;omega) _⟩ ?_
          clear HW g_0 g_f
          rintro w9 ⟨HS,HB,HM,HNM,HX⟩
          obtain⟨q,HQ⟩:∃ q:Value×List Int,Hid (q=O.getD v (nilV,[])):=⟨_,rfl⟩
          have HQ2:Hid (q.2=outK E P h v):=by show _=_;rw[HQ.out];exact HO.out v hvV
          have HQL:Hid (q.2.length≤h):=by show _≤_;rw[HQ2.out];exact outK_len E P h v
          have hi8:=St.rows_out (s:=(stB gP cP gO V P (.slice av (hfK E P (h+1)).length cv) (hfK E P (h+1)) (O))) (v:=v) (by show v<O.length;omega)
          have hi8:(stB gP cP gO V P (.slice av (hfK E P (h+1)).length cv) (hfK E P (h+1)) (O)).rows[8+v]? = some (rI q.1 q.2):=by rw[HQ.out];exact hi8
          have HI8:=Lib.hid hi8
          obtain⟨aq,cq,hqv⟩:=Rws.slice HM.out.rows hi8
          simp only[rI] at hqv
          have cO:=HM.out.rows.cell (i:=7) rfl rfl (j:=v) (by show v<O.length*1;omega)
          have cOv:w9.cell? ⟨gO,v,none⟩=some q.1:=by
           rw[cO]
           show(O.map Prod.fst)[v]? = some q.1
           rw[HQ.out]
           simp[List.getD,show v<O.length by omega]
          have fO:=HM.out.rows.frozen (i:=7) rfl rfl v
          obtain⟨A,HA⟩:∃ A:Ap,Hid (A=⟨q.1,3,1,q.2.length,q.2.map iV,1,[.int .i64 h]⟩):=⟨_,rfl⟩
          have HAV:Hid (A.v=q.1):=by show _=_;rw[HA.out]
          have HLO:=Lib.hid (HM.out.rows.lo hi8 HAV.out)
          have HNO:Hid (∀ A' ∈ [A],A'.v.ownBlock≠some gO):=fun A' hA' e=>by
           rw[List.mem_singleton.1 hA',HAV.out] at e
           exact HM.out.rows.ap (8+v) 7 _ _ (by omega) HI8.out rfl gO e rfl
          letI RG:RegG:=apG (G+1) w9.heap.size [A] (fun A' hA' g e=>(HLO.out A' hA' g e).2)
          have KF:=Lib.hid (fun w' (h:SinceG w9 w')=>(show w'.cell? ⟨Gb,0,none⟩=some (.pointer (some ⟨G,0,none⟩))∧w'.cell? ⟨G,7,none⟩=some (.slice (some ⟨gO,0,none⟩) V V)∧w'.cell? ⟨gO,v,none⟩=some q.1 from by
           have b1:=HM.out.rows.keepA HI8.out HAV.out h HB.out (.inl (by show(91:Nat)≠3;decide))
           have b2:=HM.out.rows.keepA HI8.out HAV.out h HM.out.blk (.inr (by omega))
           exact⟨b1.cell 0,b2.cell 7,ApK.cell h HNO.out cOv⟩))
          have v1:(0:Int)≤(v:Int):=by omega
          have v2:(v:Int)<(V:Int):=by omega
          obtain⟨q1,q2⟩:=q
          simp only at hqv
          subst hqv
          clear hi8 cO
          apply region_factsG 19 (fun w' => SinceG w9 w')
          case hm=>kernel_rfl
          case hB=>kernel_rfl
          case hS=>exact(SinceG.rfl_ w9).drew
          case hmono=>exact(fun _ _ h k=>h.trans k)
          case hTb=>exact(fun g hg=>hg)
          case h =>
          simp only[List.take_succ_cons,List.take_zero,List.drop_succ_cons,List.drop_zero]
          iterate 16 (apply wpO_detG;(case hw=>rfl);(case h=>intro hFm wx hS_ hF_ K hK;go_big_quiet_op;first | exact hK _ rfl | (apply Exists.intro;refine⟨fun _=>?_,?_⟩;(focus (first | (intro hC;have hC:=KF.out _ hC.out.1;(try simp only[hC,Result.andThen]);first | exact⟨True.intro,rfl⟩ | exact⟨rfl,rfl⟩ | rfl)));exact hK _ rfl));(case' k=>simp only[Act.put,List.setIfInBounds_toArray,List.set_cons_succ,List.set_cons_zero,List.cons_append,List.nil_append]))
          apply wpO_mkG (f:=fun g=>.slice (some ⟨g,0,none⟩) 1 1) (t:=3) (cs := #[.int .i64 h])
          case hk=>trivial
          case hi=>(intro g g' h;simpa using h)
          case hw=>rfl
          case h=>(intro w;simp[go_sem])
          case k =>
          intro gs
          simp only[Act.put,List.setIfInBounds_toArray,List.set_cons_succ,List.set_cons_zero,List.cons_append,List.nil_append]
          apply wpO_anyG (R:=fun v' w' => w'.ownsRow (G+1) (A).t (A).k v' ((A).n+(A).m) ((A).xs++(A).news)∧(v'.ownBlock=(A).v.ownBlock∨∃ b,v'.ownBlock=some b∧w9.heap.size≤b))
          case hR=>exact fun v' w' w'' h k=>⟨k.post _ (List.mem_singleton.2 rfl) v' h.2 h.1,h.2⟩
          case hw=>rfl
          case h =>
           intro wx hS_ hF_
           refine runVG_app _ _ _ rfl rfl rfl ?_
           (
                     obtain⟨hbg,-,-⟩:=factsOf_at (j:=16) (by decide) hF_
                     exact ap_one HA.out HLO.out (HM.out.rows.ok _ _ HI8.out) hS_ (by have:=HM.out.lt;omega) (Nat.le_refl _) _ _ i4 _ 8 Tryz.underlying22 HI4.out.1 HI4.out.2.1 HI4.out.2.2.1 HI4.out.2.2.2 rfl (by decide) _ _ rfl (blk1 hbg) (one1 _ _) (by have:=HQL.out;unfold maxLen;omega) (by have:=HQL.out;omega))
          case k =>
          intro v'
          simp only[Act.put,List.setIfInBounds_toArray,List.set_cons_succ,List.set_cons_zero,List.cons_append,List.nil_append]
          (apply wpO_detG;(case hw=>rfl);(case h=>intro hFm wx hS_ hF_ K hK;go_big_quiet_op;first | exact hK _ rfl | (apply Exists.intro;refine⟨fun _=>?_,?_⟩;(focus (first | (intro hC;have hC:=hC.out;(try simp only[hC,Result.andThen]);first | exact⟨True.intro,rfl⟩ | exact⟨rfl,rfl⟩ | rfl)));exact hK _ rfl));(case' k=>simp only[Act.put,List.setIfInBounds_toArray,List.set_cons_succ,List.set_cons_zero,List.cons_append,List.nil_append]))
          refine wpO_nilG ?_
          intro w10 hS hF hB
          (try simp[allF] at hF)
          (try simp[List.pairwise_cons] at hB)
          obtain⟨-,hown,hloc⟩:=hF
          have hb1:=HM.out.rows.keepA HI8.out HAV.out hS HB.out (.inl (by show(91:Nat)≠3;decide))
          have hb2:=HM.out.rows.keepA HI8.out HAV.out hS HM.out.blk (.inr (by omega))
          have hb3:=HM.out.rows.keepA HI8.out HAV.out hS HX.out (.inl (by show(37:Nat)≠3;decide))
          have hS10:=ApK.since hS HS.out (by omega) (fun A' hA' g e=>(HLO.out A' hA' g e).1)
          have hN10:=HNM.out.apk HM.out.rows HI8.out HAV.out hS
          have cO2:=ApK.cell hS HNO.out cOv
          have hrw:=HM.out.rows.app HI8.out HAV.out (Nat.le_refl _) hS (rI v' (outK E P (h+1) v)) (by
           have hq2:q2=outK E P h v:=HQ2.out
           show w10.ownsRow (G+1) 3 1 v' (outK E P (h+1) v).length ((outK E P (h+1) v).map iV)
           rw[outK_same HFR.out,← hq2,List.length_append,List.map_append]
           rw[HA.out] at hown
           exact hown) hloc
          have hi7:((stB gP cP gO V P (.slice av (hfK E P (h+1)).length cv) (hfK E P (h+1)) (O)).rows.set (8+v) (rI v' (outK E P (h+1) v)))[7]? = some ⟨.slice (some ⟨gO,0,none⟩) V V,22,1,O.length,O.map Prod.fst⟩:=by
           rw[List.getElem?_set_ne (by omega)];rfl
          have hst:=hrw.store hi7 (g:=gO) rfl (j:=v) (by show v<O.length*1;omega) v'
          have hst2:Rws (w10.setCell ⟨gO,v,none⟩ v') (G+1) (stB gP cP gO V P (.slice av (hfK E P (h+1)).length cv) (hfK E P (h+1)) (O.set v (v',outK E P (h+1) v))).rows:=by
           rw[← stB_set]
           exact hst
          have hgO:=HM.out.rows.ge (i:=7) rfl (g:=gO) rfl
          have hn1:Gb≠gO:=fun e=>HM.out.rows.ne_blk (i:=7) rfl HB.out (by show(91:Nat)≠22;decide) (by rw[e];rfl)
          have hn2:G10≠gO:=fun e=>HM.out.rows.ne_blk (i:=7) rfl HX.out (by show(37:Nat)≠22;decide) (by rw[e];rfl)
          have hn3:Gm≠gO:=fun e=>HM.out.rows.ne_num (i:=7) rfl HNM.out (by rw[e];rfl)
          have hh1:h+1=2*i+(d+1):=by have:=HHH.out;omega
          have hgl:w0.heap.size≤gO:=by omega
          have hgn:G≠gO:=by omega
          have fO2:=hrw.frozen hi7 (g:=gO) rfl v
          obtain⟨av2,cv2,hv2⟩:=Rws.slice hrw (i:=8+v) (List.getElem?_set_self (List.getElem?_eq_some_iff.1 HI8.out).1)
          simp only[rI] at hv2
          have HW:=Lib.hid (And.intro hb1 (And.intro hb2 (And.intro hS10 (And.intro hst2 (And.intro hb3 hN10)))))
          subst hv2
          clear hown hloc hb1 hb2 hb3 hS10 hN10 hrw hst hst2 hi7 hS hB KF RG HLO HNO HM HB HX HS HNM HAV HA A m1 m4 cOv fO
          go_wp2_with fail
          go_roundw
          case rel =>
           refine⟨d+1,.slice av (hfK E P (h+1)).length cv,O.set v (.slice av2 (outK E P (h+1) v).length cv2,outK E P (h+1) v),by omega,by go_num,HW.out.2.2.1.setCell hgl _,HW.out.1.far hn1 _,?_,HW.out.2.2.2.2.2.kept (set_grown _ _ _) (fun e=>hn3 (by injection e)),by rw[List.length_set];exact hOl,fun u hu=>?_,HW.out.2.2.2.2.1.far hn2 _⟩
           ·show Mk _ _ _
            rw[← hh1]
            exact⟨HW.out.2.1.far hgn _,HW.out.2.2.2.1⟩
           rw[← hh1]
           by_cases e:u=v
           ·subst e
            simp[List.getD,hOl,hu]
           ·have e2:frH E P h≠u:=by rw[HFR.out];exact fun k=>e k.symm
            rw[outK_other e2,← HO.out u hu]
            simp[List.getD,List.getElem?_set_ne (Ne.symm e)]
          case measure=>simp[intOf];omega
         ·obtain rfl:d=2:=by omega
          have hz2:decide (((2:Nat):Int)<2)=false:=by decide
          go_wp2_with fail
          go_roundw
          case rel=>exact⟨i+1,_,_,by omega,by go_num,HS,HB,HM,HNM,hOl,HO⟩
          case measure=>simp[intOf];omega
       ·obtain rfl:i=k:=by omega
        have hz:decide ((i:Int)<(i:Int))=false:=by rw[decide_eq_false_iff_not];omega
        have HBb:=HB.out.cell 0
        have HMo:wr.cell? ⟨G,7,none⟩=some (.slice (some ⟨gO,0,none⟩) V V):=HM.out.blk.cell 7
        simp only[List.getElem?_toArray,List.getElem?_cons_zero,List.getElem?_cons_succ] at HBb
        go_upto_region 27 with fail
        obtain⟨H,HH⟩:∃ H,Hid (H=hfK E P (2*i)):=⟨_,rfl⟩
        have HHL:Hid (H.length=2*i):=by show _=_;rw[HH.out,hfK_len]
        rw[← HH.out] at HM
        obtain⟨gH,cH,hvH⟩:=HM.out.rows.some_ (i:=1) rfl (by show 0<H.length;have:=HHL.out;omega)
        have hvH:vH=.slice (some ⟨gH,0,none⟩) H.length cH:=hvH
        subst hvH
        have HPM:Hid (∀ h,h<2*i→endH E h∈P):=fun h hh=>by rw[HP.out];exact hullS_mem.2 (endH_mem hh HN.out)
        have HGD:Hid (∀ v,∀ x∈outK E P (2*i) v,GoodH P H x):=fun v x hx=>by
         obtain⟨h,rfl,hh,-⟩:=outK_mem.1 hx
         rw[HH.out]
         exact good_half HE.out HN.out hl HPM.out HPO.out hh
        obtain⟨O0,HO0⟩:∃ O0,Hid (O0=O):=⟨_,rfl⟩
        clear HBb HMo HNM
        go_loopw [137] (fun v137 wr=>∃ (j:Nat) (O:List (Value×List Int)),j≤V∧v137=.int .i64 j∧Hid (Since w0 wr)∧Hid (Blk wr Gb 91 #[.pointer (some ⟨G,0,none⟩)])∧Hid (Mk wr G (stB gP cP gO V P (.slice (some ⟨gH,0,none⟩) H.length cH) H O))∧O.length=V∧Hid (∀ v,v<j→SrtO P H (outK E P (2*i) v) (O.getD v (nilV,[])).2)∧Hid (∀ v,j≤v→v<V→(O.getD v (nilV,[])).2=outK E P (2*i) v)) (fun v137 _=>V-(intOf v137).toNat)
        case atStart=>exact⟨0,O,by omega,by go_num,HS,HB,HM,hOl,fun v hv=>absurd hv (Nat.not_lt_zero _),fun v _ hv=>HO.out v hv⟩
        case round =>
         clear HS HB HM HO hOl HO0
         obtain⟨j,O,hj,rfl,HS,HB,HM,hOl,HO,HO2⟩:=hrel
         obtain⟨wv,rfl⟩:∃ wv,wv=wr:=⟨_,rfl⟩
         rcases Nat.lt_or_ge j V with hlt | hge
         ·have hz:decide ((j:Int)<(V:Int))=true:=by rw[decide_eq_true_eq];omega
          obtain⟨q,HQ⟩:∃ q:Value×List Int,Hid (q=O.getD j (nilV,[])):=⟨_,rfl⟩
          have HQ2:Hid (q.2=outK E P (2*i) j):=by show _=_;rw[HQ.out];exact HO2.out j (Nat.le_refl _) hlt
          have HQL:Hid (q.2.length≤1000000):=by show _≤_;rw[HQ2.out];have:=outK_len E P (2*i) j;omega
          have hi8:=St.rows_out (s:=(stB gP cP gO V P (.slice (some ⟨gH,0,none⟩) H.length cH) H O)) (v:=j) (by show j<O.length;omega)
          have hi8:(stB gP cP gO V P (.slice (some ⟨gH,0,none⟩) H.length cH) H O).rows[8+j]? = some (rI q.1 q.2):=by rw[HQ.out];exact hi8
          have HI8:=Lib.hid hi8
          have cO:=HM.out.rows.cell (i:=7) rfl rfl (j:=j) (by show j<O.length*1;omega)
          have cOv:wv.cell? ⟨gO,j,none⟩=some q.1:=by
           rw[cO]
           show(O.map Prod.fst)[j]? = some q.1
           rw[HQ.out]
           simp[List.getD,show j<O.length by omega]
          have HBb:=HB.out.cell 0
          have HMo:wv.cell? ⟨G,7,none⟩=some (.slice (some ⟨gO,0,none⟩) V V):=HM.out.blk.cell 7
          simp only[List.getElem?_toArray,List.getElem?_cons_zero,List.getElem?_cons_succ] at HBb
          have v1:(0:Int)≤(j:Int):=by omega
          have v2:(j:Int)<(V:Int):=by omega
          have HCALL:Hid (Calls Tryz.prog 88 #[q.1,.func (.func 89) #[] #[.pointer (some ⟨Gb,0,none⟩)]] wv fun e w' => e=.returned (.tuple #[])∧Since w0 w' ∧ Blk w' Gb 91 #[.pointer (some ⟨G,0,none⟩)]∧∃ l',Mk w' G (stB gP cP gO V P (.slice (some ⟨gH,0,none⟩) H.length cH) H (O.set j (q.1,l')))∧SrtO P H (outK E P (2*i) j) l'):=by
           show Calls _ _ _ _ _
           have hset:∀ l' : List Int,(stB gP cP gO V P (.slice (some ⟨gH,0,none⟩) H.length cH) H O).rows.set (8+j) (rI q.1 l')=(stB gP cP gO V P (.slice (some ⟨gH,0,none⟩) H.length cH) H (O.set j (q.1,l'))).rows:=fun l' => by
            rw[HQ.out]
            exact St.rows_setL (s:=stB gP cP gO V P (.slice (some ⟨gH,0,none⟩) H.length cH) H O) (by show j<O.length;omega) l'
           by_cases hq0:q.2=[]
           ·obtain⟨aq,cq,hqv⟩:=Rws.slice HM.out.rows hi8
            simp only[rI,hq0,List.length_nil] at hqv
            rw[hqv]
            refine(row_none aq cq _ wv).mono ?_
            rintro e w' ⟨rfl,rfl⟩
            refine⟨rfl,HS.out,HB.out,[],?_,?_⟩
            ·have:=hset []
             rw[← hqv]
             refine⟨HM.out.blk,?_⟩
             rw[← this]
             have e:(stB gP cP gO V P (.slice (some ⟨gH,0,none⟩) H.length cH) H O).rows.set (8+j) (rI q.1 [])=(stB gP cP gO V P (.slice (some ⟨gH,0,none⟩) H.length cH) H O).rows:=by
              rw[← hq0]
              apply List.ext_getElem?
              intro i'
              rw[List.getElem?_set]
              split
              ·rename_i e;subst e;rw[hi8];simp[(List.getElem?_eq_some_iff.1 hi8).1]
              ·rfl
             rw[e]
             exact HM.out.rows
            ·rw[← HQ2.out,hq0];exact SrtO.nil P H
           ·obtain⟨g,cq,hqv⟩:=HM.out.rows.some_ hi8 (by show 0<q.2.length;exact List.length_pos_iff.2 hq0)
            simp only[rI] at hqv
            have hob:(rI q.1 q.2).v.ownBlock=some g:=by show q.1.ownBlock=some g;rw[hqv];rfl
            have hge:=HM.out.rows.ge hi8 hob
            have n2:gP≠g:=fun e=>HM.out.rows.ap 0 (8+j) _ _ (by omega) rfl hi8 gP rfl (by rw[hob,e])
            have n3:gH≠g:=fun e=>HM.out.rows.ap 1 (8+j) _ _ (by omega) rfl hi8 gH rfl (by rw[hob,e])
            have n4:Gb≠g:=fun e=>HM.out.rows.ne_blk hi8 HB.out (by show(91:Nat)≠3;decide) (by rw[hob,e])
            have how:=HM.out.rows.ok _ _ hi8
            simp only[rI] at how
            rw[hqv] at how
            have:=row_some (HM.out.see rfl rfl) HBb q.2 (by rw[HQ2.out];exact HGD.out j) hq0 how (by omega) n2 n3 n4 HQL.out
            rw[← hqv] at this
            refine this.mono ?_
            rintro e w' ⟨rfl,hon,l',hp,hsr,how2⟩
            refine⟨rfl,Only.since HS.out hon (by omega),hon.blk HB.out n4,l',⟨hon.blk HM.out.blk (by omega),?_⟩,?_,hsr⟩
            ·rw[← hset l']
             refine HM.out.rows.turn hi8 (by show q.1=_;exact hqv) hon (rI q.1 l') (by show q.1=_;exact hqv) ?_
             show w'.ownsRow (G+1) 3 1 q.1 l'.length (l'.map iV)
             rw[hp.length_eq]
             exact how2
            ·rw[← HQ2.out];exact hp
          clear cO hi8 HGD HPM
          go_wp2_with (go_at_call 88;refine HCALL.out.mono ?_;rintro e w9 ⟨rfl,k1,k2,l',k3,k4⟩;have HW:=Lib.hid (And.intro k1 (And.intro k2 (And.intro k3 k4)));clear k1 k2 k3 k4 HCALL HBb HMo cOv)
          go_roundw
          case rel =>
           refine⟨j+1,O.set j (q.1,l'),by omega,by go_num,HW.out.1,HW.out.2.1,HW.out.2.2.1,by rw[List.length_set];exact hOl,fun v hv=>?_,fun v hv hV=>?_⟩
           ·by_cases e:v=j
            ·subst e
             have:(O.set v (q.1,l')).getD v (nilV,[])=(q.1,l'):=by simp[List.getD,show v<O.length by omega]
             rw[this]
             exact HW.out.2.2.2
            ·have:(O.set j (q.1,l')).getD v (nilV,[])=O.getD v (nilV,[]):=by simp only[List.getD,List.getElem?_set_ne (Ne.symm e)]
             rw[this]
             exact HO.out v (by omega)
           ·have:(O.set j (q.1,l')).getD v (nilV,[])=O.getD v (nilV,[]):=by simp only[List.getD,List.getElem?_set_ne (show j≠v by omega)]
            rw[this]
            exact HO2.out v (by omega) hV
          case measure=>simp[intOf];omega
         ·obtain rfl:j=V:=by omega
          have hz:decide ((j:Int)<(j:Int))=false:=by rw[decide_eq_false_iff_not];omega
          go_wp2_with fail
          go_end0
          refine⟨rfl,HS.out,gP,cP,gO,gH,cH,j,i,P,O,HN.out,HP.out,HVV.out,?_,hOl,?_⟩
          ·rw[← HH.out];exact HM.out
          ·rw[← HH.out];exact HO.out
end
end Go.Proofs.YtdnccjdlmepafaaGreat
