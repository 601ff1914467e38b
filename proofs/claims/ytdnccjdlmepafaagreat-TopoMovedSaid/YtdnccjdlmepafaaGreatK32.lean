/-
  Plain law of HotTwice: of at most 12 segments the rounded ones are at most 270, and rounding them changes nothing; The walk of terrkeep3.built: the subdivision of the stream's rounded segments; The walk of TopoMoved; The walk of TopoMoved, for whatever arguments; The arguments of laws, read as data: lists of numbers, points, boxes, numbers. Conditions: those that each lemma names.
-/
import Derived.Test.YtdnccjdlmepafaaGreatK31
import Derived.Test.YtdnccjdlmepafaaGreatK17
import Derived.Test.YtdnccjdlmepafaaGreatK29
import Derived.Test.YtdnccjdlmepafaaGreatK28
import Derived.Test.YtdnccjdlmepafaaGreatK06
import Derived.Test.YtdnccjdlmepafaaGreatK16
import Derived.Test.YtdnccjdlmepafaaGreatK18
import Derived.BigQuiet
import Derived.Test.YtdnccjdlmepafaaGreatRows
import Derived.Test.YtdnccjdlmepafaaGreatK03
import Derived.ProofKit
import Derived.OpenShut
import Derived.ChangeOld
import Derived.SizedLaws
import Derived.Lib.SmallJoins
import Derived.Deep.SlicePairs
set_option linter.unusedSimpArgs false
set_option linter.unusedVariables false
set_option linter.constructorNameAsVariable false
namespace Go.Proofs.YtdnccjdlmepafaaGreat
section
theorem at0{s:Sg}(h:s.1≠s.2){l:Rat}{p:Pt2}(e:lerp (toQ s.1) (toQ s.2) l=toQ p)(k:p=s.1∨p=s.2):l=0∨l=1:=by
 rcases k with k | k
 ·exact .inl (lerp_inj h (by rw[e,lerp0,k]))
 ·exact .inr (lerp_inj h (by rw[e,lerp1,k]))
theorem fix_common{cs:List (List Pt2)}(h:Inv cs)(hf:stepC cs=cs){s t:Sg}(hs:s∈edgL cs)(ht:t∈edgL cs)(hne:s≠t){l m:Rat}(hl:I01 l)(hm:I01 m)(e:lerp (toQ s.1) (toQ s.2) l=lerp (toQ t.1) (toQ t.2) m) :
  (l=0∨l=1)∧(m=0∨m=1):=by
 have os:=h.eok s hs
 have ot:=h.eok t ht
 have ls:=edg_lx h hs
 have lt:=edg_lx h ht
 have he:=hot_end hs
 have he' := hot_end ht
 -- an end of one that is on the other is an end of it
 have on_t:∀ {x:Pt2} {u:Rat},x∈hotL (edgL cs)→I01 u→toQ x=lerp (toQ t.1) (toQ t.2) u→x=t.1∨x=t.2:=fun {x u} hx hu k=>fix_edge h hf ht hx hu (by rw[← k];exact in_self _)
 have on_s:∀ {x:Pt2} {u:Rat},x∈hotL (edgL cs)→I01 u→toQ x=lerp (toQ s.1) (toQ s.2) u→x=s.1∨x=s.2:=fun {x u} hx hu k=>fix_edge h hf hs hx hu (by rw[← k];exact in_self _)
 have key:¬ (l≠0∧l≠1∧m≠0∧m≠1):=by
  rintro⟨l0,l1,m0,m1⟩
  have b0:0<l∧l<1:=by unfold I01 at hl;grind
  have b1:0<m∧m<1:=by unfold I01 at hm;grind
  by_cases hD:crs t.1 t.2 s.1-crs t.1 t.2 s.2=0
  ·obtain⟨r,r',e1,e2⟩:=par_line os.2.2 e hD
   rw[e1,e2,lerp_lerp] at e
   have el:=lerp_inj os.2.2 e
   have in_:∀ {u:Rat},0≤u→u≤1→I01 u:=fun {u} a b=>⟨a,b⟩
   have z1:∀ {u:Rat} {x:Pt2},toQ x=lerp (toQ s.1) (toQ s.2) u→x∈hotL (edgL cs)→0≤u→u≤1→u=0∨u=1:=fun {u x} k hx a b=>at0 os.2.2 k.symm (on_s hx ⟨a,b⟩ k)
   have q1:=z1 e1 he'.1
   have q2:=z1 e2 he'.2
   have c0:lerp (toQ s.1) (toQ s.2) 0=toQ s.1:=lerp0 _ _
   have c1:lerp (toQ s.1) (toQ s.2) 1=toQ s.2:=lerp1 _ _
   -- the ends of s on t
   have back:∀ {u v:Rat} {x:Pt2},lerp (toQ s.1) (toQ s.2) v=toQ x→x∈hotL (edgL cs)→0≤u→u≤1→r+u*(r' - r)=v→v=r∨v=r' := fun {u v x} k hx a b ev=>by
    have k2:toQ x=lerp (toQ t.1) (toQ t.2) u:=by rw[e1,e2,lerp_lerp,ev,k]
    rcases on_t hx ⟨a,b⟩ k2 with g | g
    ·exact .inl (lerp_inj os.2.2 (by rw[k,g,e1]))
    ·exact .inr (lerp_inj os.2.2 (by rw[k,g,e2]))
   have hrr:r≠r' := fun k=>by rw[k] at el;grind
   obtain⟨i,hi⟩:=inv_ (show r' - r≠0 by grind)
   rcases (show r<r' ∨ r' < r by grind) with hlt | hlt
   ·have p1:=Rat.mul_pos (a:=m) (b:=r' - r) b1.1 (by grind)
    have p2:=Rat.mul_pos (a:=1-m) (b:=r' - r) (by grind) (by grind)
    have g1:r<l:=by grind
    have g2:l<r' := by grind
    have hip:0<i:=by
     refine Classical.byContradiction fun k=>?_
     have:=Rat.mul_nonneg (a := -i) (b:=r' - r) (by grind) (by grind)
     grind
    -- a parameter between r and r' is one of t
    have par:∀ {v:Rat},r≤v→v≤r' → 0≤(v-r)*i∧(v-r)*i≤1∧r+(v-r)*i*(r' - r)=v:=fun {v} a b=>by
     have:=Rat.mul_nonneg (a:=v-r) (b:=i) (by grind) (by grind)
     have:=Rat.mul_nonneg (a:=r' - v) (b:=i) (by grind) (by grind)
     have e5:(v-r)*i*(r' - r)=(v-r)*(i*(r' - r)):=by grind
     refine⟨by grind,by grind,by rw[e5,hi];grind⟩
    have r0:r=0:=by
     rcases (show r<0∨0≤r by grind) with k | k
     ·obtain⟨a,b,c⟩:=par (v:=0) (by grind) (by grind)
      rcases back c0 he.1 a b c with g | g <;> grind
     ·rcases q1 k (by grind) with g | g <;> grind
    have r1:r' = 1:=by
     rcases (show 1<r' ∨ r' ≤ 1 by grind) with k | k
     ·obtain⟨a,b,c⟩:=par (v:=1) (by grind) (by grind)
      rcases back c1 he.2 a b c with g | g <;> grind
     ·rcases q2 (by grind) k with g | g <;> grind
    rw[r0,c0] at e1
    rw[r1,c1] at e2
    exact hne (Prod.ext (toQ_inj e1.symm) (toQ_inj e2.symm))
   ·have p1:=Rat.mul_pos (a:=m) (b:=r-r') b1.1 (by grind)
    have p2:=Rat.mul_pos (a:=1-m) (b:=r-r') (by grind) (by grind)
    have g1:l<r:=by grind
    have g2:r' < l:=by grind
    have hip:i<0:=by
     refine Classical.byContradiction fun k=>?_
     have:=Rat.mul_nonneg (a:=i) (b:=r-r') (by grind) (by grind)
     grind
    have par:∀ {v:Rat},r' ≤ v→v≤r→0≤(v-r)*i∧(v-r)*i≤1∧r+(v-r)*i*(r' - r)=v:=fun {v} a b=>by
     have:=Rat.mul_nonneg (a:=r-v) (b := -i) (by grind) (by grind)
     have:=Rat.mul_nonneg (a:=v-r') (b := -i) (by grind) (by grind)
     have e5:(v-r)*i*(r' - r)=(v-r)*(i*(r' - r)):=by grind
     refine⟨by grind,by grind,by rw[e5,hi];grind⟩
    have r0:r' = 0:=by
     rcases (show r' < 0∨0≤r' by grind) with k | k
     ·obtain⟨a,b,c⟩:=par (v:=0) (by grind) (by grind)
      rcases back c0 he.1 a b c with g | g <;> grind
     ·rcases q2 k (by grind) with g | g <;> grind
    have r1:r=1:=by
     rcases (show 1<r∨r≤1 by grind) with k | k
     ·obtain⟨a,b,c⟩:=par (v:=1) (by grind) (by grind)
      rcases back c1 he.2 a b c with g | g <;> grind
     ·rcases q1 (by grind) k with g | g <;> grind
    rw[r1,c1] at e1
    rw[r0,c0] at e2
    rw[toQ_inj e1,toQ_inj e2] at lt
    exact lx_asy ls lt
  ·-- not parallel: the common point is a hot one
   obtain⟨x,hx,hi⟩:∃ x∈hotL (edgL cs),inP (toQ x) (lerp (toQ s.1) (toQ s.2) l):=by
    rcases hot_core h.eok hs ht hl hm e with k | k
    ·exact k
    ·exact absurd k (fun k=>hD (by
      obtain⟨r,r',hc,hd⟩:=k
      unfold toQ lerp at hc hd
      rw[Prod.ext_iff] at hc hd
      dsimp only at hc hd
      obtain⟨c1,c2⟩:=hc
      obtain⟨d1,d2⟩:=hd
      have h1:=crsQ t.1 t.2 s.1
      have h2:=crsQ t.1 t.2 s.2
      have:((crs t.1 t.2 s.1-crs t.1 t.2 s.2:Int):Rat)=0:=by
       push_cast
       rw[h1,h2,c1,c2,d1,d2]
       grind
      exact cast0.1 this))
   have x1:=fix_edge h hf hs hx hl hi
   have x2:=fix_edge h hf ht hx hm (by rw[← e];exact hi)
   -- two common points: parallel
   obtain⟨u,hu,eu⟩:∃ u:Rat,(u=0∨u=1)∧lerp (toQ s.1) (toQ s.2) u=toQ x:=by
    rcases x1 with k | k
    ·exact⟨0,.inl rfl,by rw[lerp0,k]⟩
    ·exact⟨1,.inr rfl,by rw[lerp1,k]⟩
   obtain⟨v,hv,ev⟩:∃ v:Rat,(v=0∨v=1)∧lerp (toQ t.1) (toQ t.2) v=toQ x:=by
    rcases x2 with k | k
    ·exact⟨0,.inl rfl,by rw[lerp0,k]⟩
    ·exact⟨1,.inr rfl,by rw[lerp1,k]⟩
   apply hD
   have e2:lerp (toQ s.1) (toQ s.2) u=lerp (toQ t.1) (toQ t.2) v:=by rw[eu,ev]
   unfold lerp toQ at e e2
   rw[Prod.ext_iff] at e e2
   dsimp only at e e2
   obtain⟨a1,a2⟩:=e
   obtain⟨b1',b2'⟩:=e2
   have h1:=crsQ t.1 t.2 s.1
   have h2:=crsQ t.1 t.2 s.2
   have hul:l-u≠0:=by rcases hu with k | k <;> grind
   have f1:(l-u)*((s.2.1:Rat)-s.1.1)=(m-v)*((t.2.1:Rat)-t.1.1):=by grind
   have f2:(l-u)*((s.2.2:Rat)-s.1.2)=(m-v)*((t.2.2:Rat)-t.1.2):=by grind
   have:((crs t.1 t.2 s.1-crs t.1 t.2 s.2:Int):Rat)*(l-u)=0:=by
    push_cast
    rw[h1,h2]
    grind
   rcases Rat.mul_eq_zero.1 this with g | g
   ·exact cast0.1 g
   ·exact absurd g hul
 have l_end:l=0∨l=1→m=0∨m=1:=fun k=>by
  rcases k with k | k
  ·rw[k,lerp0] at e
   exact at0 ot.2.2 e.symm (on_t he.1 hm e)
  ·rw[k,lerp1] at e
   exact at0 ot.2.2 e.symm (on_t he.2 hm e)
 have m_end:m=0∨m=1→l=0∨l=1:=fun k=>by
  rcases k with k | k
  ·rw[k,lerp0] at e
   exact at0 os.2.2 e (on_s he'.1 hl e.symm)
  ·rw[k,lerp1] at e
   exact at0 os.2.2 e (on_s he'.2 hl e.symm)
 by_cases k1:l=0∨l=1
 ·exact⟨k1,l_end k1⟩
 ·by_cases k2:m=0∨m=1
  ·exact⟨m_end k2,k2⟩
  ·exact absurd ⟨fun k=>k1 (.inl k),fun k=>k1 (.inr k),fun k=>k2 (.inl k),fun k=>k2 (.inr k)⟩ key
def sh(p:Pt2):Q2:=(((4194304*p.1+p.2:Int):Rat),(p.2:Rat))
def shE(s:Sg):Q2×Q2:=(sh s.1,sh s.2)
theorem ok_bd{p:Pt2}(h:okP p.1 p.2=true) : -1048576≤p.1∧p.1≤1048576 ∧ -1048576≤p.2∧p.2≤1048576:=by
 have:=okP_abs h;omega
theorem sh_lt{p q:Pt2}(hp:okP p.1 p.2=true)(hq:okP q.1 q.2=true)(h:lx p q):(sh p).1<(sh q).1:=by
 have:=ok_bd hp
 have:=ok_bd hq
 unfold lx at h
 exact Rat.intCast_lt_intCast.2 (by omega)
theorem sh_inj{p q:Pt2}(hp:okP p.1 p.2=true)(hq:okP q.1 q.2=true)(h:(sh p).1=(sh q).1):p=q:=by
 have:=ok_bd hp
 have:=ok_bd hq
 have:(4194304*p.1+p.2:Int)=4194304*q.1+q.2:=Rat.intCast_inj.1 h
 exact Prod.ext (by omega) (by omega)
theorem sh_lerp{s:Sg}{x:Rat}(hw:(sh s.1).1<(sh s.2).1)(h1:(sh s.1).1≤x)(h2:x≤(sh s.2).1) :
  ∃ l,I01 l∧Plane.ht (shE s) x=(lerp (toQ s.1) (toQ s.2) l).2∧x=4194304*(lerp (toQ s.1) (toQ s.2) l).1+(lerp (toQ s.1) (toQ s.2) l).2∧(l=0→x=(sh s.1).1)∧(l=1→x=(sh s.2).1):=by
 obtain⟨i,hi⟩:=inv_ (show(sh s.2).1-(sh s.1).1≠0 by grind)
 have hie:((sh s.2).1-(sh s.1).1)⁻¹=i:=by
  have h3:((sh s.2).1-(sh s.1).1)⁻¹*((sh s.2).1-(sh s.1).1)=1:=Rat.inv_mul_cancel _ (by grind)
  have:(((sh s.2).1-(sh s.1).1)⁻¹-i)*((sh s.2).1-(sh s.1).1)=0:=by grind
  rcases Rat.mul_eq_zero.1 this with g | g <;> grind
 have hip:0≤i:=by
  refine Classical.byContradiction fun k=>?_
  have:=Rat.mul_pos (a := -i) (b:=(sh s.2).1-(sh s.1).1) (by grind) (by grind)
  grind
 have a:=Rat.mul_nonneg (a:=x-(sh s.1).1) (b:=i) (by grind) hip
 have b:=Rat.mul_nonneg (a:=(sh s.2).1-x) (b:=i) (by grind) hip
 have hx:x=(sh s.1).1+(x-(sh s.1).1)*(i*((sh s.2).1-(sh s.1).1)):=by rw[hi];grind
 refine⟨(x-(sh s.1).1)*i,⟨by grind,by grind⟩,?_,?_,fun k=>?_,fun k=>?_⟩
 ·unfold Plane.ht Plane.sl shE
  dsimp only
  rw[hie]
  unfold lerp toQ sh
  dsimp only
  grind
 ·have e1:4194304*(lerp (toQ s.1) (toQ s.2) ((x-(sh s.1).1)*i)).1+(lerp (toQ s.1) (toQ s.2) ((x-(sh s.1).1)*i)).2=(sh s.1).1+(x-(sh s.1).1)*(i*((sh s.2).1-(sh s.1).1)):=by
   have a1:(sh s.1).1=4194304*(s.1.1:Rat)+s.1.2:=by unfold sh;push_cast;rfl
   have a2:(sh s.2).1=4194304*(s.2.1:Rat)+s.2.2:=by unfold sh;push_cast;rfl
   rw[a1,a2]
   unfold lerp toQ
   dsimp only
   grind
  rw[e1];exact hx
 ·have:(x-(sh s.1).1)*(i*((sh s.2).1-(sh s.1).1))=0:=by
   have e:(x-(sh s.1).1)*(i*((sh s.2).1-(sh s.1).1))=((x-(sh s.1).1)*i)*((sh s.2).1-(sh s.1).1):=by grind
   rw[e,k];grind
  grind
 ·have:(x-(sh s.1).1)*(i*((sh s.2).1-(sh s.1).1))=(sh s.2).1-(sh s.1).1:=by
   have e:(x-(sh s.1).1)*(i*((sh s.2).1-(sh s.1).1))=((x-(sh s.1).1)*i)*((sh s.2).1-(sh s.1).1):=by grind
   rw[e,k];grind
  grind
def endsL(E:List Sg):List Pt2:=hullS (E.flatMap fun s=>[s.1,s.2])
theorem ends_mem{E:List Sg}{p:Pt2}:p∈endsL E↔∃ s∈E,s.1=p∨s.2=p:=by
 unfold endsL
 rw[hullS_mem,List.mem_flatMap]
 constructor
 ·rintro⟨s,hs,h⟩
  simp only[List.mem_cons,List.not_mem_nil,or_false] at h
  exact⟨s,hs,h.imp Eq.symm Eq.symm⟩
 ·rintro⟨s,hs,h⟩
  exact⟨s,hs,by simp only[List.mem_cons,List.not_mem_nil,or_false];exact h.imp Eq.symm Eq.symm⟩
theorem fix_drawn{cs:List (List Pt2)}(h:Inv cs)(hf:stepC cs=cs):Plane.Drawn ((endsL (edgL cs)).map sh) ((edgL cs).map shE):=by
 have way:∀ s∈edgL cs,(sh s.1).1<(sh s.2).1:=fun s hs=>sh_lt (h.eok s hs).1 (h.eok s hs).2.1 (edg_lx h hs)
 have okE:∀ p∈endsL (edgL cs),okP p.1 p.2=true:=fun p hp=>by
  obtain⟨s,hs,rfl | rfl⟩:=ends_mem.1 hp
  ·exact(h.eok s hs).1
  ·exact(h.eok s hs).2.1
 refine⟨fun e he=>?_,fun e he=>?_,fun e he=>?_,fun p hp q hq hpq=>?_,fun p hp=>?_,fun e he f hf' hne x x1 x2 x3 x4 x5=>?_⟩
 ·obtain⟨s,hs,rfl⟩:=List.mem_map.1 he
  exact way s hs
 ·obtain⟨s,hs,rfl⟩:=List.mem_map.1 he
  exact List.mem_map.2 ⟨s.1,ends_mem.2 ⟨s,hs,.inl rfl⟩,rfl⟩
 ·obtain⟨s,hs,rfl⟩:=List.mem_map.1 he
  exact List.mem_map.2 ⟨s.2,ends_mem.2 ⟨s,hs,.inr rfl⟩,rfl⟩
 ·obtain⟨p',hp',rfl⟩:=List.mem_map.1 hp
  obtain⟨q',hq',rfl⟩:=List.mem_map.1 hq
  rw[sh_inj (okE p' hp') (okE q' hq') hpq]
 ·obtain⟨p',hp',rfl⟩:=List.mem_map.1 hp
  obtain⟨s,hs,k⟩:=ends_mem.1 hp'
  exact⟨shE s,List.mem_map.2 ⟨s,hs,rfl⟩,k.imp (fun k=>by rw[← k];rfl) (fun k=>by rw[← k];rfl)⟩
 ·obtain⟨s,hs,rfl⟩:=List.mem_map.1 he
  obtain⟨t,ht,rfl⟩:=List.mem_map.1 hf'
  have hst:s≠t:=fun k=>hne (by rw[k])
  obtain⟨l,hl,a1,a2,a3,a4⟩:=sh_lerp (way s hs) x1 x2
  obtain⟨m,hm,b1,b2,b3,b4⟩:=sh_lerp (way t ht) x3 x4
  have c2:(lerp (toQ s.1) (toQ s.2) l).2=(lerp (toQ t.1) (toQ t.2) m).2:=by rw[← a1,← b1];exact x5
  have c1:(lerp (toQ s.1) (toQ s.2) l).1=(lerp (toQ t.1) (toQ t.2) m).1:=by grind
  have k:=fix_common h hf hs ht hst hl hm (Prod.ext c1 c2)
  exact⟨k.1.imp a3 a4,k.2.imp b3 b4⟩
theorem shE_inj{s t:Sg}(hs:SgOk s)(ht:SgOk t)(h:shE s=shE t):s=t:=by
 have h1:sh s.1=sh t.1:=congrArg Prod.fst h
 have h2:sh s.2=sh t.2:=congrArg Prod.snd h
 exact Prod.ext (sh_inj hs.1 ht.1 (by rw[h1])) (sh_inj hs.2.1 ht.2.1 (by rw[h2]))
theorem srtG_nodup{E:List Sg}(h:SrtG E):E.Nodup:=List.Pairwise.imp (fun {x y} (hxy:lxG x y=true) (e:x=y)=>by rw[e,lxG_irr] at hxy;cases hxy) h
theorem fix_len{cs:List (List Pt2)}(h:Inv cs)(hf:stepC cs=cs):(edgL cs).length≤3*(hotL (edgL cs)).length:=by
 have hn:((edgL cs).map shE).Nodup:=by
  rw[List.Nodup,List.pairwise_map]
  exact(srtG_nodup (edg_srt cs)).imp_of_mem fun {x y} hx hy hne e=>hne (shE_inj (h.eok x hx) (h.eok y hy) e)
 have:=Plane.bound (fix_drawn h hf) hn
 rw[List.length_map,List.length_map] at this
 have h2:(endsL (edgL cs)).length≤(hotL (edgL cs)).length:=by
  unfold endsL hotL
  refine hull_le_of_sub fun p hp=>hullS_mem.1 ?_
  obtain⟨s,hs,k⟩:=List.mem_flatMap.1 hp
  simp only[List.mem_cons,List.not_mem_nil,or_false] at k
  rcases k with rfl | rfl
  ·exact(hot_end hs).1
  ·exact(hot_end hs).2
 omega
theorem outS_tri(l:List Sg):∀ k,(outS l k).length*2≤k*(k+3)
 | 0=>by simp[outS]
 | k+1=>by
  have ih:=outS_tri l k
  have h2:=innS_len l (sgAt l k) k
  rw[outS_succ]
  simp only[List.length_append,List.length_cons,List.length_nil]
  have e:(k+1)*(k+1+3)=k*(k+3)+2*k+4:=by grind
  omega
theorem hot_90{m:List Sg}(h:m.length≤12):(hotL (edgL (cs0 m))).length≤90:=by
 have hE:(edgL (cs0 m)).length≤12:=by
  unfold edgL
  have h1:=cmpG_le (srtG (edgA (cs0 m) (cs0 m).length))
  have h2:(srtG (edgA (cs0 m) (cs0 m).length)).length=(edgA (cs0 m) (cs0 m).length).length:=by unfold srtG;simp
  have h3:=edgA_len (cs:=cs0 m) (M:=1) (fun i hi=>by rw[cs0_at (by simpa[cs0] using hi)];simp) (cs0 m).length (Nat.le_refl _)
  have h4:(cs0 m).length=m.length:=by simp[cs0]
  omega
 have h1:=outS_tri (edgL (cs0 m)) (edgL (cs0 m)).length
 have h2:(hotL (edgL (cs0 m))).length≤(outS (edgL (cs0 m)) (edgL (cs0 m)).length).length:=hull_len_le fun p hp=>hp
 have h3:=Nat.mul_le_mul hE (show(edgL (cs0 m)).length+3≤15 by omega)
 omega
theorem rnd_again{m E:List Sg}(hm:m.length≤12)(hok:∀ s∈m,SgOk s)(h:IsRnd m E)(hne:E≠[]) :
  E.length≤270∧RunC (cs0 E) 0∧StepOk (iterC (0+1) (cs0 E))∧edgL (iterC (0+1) (cs0 E))=E:=by
 rcases h with⟨-,rfl⟩ | ⟨hm0,N,hN,rfl⟩
 ·exact absurd rfl hne
 ·obtain⟨hI,hW⟩:=cs0_inv hok
  have hit:=iter_inv hI hW N
  have hi:=hit.1
  have hf:=fixed_of hi hN.last
  have e:iterC (N+1) (cs0 m)=iterC N (cs0 m):=hf
  rw[e] at hne ⊢
  obtain⟨cs,hcs⟩:∃ cs,cs=iterC N (cs0 m):=⟨_,rfl⟩
  have h90:=Nat.le_trans hit.2.2 (hot_90 hm)
  rw[← hcs] at hi hf h90 hne ⊢
  have hlen:=fix_len hi hf
  obtain⟨hI2,hW2⟩:=cs0_inv hi.eok
  have hE:edgL (cs0 (edgL cs))=edgL cs:=edg_ext fun s=>by
   constructor
   ·intro hs
    obtain⟨C,hC,p,q,k,rfl⟩:=edg_mem.1 hs
    obtain⟨t,ht,rfl⟩:=List.mem_map.1 hC
    rcases adj_cons k with⟨rfl,rfl⟩ | ⟨u,v,e⟩
    ·rcases ordE_cases t.1 t.2 with o | o
     ·rw[o];exact ht
     ·have:=ord_lx t.1 t.2 (hi.eok t ht).2.2
      rw[o] at this
      exact(lx_asy this (edg_lx hi ht)).elim
    ·have:=congrArg List.length e
     simp at this;omega
   ·intro hs
    refine edg_mem.2 ⟨[s.1,s.2],List.mem_map.2 ⟨s,hs,rfl⟩,s.1,s.2,⟨[],[],rfl⟩,?_⟩
    rcases ordE_cases s.1 s.2 with o | o
    ·rw[o]
    ·have:=ord_lx s.1 s.2 (hi.eok s hs).2.2
     rw[o] at this
     exact(lx_asy this (edg_lx hi hs)).elim
  have hH:=hot_ok hi.eok
  have hfix:stepC (cs0 (edgL cs))=cs0 (edgL cs):=by
   unfold stepC
   rw[hE]
   refine(List.map_congr_left (g:=id) fun C hC=>?_).trans (List.map_id _)
   obtain⟨s,hs,rfl⟩:=List.mem_map.1 hC
   obtain⟨p,q,hpq,hthr,-,op,oq,-⟩:=fix_org hi hf hs
   have ht:thrL s.1 s.2 (hotL (edgL cs))=[s.1,s.2]:=by
    rcases hpq with rfl | rfl
    ·exact hthr
    ·show thrL q p _=[q,p]
     rw[thr_rev hH op oq,hthr];rfl
   show nextC _ [s.1,s.2]=[s.1,s.2]
   simp[nextC,nextG,pAt,ht]
  have hst:StepOk (cs0 (edgL cs)):=by
   refine step_okE hI2 hW2 ?_ ?_ ?_ ?_
   ·intro k
    unfold cs0 at k
    exact hne (List.map_eq_nil_iff.1 k)
   ·unfold cs0;rw[List.length_map];omega
   ·rw[hE];omega
   ·rw[hE];omega
  have e1:iterC (0+1) (cs0 (edgL cs))=cs0 (edgL cs):=hfix
  refine⟨by omega,⟨fun k hk=>?_,fun k hk=>absurd hk (Nat.not_lt_zero _),?_⟩,?_,?_⟩
  ·rw[Nat.le_zero.1 hk];exact hst
  ·rw[e1];rfl
  ·rw[e1];exact hst
  ·rw[e1];exact hE
end
section
open Go.RowKit Go.BigFrame
attribute [local go_sem ↓] eqPt neqPt
section
variable [Tgt]
theorem three_T{w w' : World}{g:Nat}{t:TypeId}{a b c u v x:Value}(h:SinceT w w')(k:Blk w g t #[a,b,c])(hT:Tgt.T g=some (.cells #[u,v,x] t (0,0))):∃ p q r,Blk w' g t #[p,q,r]:=by
 rcases h.2.2.2.2 g k.lt with e | ⟨o,e,e2⟩
 ·exact⟨a,b,c,e.trans k⟩
 ·rw[hT] at e;injection e with e;subst e;exact⟨u,v,x,e2⟩
theorem store3_T{w:World}{g:Nat}{t:TypeId}{a b c u v x:Value}(k:Blk w g t #[a,b,c])(hT:Tgt.T g=some (.cells #[u,v,x] t (0,0))) :
  Blk (((w.setCell ⟨g,0,none⟩ u).setCell ⟨g,1,none⟩ v).setCell ⟨g,2,none⟩ x) g t #[u,v,x]∧SinceT w (((w.setCell ⟨g,0,none⟩ u).setCell ⟨g,1,none⟩ v).setCell ⟨g,2,none⟩ x):=by
 have h1:Blk (((w.setCell ⟨g,0,none⟩ u).setCell ⟨g,1,none⟩ v).setCell ⟨g,2,none⟩ x) g t #[u,v,x]:=((k.set_ 0 u).set_ 1 v).set_ 2 x
 have hO:Only g w (((w.setCell ⟨g,0,none⟩ u).setCell ⟨g,1,none⟩ v).setCell ⟨g,2,none⟩ x):=((((Since.rfl_ w).only g).setCell (.inl rfl) u).setCell (.inl rfl) v).setCell (.inl rfl) x
 refine⟨h1,hO.os,hO.tape,hO.output,hO.size,fun i hi=>?_⟩
 by_cases e:i=g
 ·subst e;exact .inr ⟨_,hT,h1⟩
 ·exact .inl (hO.block i hi (fun k=>e (by injection k)))
end
theorem own_kept{w w' : World}{b B k n:Nat}{t:TypeId}{v:Value}{xs:List Value}(h:w.ownsRow b t k v n xs)(hg:w.grownBy w' (some B))(hB:B<b):w'.ownsRow b t k v n xs:=by
 obtain⟨h1,h2 | ⟨g,cap,cur,hv,hb,hh,hr⟩⟩:=h
 ·exact⟨h1,.inl h2⟩
 ·exact⟨h1,.inr ⟨g,cap,cur,hv,hb,(hg.block g (Blk.lt hh) (fun e=>by injection e;omega)).trans hh,hr⟩⟩
theorem IntsB.mono{w:World}{v:Value}{l:List Int}{B B' : Nat}(h:IntsB w v l B)(k:B≤B'):IntsB w v l B' := by
 obtain⟨a,c,hv,hc,hm,h⟩:=h
 refine⟨a,c,hv,hc,hm,fun i hi=>?_⟩
 obtain⟨g,o,ha,hg,h1⟩:=h i hi
 exact⟨g,o,ha,Nat.lt_of_lt_of_le hg k,h1⟩
theorem BldR.lenH{E:List Sg}{P:List Pt2}{H:List Hf}{F:List Int}(h:BldR E P H F):H.length=2*E.length:=by
 obtain⟨O,C,I,T,-,-,-,-,hH,-⟩:=h
 rw[hH,mkH_len]
theorem fac1_pos(I T:List Int):∀ m,0<(fac1 I T m).2.length
 | 0=>by simp[fac1]
 | m+1=>by
  rw[fac1_succ]
  split
  ·simp
  ·exact fac1_pos I T m
theorem BldR.lenF{E:List Sg}{P:List Pt2}{H:List Hf}{F:List Int}(h:BldR E P H F):0<F.length:=by
 obtain⟨O,C,I,T,-,-,-,-,-,hF⟩:=h
 rw[hF,fac3_len]
 exact fac1_pos I T _
def BltR(w:World)(b:Nat)(E:List Sg)(x vP vH vF:Value)(P:List Pt2)(H:List Hf)(F:List Int):Prop :=
 SegsN w x E∧RndOk E∧E.length≤270∧MapS w b vP vH vF P H F∧BldR E P H F
theorem BltR.since{w w' : World}{b:Nat}{E:List Sg}{x vP vH vF:Value}{P:List Pt2}{H:List Hf}{F:List Int}(h:BltR w b E x vP vH vF P H F)(k:Since w w'):BltR w' b E x vP vH vF P H F :=
 ⟨h.1.since k,h.2.1,h.2.2.1,h.2.2.2.1.since k,h.2.2.2.2⟩
set_option maxRecDepth 100000 in
set_option maxHeartbeats 4000000 in
theorem Built_any(v:Value)(l:List Int)(w:World)(hi:IntsB w v l w.heap.size)(hlen:l.length≤9223372036854775807) :
  Calls Tryz.prog 11 #[v] w fun e w' => ∃ (x vP vH vF:Value) (E:List Sg) (P:List Pt2) (H:List Hf) (F:List Int),e=.returned (.tuple #[.agg #[vP,vH,vF],x,.bool true])∧Since w w' ∧ BltR w' w.heap.size E x vP vH vF P H F:=by
 have HSEG:Hid (∀ w',Since w w' → Calls Tryz.prog 38 #[v] w' fun e w2=>∃ x,e=.returned x∧SegsN w2 x (msegs l)∧Since w' w2):=fun w' k =>
  (Segs_any v l w' ((hi.since k).mono k.size) hlen).mono fun e w2 ⟨x,h1,h2,h3,h4⟩=>⟨x,h1,own_segsN h2 h4,h3⟩
 clear hi
 obtain⟨B,HB⟩:∃ B,Hid (B=w.heap.size):=⟨_,rfl⟩
 rw[← HB.out]
 go_enter Tryz.func11,Tryz.ntmps11
 go_upto_region 1 with fail
 rw[← HB.out]
 refine atW (fun w' => Hid (Since w w')∧Hid (Blk w' B 26 #[.slice none 0 0,.slice none 0 0,.slice none 0 0])) ⟨(Since.rfl_ w).alloc _,Blk.new' HB.out⟩ ?_
 rintro w1 ⟨HS1,HB1⟩
 go_wp2_with fail
 refine(HSEG.out _ HS1.out).mono ?_
 rintro e w2 ⟨x0,rfl,hx,hs⟩
 have HRM:=Lib.hid (Round_m x0 (msegs l) w2 hx (msegs_len l) (msegs_ok l))
 have HS2:Hid (Since w w2):=HS1.out.trans hs
 have HB2:=Lib.hid (hs.blk HB1.out)
 clear hx hs HS1 HB1 HSEG
 go_wp2_with fail
 refine(HRM.out).mono ?_
 rintro e w3 ⟨x,E,rfl,hE,ho,hn,hs⟩
 have HS3:Hid (Since w w3):=HS2.out.trans hs
 have HB3:=Lib.hid (hs.blk HB2.out)
 have HX3:=Lib.hid (own_segsN ho hn)
 have HO3:=Lib.hid ho
 have HNX:=Lib.hid hn
 obtain⟨B2,HBB⟩:∃ b,Hid (b=w2.heap.size):=⟨_,rfl⟩
 have hB2:B<B2:=by rw[HBB.out];exact HB2.out.lt
 rw[← HBB.out] at HO3
 have HOK:Hid (RndOk E):=hE.good (msegs_ok l)
 have HL:Hid (E.length≤270):=by
  by_cases hne:E=[]
  ·subst hne;exact Nat.zero_le _
  ·exact(rnd_again (msegs_len l) (msegs_ok l) hE hne).1
 clear hE ho hn hs HRM HS2 HB2
 go_wp2_with fail
 refine(rounds_any _).mono ?_
 rintro e w4 ⟨rfl,hs⟩
 have HS4:Hid (Since w w4):=HS3.out.trans hs
 have HB4:=Lib.hid (hs.blk HB3.out)
 have HX4:=Lib.hid (HX3.out.since hs)
 have HO4:=Lib.hid (own_since hs HO3.out)
 obtain⟨B4,HBC⟩:∃ b,Hid (b=w4.heap.size):=⟨_,rfl⟩
 have hB4:B<B4:=by rw[HBC.out];exact HB4.out.lt
 clear hs HS3 HB3 HX3 HO3
 have HBD:=Lib.hid (Build_any x E w4 HX4.out HOK.out (Nat.le_trans HL.out (by decide)))
 obtain⟨aX,cX,hvX⟩:=HX4.out.slice
 subst hvX
 obtain⟨n,HN⟩:∃ n,Hid (n=E.length):=⟨_,rfl⟩
 rw[← HN.out] at HX4 HBD ⊢
 go_wp2_with fail
 refine(HBD.out).mono ?_
 rintro e w5 ⟨vP,vH,vF,P,H,F,rfl,hs,hm,hb⟩
 have HS5:Hid (Since w w5):=HS4.out.trans hs
 have HB5:=Lib.hid (hs.blk HB4.out)
 have HX5:=Lib.hid (HX4.out.since hs)
 have HM5:Hid (MapS w5 B4 vP vH vF P H F):=by rw[HBC.out];exact hm
 have HO5:=Lib.hid (own_since hs HO4.out)
 have HBR:=Lib.hid hb
 obtain⟨⟨aP,cP,rfl,-⟩,⟨aH,cH,rfl,-⟩,⟨aF,cF,rfl,-⟩⟩:=hm.read
 clear hs hm hb HS4 HB4 HX4 HBD HO4
 go_upto_region 5 with fail
 obtain⟨GM,HGM⟩:∃ G,Hid (G=w5.heap.size):=⟨_,rfl⟩
 obtain⟨nP,HNP⟩:∃ n,Hid (n=P.length):=⟨_,rfl⟩
 obtain⟨nH,HNH⟩:∃ n,Hid (n=H.length):=⟨_,rfl⟩
 obtain⟨nF,HNF⟩:∃ n,Hid (n=F.length):=⟨_,rfl⟩
 have hn2:n≤270:=by rw[HN.out];exact HL.out
 have HH2:Hid (nH=2*n):=by show _=_;rw[HNH.out,HN.out];exact HBR.out.lenH
 have hF0:decide ((0:Int)<(nF:Int))=true:=by rw[decide_eq_true_eq,HNF.out];have:=HBR.out.lenF;omega
 have hnF:0<nF:=by rw[HNF.out];exact HBR.out.lenF
 have hF1:decide (0<nF)=true:=decide_eq_true hnF
 have hEq:((nH:Int) == 2*(n:Int))=true:=by rw[beq_iff_eq];have:=HH2.out;omega
 have hwm:wrap64 (2*(n:Int))=(nH:Int):=(wrap_id (x:=2*(n:Int)) (by omega)).trans (by have:=HH2.out;omega)
 rw[← HNP.out,← HNH.out,← HNF.out,← HGM.out]
 have HW6:Hid (Since w5 (w5.alloc (.cells #[.slice aP nP cP,.slice aH nH cH,.slice aF nF cF] 26))∧Blk (w5.alloc (.cells #[.slice aP nP cP,.slice aH nH cH,.slice aF nF cF] 26)) B 26 #[.slice none 0 0,.slice none 0 0,.slice none 0 0]∧Blk (w5.alloc (.cells #[.slice aP nP cP,.slice aH nH cH,.slice aF nF cF] 26)) GM 26 #[.slice aP nP cP,.slice aH nH cH,.slice aF nF cF]) :=
  ⟨(Since.rfl_ w5).alloc _,HB5.out.alloc _,Blk.new' HGM.out⟩
 have hgB:w.heap.size≤B:=by rw[HB.out];exact Nat.le_refl _
 refine atW (fun w' => Hid (Since w5 w' ∧ Blk w' B 26 #[.slice none 0 0,.slice none 0 0,.slice none 0 0]∧Blk w' GM 26 #[.slice aP nP cP,.slice aH nH cH,.slice aF nF cF])) HW6 ?_
 clear HW6
 rintro w6 HW6
 letI TT:Tgt:=⟨fun g=>if g=B then some (.cells #[.slice aP nP cP,.slice aH nH cH,.slice aF nF cF] 26) else none⟩
 have KT:∀ g,g≠B→Tgt.T g=none:=fun g h1=>by
  show(if _ then _ else _)=_
  rw[if_neg h1]
 have K3:Tgt.T B=some (.cells #[.slice aP nP cP,.slice aH nH cH,.slice aF nF cF] 26 (0,0)):=if_pos rfl
 have hGB:GM≠B:=fun e=>by have:=HB5.out.lt;rw[← e,HGM.out] at this;omega
 have KF:=Lib.hid (fun w' (k:SinceT w6 w')=>(show w'.cell? ⟨GM,0,none⟩=some (.slice aP nP cP)∧w'.cell? ⟨GM,1,none⟩=some (.slice aH nH cH)∧w'.cell? ⟨GM,2,none⟩=some (.slice aF nF cF) from
  ⟨(k.blk (KT _ hGB) HW6.out.2.2).cell 0,(k.blk (KT _ hGB) HW6.out.2.2).cell 1,(k.blk (KT _ hGB) HW6.out.2.2).cell 2⟩))
 have hl6:B<w6.heap.size:=HW6.out.2.1.lt
 apply region_factsT 22 (fun w' => SinceT w6 w')
 case hm=>kernel_rfl
 case hB=>kernel_rfl
 case hS=>exact(SinceT.rfl_ w6).drew
 case hmono=>exact(fun _ _ h k=>h.trans k)
 case hTb=>exact(fun g hg=>KT g (by omega))
 case h =>
 simp only[List.take_succ_cons,List.take_zero,List.drop_succ_cons,List.drop_zero]
 iterate 19 (apply wpO_detT;(case hw=>rfl);(case h=>intro hFm wx hS_ hF_ K hK;go_big_quiet_op;first | exact hK _ rfl | (apply Exists.intro;refine⟨fun _=>?_,?_⟩;(focus (first | (intro hC;have hC:=KF.out _ hC.out.1;(try simp only[hC,Result.andThen]);first | exact⟨True.intro,rfl⟩ | exact⟨rfl,rfl⟩ | rfl)));exact hK _ rfl));(case' k=>simp only[Act.put,List.setIfInBounds_toArray,List.set_cons_succ,List.set_cons_zero,List.cons_append,List.nil_append]))
 apply wpO_anyT (R:=(fun _ w' => Blk w' B 26 #[.slice aP nP cP,.slice aH nH cH,.slice aF nF cF]))
 case hR=>exact(fun _ _ _ h k=>k.blkT K3 h)
 case hw=>rfl
 case h =>
  intro wx hS_ hF_
  unfold runVT
  (obtain⟨x1,x2,x3,hb⟩:=three_T hS_ HW6.out.2.1 K3;have c0:=hb.cell 0;have c1:=hb.cell 1;have c2:=hb.cell 2;have f0:=hb.frozen 0;have f1:=hb.frozen 1;have f2:=hb.frozen 2;simp only[List.getElem?_toArray,List.getElem?_cons_zero,List.getElem?_cons_succ] at c0 c1 c2;have hr:=Lib.hid (store3_T hb K3);simp[go_sem,c0,c1,c2,f0,f1,f2,cSetS,cSetO];exact hr.out)
 case k =>
 intro v3
 simp only[Act.put,List.setIfInBounds_toArray,List.set_cons_succ,List.set_cons_zero,List.cons_append,List.nil_append]
 iterate 2 (apply wpO_detT;(case hw=>rfl);(case h=>intro hFm wx hS_ hF_ K hK;go_big_quiet_op;first | exact hK _ rfl | (apply Exists.intro;refine⟨fun _=>?_,?_⟩;(focus (first | (intro hC;have hC:=hC.out;(try simp only[hC,Result.andThen]);first | exact⟨True.intro,rfl⟩ | exact⟨rfl,rfl⟩ | rfl)));exact hK _ rfl));(case' k=>simp only[Act.put,List.setIfInBounds_toArray,List.set_cons_succ,List.set_cons_zero,List.cons_append,List.nil_append]))
 refine wpO_nilT ?_
 intro w7 hS hF hB
 (try simp[allF] at hF)
 (try simp[List.pairwise_cons] at hB)
 have hg:=hS.grown KT
 have HS7:Hid (Since w w7):=hS.since (HS5.out.trans HW6.out.1) (fun g hg=>KT g (by omega))
 have HM7:Hid (MapS w7 B (.slice aP nP cP) (.slice aH nH cH) (.slice aF nF cF) P H F):=by
  rw[HNP.out,HNH.out,HNF.out]
  exact Rws.mono (Rws.kept (HM5.out.since HW6.out.1) hg (fun i r hi=>.inr fun e=>own_ne ((HM5.out.since HW6.out.1).ok i r hi) hB4 e.symm)) (Nat.le_of_lt hB4)
 have HX7:Hid (SegsN w7 (.slice aX n cX) E):=by
  rw[HN.out]
  exact own_segsN (own_kept (own_since HW6.out.1 HO5.out) hg hB2) HNX.out
 have HB7:=Lib.hid hF
 clear hS hB hF hg K3 KT KF HW6 HM5 HO5 HX5 HB5
 have c0:w7.cell? ⟨B,0,none⟩=some (.slice aP nP cP):=HB7.out.cell 0
 have c1:w7.cell? ⟨B,1,none⟩=some (.slice aH nH cH):=HB7.out.cell 1
 have c2:w7.cell? ⟨B,2,none⟩=some (.slice aF nF cF):=HB7.out.cell 2
 go_wp2_with fail
 refine bodyPost_ret (v:=.tuple #[.agg #[.slice aP nP cP,.slice aH nH cH,.slice aF nF cF],.slice aX n cX,.bool true]) (by simp[results,Tryz.results11,go_sem,cSetS,cSetO,cellDrew,c0,c1,c2]) rfl ⟨_,_,_,_,E,P,H,F,rfl,HS7.out,HX7.out,HOK.out,HL.out,HM7.out,HBR.out⟩
end
section
open Go.RowKit Go.BigFrame
attribute [local go_sem ↓] eqPt neqPt
set_option maxRecDepth 100000 in
set_option maxHeartbeats 4000000 in
theorem TMove0_any(vP vH vF:Value)(E:List Sg)(H:List Hf)(F:List Int)(p:Pt2)(w:World)(hm:MapR w vP vH vF [] H F)(hE:RndOk E)(hl:E.length≤3000)(hb:BldR E [] H F) :
  Calls Tryz.prog 22 #[.agg #[vP,vH,vF],.int .i64 0,.agg #[.int .i64 p.1,.int .i64 p.2]] w fun e w' => e=.returned (.tuple #[.agg #[nilV,nilV,nilV],.int .i64 4])∧Since w w' := by
 have HLN:=Lib.hid (fun w' (k:Since w w')=>TLines_any vP vH vF E [] H F w' (hm.since k) hE hl hb)
 obtain⟨⟨aP,cP,hvP⟩,⟨aH,cH,hvH⟩,⟨aF,cF,hvF⟩⟩:=hm.vals
 subst hvP hvH hvF
 clear hm hb hE
 obtain⟨nH,HNH⟩:∃ n,Hid (n=H.length):=⟨_,rfl⟩
 obtain⟨nF,HNF⟩:∃ n,Hid (n=F.length):=⟨_,rfl⟩
 obtain⟨n,HN⟩:∃ n,Hid (n=E.length):=⟨_,rfl⟩
 simp only[List.length_nil] at HLN ⊢
 rw[← HNH.out,← HNF.out] at HLN ⊢
 rw[← HN.out] at HLN
 obtain⟨B,HB⟩:∃ B,Hid (B=w.heap.size):=⟨_,rfl⟩
 go_enter Tryz.func22,Tryz.ntmps22
 go_upto_region 1 with fail
 rw[← HB.out]
 refine atW (fun w' => Hid (MvW w w' B #[.slice aP 0 cP,.slice aH nH cH,.slice aF nF cF] p)) ⟨((Since.rfl_ w).alloc _).alloc _ |>.alloc _,((Blk.new' HB.out).alloc _).alloc _,(Blk.new' (by simp[HB.out])).alloc _,Blk.new' (by simp[HB.out])⟩ ?_
 rintro w1 HW1
 have m0:w1.cell? ⟨B,0,none⟩=some (.slice aP 0 cP):=HW1.out.2.1.cell 0
 have m1:w1.cell? ⟨B,1,none⟩=some (.slice aH nH cH):=HW1.out.2.1.cell 1
 have m2:w1.cell? ⟨B,2,none⟩=some (.slice aF nF cF):=HW1.out.2.1.cell 2
 go_wp2_with fail
 clear m0 m1 m2
 refine(HLN.out _ HW1.out.1).mono ?_
 rintro e w2 ⟨x,rfl,ho,hs⟩
 obtain⟨ax,cx,hx⟩:=own_slice ho
 subst hx
 have HW2:=Lib.hid (HW1.out.since hs)
 have hwB:w.heap.size≤B:=by rw[HB.out];exact Nat.le_refl _
 clear hs ho HW1 HLN
 have m0:w2.cell? ⟨B,0,none⟩=some (.slice aP 0 cP):=HW2.out.2.1.cell 0
 go_upto_region 5 with fail
 have HBB:=Lib.hid HW2.out.2.2.2
 have b0:=HBB.out.cell 0
 have b1:=HBB.out.cell 1
 have b2:=HBB.out.cell 2
 have d0:=HBB.out.frozen 0
 have d1:=HBB.out.frozen 1
 have d2:=HBB.out.frozen 2
 simp only[List.getElem?_toArray,List.getElem?_cons_zero,List.getElem?_cons_succ] at b0 b1 b2
 have hBw:w.heap.size≤B+1+1:=by omega
 have HSF:=Lib.hid (((HW2.out.1.setCell (p:=⟨B+1+1,0,none⟩) hBw nilV).setCell (p:=⟨B+1+1,1,none⟩) hBw nilV).setCell (p:=⟨B+1+1,2,none⟩) hBw nilV)
 clear HW2 HBB m0
 unfold nilV at b0 b1 b2 HSF
 go_wp2_with fail
 refine bodyPost_ret (v:=.tuple #[.agg #[.slice none 0 0,.slice none 0 0,.slice none 0 0],.int .i64 4]) (by simp[results,Tryz.results22,go_sem,cSetS,cSetO,cellDrew,b0,b1,b2,d0,d1,d2]) rfl ⟨rfl,HSF.out⟩
theorem MapR.ik{w w' : World}{vP vH vF:Value}{P:List Pt2}{H:List Hf}{F:List Int}(h:MapR w vP vH vF P H F)(k:∀ p kd x,w.cell? p=some (.int kd x)→w'.cell? p=some (.int kd x)):MapR w' vP vH vF P H F:=by
 obtain⟨⟨a,c,e,h1⟩,⟨a2,c2,e2,h2⟩,⟨a3,c3,e3,h3⟩⟩:=h
 refine⟨⟨a,c,e,fun i hi=>?_⟩,⟨a2,c2,e2,fun i hi=>?_⟩,⟨a3,c3,e3,fun i hi=>?_⟩⟩
 ·obtain⟨g,o,x,y,z⟩:=h1 i hi;exact⟨g,o,x,k _ _ _ y,k _ _ _ z⟩
 ·obtain⟨g,o,x,y1,y2,y3,y4⟩:=h2 i hi;exact⟨g,o,x,k _ _ _ y1,k _ _ _ y2,k _ _ _ y3,k _ _ _ y4⟩
 ·obtain⟨g,o,x,y⟩:=h3 i hi;exact⟨g,o,x,k _ _ _ y⟩
theorem nil_ik{w:World}{g:Nat}(hb:Blk w g 26 #[nilV,nilV,nilV])(x y z:Value):∀ p kd u,w.cell? p=some (.int kd u)→(((w.setCell ⟨g,0,none⟩ x).setCell ⟨g,1,none⟩ y).setCell ⟨g,2,none⟩ z).cell? p=some (.int kd u):=fun p kd u h=>by
 have ne:∀ j:Nat,j<3→(⟨g,j,none⟩:Addr)≠p:=fun j hj e=>by
  rw[← e,hb.cell j] at h
  rcases (show j=0∨j=1∨j=2 by omega) with rfl | rfl | rfl <;> (unfold nilV at h;simp at h)
 rw[cSetO (ne 2 (by decide)),cSetO (ne 1 (by decide)),cSetO (ne 0 (by decide))]
 exact h
set_option maxRecDepth 100000 in
set_option maxHeartbeats 4000000 in
theorem TMoved_walk(v vk:Value)(l k:List Int)(y:Int)(w:World)(hi:IntsB w v l w.heap.size)(hk:IntsB w vk k w.heap.size)(hlen:l.length≤9223372036854775807) :
  Calls Tryz.prog 7 #[v,vk,.int .i64 y] w fun e w' => e=.returned (.bool true)∧Since w w' := by
 have HBL:=Lib.hid (Built_any v l w hi hlen)
 have HPK:=Lib.hid (fun w' (s:Since w w')=>Point_any vk k w' ((hk.since s).mono s.size))
 clear hi
 obtain⟨ak,ck,hvk,-⟩:=hk
 subst hvk
 go_enter Tryz.func7,Tryz.ntmps7
 go_wp2_with fail
 refine(HBL.out).mono ?_
 rintro e w1 ⟨x,vP,vH,vF,E,P,H,F,rfl,hs,hx,hE,hl,hm,hb⟩
 have HMR:=Lib.hid hm.read
 obtain⟨⟨aP,cP,rfl,hPc⟩,⟨aH,cH,rfl,-⟩,⟨aF,cF,rfl,-⟩⟩:=hm.read
 have HPC:=Lib.hid hPc
 obtain⟨aX,cX,hvX⟩:=hx.slice
 subst hvX
 have HS1:=Lib.hid hs
 have HE:=Lib.hid hE
 have HBD:=Lib.hid hb
 have HBB:=Lib.hid (hb.bds hE (Nat.le_trans hl (by decide)))
 clear hs hx hm hb hE HBL hPc
 obtain⟨n,HN⟩:∃ n,Hid (n=E.length):=⟨_,rfl⟩
 obtain⟨nP,HNP⟩:∃ n,Hid (n=P.length):=⟨_,rfl⟩
 obtain⟨nH,HNH⟩:∃ n,Hid (n=H.length):=⟨_,rfl⟩
 obtain⟨nF,HNF⟩:∃ n,Hid (n=F.length):=⟨_,rfl⟩
 obtain⟨nk,HNK⟩:∃ n,Hid (n=k.length):=⟨_,rfl⟩
 rw[← HNP.out,← HNH.out,← HNF.out] at HMR
 rw[← HNP.out,← HNH.out,← HNF.out,← HN.out,← HNK.out]
 rw[← HNK.out] at HPK
 obtain⟨B,HB⟩:∃ B,Hid (B=w1.heap.size):=⟨_,rfl⟩
 obtain⟨p,hp⟩:∃ p:Pt2,Hid (p=(ptOf k).1):=⟨_,rfl⟩
 rw[← hp.out] at HPK
 have hpo:okP p.1 p.2=true:=by rw[okP_iff,hp.out];have:=ptOf_bd k;omega
 have HPO:=Lib.hid hpo
 clear hpo
 go_upto_region 2 with fail
 rw[← HB.out]
 refine atW (fun w' => Hid (Since w1 w' ∧ Blk w' B 26 #[.slice aP nP cP,.slice aH nH cH,.slice aF nF cF])) ⟨(Since.rfl_ w1).alloc _,Blk.new' HB.out⟩ ?_
 rintro w2 HW2
 go_wp2_with fail
 refine(HPK.out _ (HS1.out.trans HW2.out.1)).mono ?_
 rintro e w3 ⟨rfl,hs⟩
 have HW3:Hid (Since w1 w3∧Blk w3 B 26 #[.slice aP nP cP,.slice aH nH cH,.slice aF nF cF]):=⟨HW2.out.1.trans hs,hs.blk HW2.out.2⟩
 clear hs HW2 HPK
 go_upto_region 5 with fail
 obtain⟨g8,Hg8⟩:∃ g,Hid (g=w3.heap.size):=⟨_,rfl⟩
 rw[← Hg8.out]
 refine atW (fun w' => Hid (Since w1 w' ∧ Blk w' B 26 #[.slice aP nP cP,.slice aH nH cH,.slice aF nF cF]∧Blk w' g8 36 #[.int .i64 p.1,.int .i64 p.2])) ⟨HW3.out.1.alloc _,HW3.out.2.alloc _,Blk.new' Hg8.out⟩ ?_
 clear HW3
 rintro w4 HW4
 have m0:w4.cell? ⟨B,0,none⟩=some (.slice aP nP cP):=HW4.out.2.1.cell 0
 rcases Nat.eq_zero_or_pos nP with h0 | hpos
 ·subst h0
  have hP:P=[]:=List.eq_nil_of_length_eq_zero HNP.out.symm
  subst hP
  have HM0:=Lib.hid (TMove0_any (.slice aP 0 cP) (.slice aH nH cH) (.slice aF nF cF) E H F p w4 (HMR.out.since HW4.out.1) HE.out (Nat.le_trans hl (by decide)) HBD.out)
  have m1:w4.cell? ⟨B,1,none⟩=some (.slice aH nH cH):=HW4.out.2.1.cell 1
  have m2:w4.cell? ⟨B,2,none⟩=some (.slice aF nF cF):=HW4.out.2.1.cell 2
  have p0:w4.cell? ⟨g8,0,none⟩=some (.int .i64 p.1):=HW4.out.2.2.cell 0
  have p1:w4.cell? ⟨g8,1,none⟩=some (.int .i64 p.2):=HW4.out.2.2.cell 1
  go_wp2_with fail
  refine(HM0.out).mono ?_
  rintro e w5 ⟨rfl,hs⟩
  have HSF:=Lib.hid (HS1.out.trans (HW4.out.1.trans hs))
  clear hs m0 m1 m2 p0 p1 HW4 HM0
  unfold nilV
  go_wp2_with fail
  go_ret
  exact⟨rfl,HSF.out.alloc _⟩
 ·have hz:((nP:Int) == 0)=false:=by rw[beq_eq_false_iff_ne];omega
  obtain⟨i,hi⟩:∃ i:Nat,Hid (y % (nP:Int)=(i:Int)):=⟨(y % (nP:Int)).toNat,by show _=_;have:=Int.emod_nonneg y (show(nP:Int)≠0 by omega);omega⟩
  have hiP:i<nP:=by have:=hi.out;have:=Int.emod_lt_of_pos y (show(0:Int)<(nP:Int) by omega);omega
  have hnP:nP≤1000000000000000:=by rw[HNP.out];exact HBB.out.1
  have HBW:Hid (Calls Tryz.prog 18 #[.int .i64 y,.int .i64 nP] w4 fun e w2=>e=.returned (.int .i64 (i:Nat))∧w4=w2):=by
   show Calls _ _ _ _ _
   rw[← hi.out];exact Below_any y nP w4 (by omega) (by omega)
  go_wp2_with fail
  refine(HBW.out).mono ?_
  rintro e w5 ⟨rfl,hw5⟩
  subst hw5
  obtain⟨a,ha⟩:∃ a,Hid (a=pAt P i):=⟨_,rfl⟩
  obtain⟨gP,oP,haP,a0,a1⟩:=HPC.out i (by rw[← HNP.out];exact hiP)
  subst haP
  rw[← ha.out] at a0 a1
  have a0:=keepC HW4.out.1 _ _ a0
  have a1:=keepC HW4.out.1 _ _ a1
  have k1:(0:Int)≤(i:Int):=by omega
  have k2:(i:Int)<(nP:Int):=by omega
  have HMV:=Lib.hid (fun w' (s:Since w1 w')=>TMove_any (.slice (some ⟨gP,oP,none⟩) nP cP) (.slice aH nH cH) (.slice aF nF cF) E P H F i p a w' (HMR.out.since s) HE.out (Nat.le_trans hl (by decide)) HBD.out (by rw[← HNP.out];exact hiP) ha.out.symm HPO.out)
  clear hz HBW
  go_upto_region 10 with fail
  obtain⟨g9,Hg9⟩:∃ g,Hid (g=w4.heap.size):=⟨_,rfl⟩
  rw[← Hg9.out]
  refine atW (fun w' => Hid (Since w1 w' ∧ Blk w' B 26 #[.slice (some ⟨gP,oP,none⟩) nP cP,.slice aH nH cH,.slice aF nF cF]∧Blk w' g8 36 #[.int .i64 p.1,.int .i64 p.2]∧Blk w' g9 36 #[.int .i64 a.1,.int .i64 a.2])) ⟨HW4.out.1.alloc _,HW4.out.2.1.alloc _,HW4.out.2.2.alloc _,Blk.new' Hg9.out⟩ ?_
  clear HW4 m0 a0 a1 k1 k2
  rintro w5 HW5
  have m0:w5.cell? ⟨B,0,none⟩=some (.slice (some ⟨gP,oP,none⟩) nP cP):=HW5.out.2.1.cell 0
  have m1:w5.cell? ⟨B,1,none⟩=some (.slice aH nH cH):=HW5.out.2.1.cell 1
  have m2:w5.cell? ⟨B,2,none⟩=some (.slice aF nF cF):=HW5.out.2.1.cell 2
  have p0:w5.cell? ⟨g8,0,none⟩=some (.int .i64 p.1):=HW5.out.2.2.1.cell 0
  have p1:w5.cell? ⟨g8,1,none⟩=some (.int .i64 p.2):=HW5.out.2.2.1.cell 1
  go_wp2_with fail
  refine(HMV.out _ HW5.out.1).mono ?_
  rintro e w6 ⟨hr,hs⟩
  have HW6:Hid (Since w1 w6∧Blk w6 B 26 #[.slice (some ⟨gP,oP,none⟩) nP cP,.slice aH nH cH,.slice aF nF cF]∧Blk w6 g8 36 #[.int .i64 p.1,.int .i64 p.2]∧Blk w6 g9 36 #[.int .i64 a.1,.int .i64 a.2]):=⟨HW5.out.1.trans hs,hs.blk HW5.out.2.1,hs.blk HW5.out.2.2.1,hs.blk HW5.out.2.2.2⟩
  clear m0 m1 m2 p0 p1 hs HW5 HMV
  rcases hr with⟨hc,rfl⟩ | ⟨hcn,⟨hr,vP',vH',vF',P',H',F',rfl,hm,hbl⟩ | ⟨-,rfl⟩⟩
  ·have he:(p.1 == a.1 && p.2 == a.2)=false:=by rw[eqB_dec,decide_eq_false_iff_not];exact hc.1
   have HCO:Hid (∀ w',Since w1 w' → Calls Tryz.prog 23 #[.slice (some ⟨gP,oP,none⟩) nP cP,.agg #[.int .i64 p.1,.int .i64 p.2]] w' fun e w2=>e=.returned (.bool true)∧Since w' w2):=fun w' s=>by
    have:=ContainsP_any (x:=p) ((HMR.out.since s).p) HBB.out.1
    rwa[decide_eq_true hc.2] at this
   clear hc
   unfold nilV
   go_upto_region 11 with fail
   refine atW (fun w' => Hid (Since w1 w' ∧ Blk w' B 26 #[.slice (some ⟨gP,oP,none⟩) nP cP,.slice aH nH cH,.slice aF nF cF]∧Blk w' g8 36 #[.int .i64 p.1,.int .i64 p.2]∧Blk w' g9 36 #[.int .i64 a.1,.int .i64 a.2])) ⟨HW6.out.1.alloc _,HW6.out.2.1.alloc _,HW6.out.2.2.1.alloc _,HW6.out.2.2.2.alloc _⟩ ?_
   clear HW6
   rintro w7 HW7
   have m0:w7.cell? ⟨B,0,none⟩=some (.slice (some ⟨gP,oP,none⟩) nP cP):=HW7.out.2.1.cell 0
   have p0:w7.cell? ⟨g8,0,none⟩=some (.int .i64 p.1):=HW7.out.2.2.1.cell 0
   have p1:w7.cell? ⟨g8,1,none⟩=some (.int .i64 p.2):=HW7.out.2.2.1.cell 1
   have q0:w7.cell? ⟨g9,0,none⟩=some (.int .i64 a.1):=HW7.out.2.2.2.cell 0
   have q1:w7.cell? ⟨g9,1,none⟩=some (.int .i64 a.2):=HW7.out.2.2.2.cell 1
   have HSF:Hid (Since w w7):=HS1.out.trans HW7.out.1
   go_wp2_with fail
   refine(HCO.out _ HW7.out.1).mono ?_
   rintro e w8 ⟨rfl,hs⟩
   have HSG:Hid (Since w w8):=HSF.out.trans hs
   clear hs
   go_wp2_with fail
   go_ret
   exact⟨rfl,HSG.out⟩
  ·obtain⟨aP',cP',hvP'⟩:∃ a c,vP' = .slice a P'.length c:=Rws.slice hm (i:=0) rfl
   obtain⟨aH',cH',hvH'⟩:∃ a c,vH' = .slice a H'.length c:=Rws.slice hm (i:=1) rfl
   obtain⟨aF',cF',hvF'⟩:∃ a c,vF' = .slice a F'.length c:=Rws.slice hm (i:=2) rfl
   subst hvP' hvH' hvF'
   have hP:=HBD.out.pts
   have hP' := hbl.pts
   have haP:a∈P:=by rw[ha.out,pAt_get (by rw[← HNP.out];exact hiP)];exact List.getElem_mem _
   have key:∀ z∈P,z≠p∨p=a:=fun z hz=>by
    by_cases e:p=a
    ·exact .inr e
    ·exact .inl fun e2=>hcn ⟨e,by rw[← e2];exact hz⟩
   have keyE:∀ s∈E,(s.1≠p∨p=a)∧(s.2≠p∨p=a):=fun s hs=>⟨key _ (by rw[hP];exact ptsE_mem.2 ⟨s,hs,.inl rfl⟩),key _ (by rw[hP];exact ptsE_mem.2 ⟨s,hs,.inr rfl⟩)⟩
   have hpP' : p∈P' := by rw[hP'];exact mv_mem.2 ⟨a,by rw[← hP];exact haP,by unfold rn1;rw[if_pos rfl]⟩
   have hao:okP a.1 a.2=true:=by
    rw[hP] at haP
    obtain⟨s,hs,h | h⟩:=ptsE_mem.1 haP
    ·rw[h];exact(HE.out.ok s hs).1
    ·rw[h];exact(HE.out.ok s hs).2.1
   have e1:P'.length=nP:=by rw[HNP.out,hP',hP];exact mv_len (by rw[← hP];exact key)
   have eML:(tbL (E.map (rnG a p))).length=E.length:=by rw[tbL_len,List.length_map]
   have e2:H'.length=nH:=by rw[HNH.out,hbl.hlen,HBD.out.hlen,eML]
   obtain⟨i1,hi1⟩:∃ i1,i1=idP P' p:=⟨_,rfl⟩
   obtain⟨hi1l,hi1p⟩:i1<P'.length∧pAt P' i1=p:=by rw[hi1];exact idP_at hpP'
   obtain⟨nF',HNF'⟩:∃ n,Hid (n=F'.length):=⟨_,rfl⟩
   have HIX:Hid (∀ w',MapR w' (.slice aP' nP cP') (.slice aH' nH cH') (.slice aF' nF' cF') P' H' F' → Calls Tryz.prog 24 #[.slice aP' nP cP',.agg #[.int .i64 p.1,.int .i64 p.2]] w' fun e w2=>e=.returned (.int .i64 (i1:Nat))∧Since w' w2):=fun w' z=>by
    refine(IndexP_any (x:=p) z.p (by rw[e1,HNP.out];exact HBB.out.1)).mono ?_
    rintro e w2 ⟨r,rfl,hr,hs⟩
    rcases hr with⟨h,-⟩ | ⟨j,h1,h2,rfl⟩
    ·exact absurd hpP' h
    ·have hnd:P'.Nodup:=by rw[hP'];exact srt_nodup (hullS_srt _)
     have:j=i1:=(List.getElem_inj (h₀:=h1) (h₁:=hi1l) hnd).1 (by rw[← pAt_get h1,← pAt_get hi1l,h2,hi1p])
     rw[this]
     exact⟨rfl,hs⟩
   have HM2:Hid (∀ w',MapR w' (.slice aP' nP cP') (.slice aH' nH cH') (.slice aF' nF' cF') P' H' F' → Calls Tryz.prog 22 #[.agg #[.slice aP' nP cP',.slice aH' nH cH',.slice aF' nF' cF'],.int .i64 (i1:Nat),.agg #[.int .i64 a.1,.int .i64 a.2]] w' fun e w2=>∃ vP vH vF,e=.returned (.tuple #[.agg #[vP,vH,vF],.int .i64 0])∧MapR w2 vP vH vF P H F∧Since w' w2):=fun w' z =>
    (TMove_any _ _ _ _ P' H' F' i1 a p w' z hr (by rw[eML];exact Nat.le_trans hl (by decide)) hbl hi1l hi1p hao).mono fun e w2 ⟨x1,x2⟩=>by
     rcases x1 with⟨⟨y1,y2⟩,-⟩ | ⟨-,y⟩
     ·exfalso
      rw[hP'] at y2
      obtain⟨z,hz,ez⟩:=mv_mem.1 y2
      unfold rn1 at ez
      by_cases e:z=a
      ·rw[if_pos e] at ez;exact y1 ez.symm
      ·rw[if_neg e] at ez;exact e ez
     ·rcases y with⟨y1,vP,vH,vF,P2,H2,F2,y2,y3,y4⟩ | ⟨y1,-⟩
      ·rw[mv_back HE.out keyE] at y4
       obtain⟨r1,r2,r3⟩:=BldR.uniq HE.out (Nat.le_trans hl (by decide)) HBD.out y4
       subst r1 r2 r3
       exact⟨vP,vH,vF,y2,y3.read,x2⟩
      ·rw[mv_back HE.out keyE] at y1
       exact absurd HE.out y1
   have HMN:=Lib.hid hm.read
   rw[e1,e2,← HNF'.out] at HMN ⊢
   clear hP hP' haP key keyE hpP' hao e1 eML e2 hi1 hi1l hi1p hr hbl hm hcn
   go_upto_region 11 with fail
   obtain⟨G,HG⟩:∃ G,Hid (G=w6.heap.size):=⟨_,rfl⟩
   rw[← HG.out]
   refine atW (fun w' => Hid (Since w1 w' ∧ Blk w' B 26 #[.slice (some ⟨gP,oP,none⟩) nP cP,.slice aH nH cH,.slice aF nF cF]∧Blk w' g8 36 #[.int .i64 p.1,.int .i64 p.2]∧Blk w' g9 36 #[.int .i64 a.1,.int .i64 a.2]∧Blk w' G 26 #[.slice aP' nP cP',.slice aH' nH cH',.slice aF' nF' cF'])∧Hid (MapR w' (.slice aP' nP cP') (.slice aH' nH cH') (.slice aF' nF' cF') P' H' F')) ⟨⟨HW6.out.1.alloc _,HW6.out.2.1.alloc _,HW6.out.2.2.1.alloc _,HW6.out.2.2.2.alloc _,Blk.new' HG.out⟩,HMN.out.since ((Since.rfl_ w6).alloc _)⟩ ?_
   clear HW6 HMN
   rintro w7 ⟨HW7,HM7⟩
   go_upto_region 13 with fail
   go_cut [16,17] from 76 to 86 (fun v16 v17 w' => ∃ (g16:Nat) (vP2 vH2 vF2:Value),v16=.pointer (some ⟨g16,0,none⟩)∧v17=.int .i64 0∧Hid (Since w7 w')∧Hid (Blk w' g16 26 #[vP2,vH2,vF2])∧Hid (MapR w' vP2 vH2 vF2 P H F))
   case first =>
    have n0:w7.cell? ⟨G,0,none⟩=some (.slice aP' nP cP'):=HW7.out.2.2.2.2.cell 0
    have n1:w7.cell? ⟨G,1,none⟩=some (.slice aH' nH cH'):=HW7.out.2.2.2.2.cell 1
    have n2:w7.cell? ⟨G,2,none⟩=some (.slice aF' nF' cF'):=HW7.out.2.2.2.2.cell 2
    have n3:w7.cell? ⟨g8,0,none⟩=some (.int .i64 p.1):=HW7.out.2.2.1.cell 0
    have n4:w7.cell? ⟨g8,1,none⟩=some (.int .i64 p.2):=HW7.out.2.2.1.cell 1
    have n5:w7.cell? ⟨g9,0,none⟩=some (.int .i64 a.1):=HW7.out.2.2.2.1.cell 0
    have n6:w7.cell? ⟨g9,1,none⟩=some (.int .i64 a.2):=HW7.out.2.2.2.1.cell 1
    have lG:G<w7.heap.size:=HW7.out.2.2.2.2.lt
    have l8:g8<w7.heap.size:=HW7.out.2.2.1.lt
    have l9:g9<w7.heap.size:=HW7.out.2.2.2.1.lt
    have z1:¬ w7.heap.size=G:=by omega
    have z2:¬ w7.heap.size=g8:=by omega
    have z3:¬ w7.heap.size=g9:=by omega
    go_region_held3 (fun w' => w'.cell? ⟨G,0,none⟩=some (.slice aP' nP cP')∧w'.cell? ⟨G,1,none⟩=some (.slice aH' nH cH')∧w'.cell? ⟨G,2,none⟩=some (.slice aF' nF' cF')∧w'.cell? ⟨g8,0,none⟩=some (.int .i64 p.1)∧w'.cell? ⟨g8,1,none⟩=some (.int .i64 p.2)∧w'.cell? ⟨g9,0,none⟩=some (.int .i64 a.1)∧w'.cell? ⟨g9,1,none⟩=some (.int .i64 a.2)) ((simp (maxDischargeDepth:=9) [*,World.cell?_alloc_some,cSetO,cellDrew])) (first
     | (go_at_call 24;(with_reducible refine(HIX.out _ (HM7.out.since (by repeat (first | with_reducible exact Since.rfl_ _ | with_reducible refine Since.alloc ?_ _ | with_reducible refine Since.drew ?_)))).mono ?_);rintro e w8 ⟨rfl,hs⟩;have HS8:=Lib.hid (Since.trans (a:=w7) (by repeat (first | with_reducible exact Since.rfl_ _ | with_reducible refine Since.alloc ?_ _ | with_reducible refine Since.drew ?_)) hs);have sz8:=HS8.out.size;have z4:¬ w8.heap.size=G:=Nat.ne_of_gt (Nat.lt_of_lt_of_le lG sz8);have z5:¬ w8.heap.size=g8:=Nat.ne_of_gt (Nat.lt_of_lt_of_le l8 sz8);have z6:¬ w8.heap.size=g9:=Nat.ne_of_gt (Nat.lt_of_lt_of_le l9 sz8);have n0:=keepC HS8.out _ _ n0;have n1:=keepC HS8.out _ _ n1;have n2:=keepC HS8.out _ _ n2;have n3:=keepC HS8.out _ _ n3;have n4:=keepC HS8.out _ _ n4;have n5:=keepC HS8.out _ _ n5;have n6:=keepC HS8.out _ _ n6;(try have NB:=Lib.hid (hs.blk (Blk.new _ 26 #[.slice none 0 0,.slice none 0 0,.slice none 0 0])));clear hs)
     | (go_at_call 22;(with_reducible refine(HM2.out _ (HM7.out.since (by repeat (first | with_reducible exact HS8.out | with_reducible refine Since.alloc ?_ _ | with_reducible refine Since.drew ?_)))).mono ?_);rintro e w9 ⟨vP2,vH2,vF2,rfl,hm2,hs⟩;have HM9:=Lib.hid hm2;obtain⟨⟨aP2,cP2,hvP2⟩,⟨aH2,cH2,hvH2⟩,⟨aF2,cF2,hvF2⟩⟩:=hm2.vals;subst hvP2 hvH2 hvF2;rw[← HNP.out,← HNH.out,← HNF.out] at HM9 ⊢;have H89:=Lib.hid (Since.trans (a:=w8) (by repeat (first | with_reducible exact Since.rfl_ _ | with_reducible refine Since.alloc ?_ _ | with_reducible refine Since.drew ?_)) hs);have HS9:=Lib.hid (HS8.out.trans H89.out);have sz9:=HS9.out.size;have z7:¬ w9.heap.size=G:=Nat.ne_of_gt (Nat.lt_of_lt_of_le lG sz9);have z8:¬ w9.heap.size=g8:=Nat.ne_of_gt (Nat.lt_of_lt_of_le l8 sz9);have z9:¬ w9.heap.size=g9:=Nat.ne_of_gt (Nat.lt_of_lt_of_le l9 sz9);have n0:=keepC H89.out _ _ n0;have n1:=keepC H89.out _ _ n1;have n2:=keepC H89.out _ _ n2;have n3:=keepC H89.out _ _ n3;have n4:=keepC H89.out _ _ n4;have n5:=keepC H89.out _ _ n5;have n6:=keepC H89.out _ _ n6;(try have NB:=Lib.hid (hs.blk (Blk.new _ 26 #[.slice none 0 0,.slice none 0 0,.slice none 0 0])));(try have NB:=Lib.hid (hs.blk NB.out));(try (have x0:=NB.out.cell 0;have x1:=NB.out.cell 1;have x2:=NB.out.cell 2;have y0:=NB.out.frozen 0;have y1:=NB.out.frozen 1;have y2:=NB.out.frozen 2;simp only[List.getElem?_toArray,List.getElem?_cons_zero,List.getElem?_cons_succ] at x0 x1 x2));clear hs hm2))
    ·go_wp2_with fail
     go_meet
     exact⟨w9.heap.size,_,_,_,rfl,rfl,HS9.out.alloc _,Blk.new w9 _ _,HM9.out.since ((Since.rfl_ w9).alloc _)⟩
    ·go_wp2_with fail
     go_meet
     exact⟨w8.heap.size,_,_,_,rfl,rfl,((HS9.out.setCell (p:=⟨w8.heap.size,0,none⟩) sz8 _).setCell (p:=⟨w8.heap.size,1,none⟩) sz8 _).setCell (p:=⟨w8.heap.size,2,none⟩) sz8 _,((NB.out.set_ 0 _).set_ 1 _).set_ 2 _,HM9.out.ik (nil_ik NB.out _ _ _)⟩
    ·go_wp2_with fail
     go_meet
     exact⟨w7.heap.size,_,_,_,rfl,rfl,((HS9.out.setCell (p:=⟨w7.heap.size,0,none⟩) (Nat.le_refl _) _).setCell (p:=⟨w7.heap.size,1,none⟩) (Nat.le_refl _) _).setCell (p:=⟨w7.heap.size,2,none⟩) (Nat.le_refl _) _,((NB.out.set_ 0 _).set_ 1 _).set_ 2 _,HM9.out.ik (nil_ik NB.out _ _ _)⟩
   case rest =>
    obtain⟨g16,vP2,vH2,vF2,rfl,rfl,HS8,HB8,HM8⟩:=hcut
    obtain⟨w8,rfl⟩:∃ w8,w8=wc:=⟨_,rfl⟩
    obtain⟨⟨aP2,cP2,hvP2⟩,⟨aH2,cH2,hvH2⟩,⟨aF2,cF2,hvF2⟩⟩:=HM8.out.vals
    subst hvP2 hvH2 hvF2
    rw[← HNP.out,← HNH.out,← HNF.out] at HB8 HM8
    have HSM:=Lib.hid (Same_any _ _ _ _ _ _ P H F w8 HBB.out.1 (Nat.le_trans HBB.out.2.1 (by decide)) HBB.out.2.2 HM8.out (HMR.out.since (HW7.out.1.trans HS8.out)))
    have m0:w8.cell? ⟨B,0,none⟩=some (.slice (some ⟨gP,oP,none⟩) nP cP):=(HS8.out.blk HW7.out.2.1).cell 0
    have m1:w8.cell? ⟨B,1,none⟩=some (.slice aH nH cH):=(HS8.out.blk HW7.out.2.1).cell 1
    have m2:w8.cell? ⟨B,2,none⟩=some (.slice aF nF cF):=(HS8.out.blk HW7.out.2.1).cell 2
    have n0:w8.cell? ⟨G,0,none⟩=some (.slice aP' nP cP'):=(HS8.out.blk HW7.out.2.2.2.2).cell 0
    have n1:w8.cell? ⟨G,1,none⟩=some (.slice aH' nH cH'):=(HS8.out.blk HW7.out.2.2.2.2).cell 1
    have r0:w8.cell? ⟨g16,0,none⟩=some (.slice aP2 nP cP2):=HB8.out.cell 0
    have r1:w8.cell? ⟨g16,1,none⟩=some (.slice aH2 nH cH2):=HB8.out.cell 1
    have r2:w8.cell? ⟨g16,2,none⟩=some (.slice aF2 nF cF2):=HB8.out.cell 2
    have HSF:Hid (Since w w8):=HS1.out.trans (HW7.out.1.trans HS8.out)
    go_wp2_with fail
    refine(HSM.out).mono ?_
    rintro e w9 ⟨rfl,hs⟩
    have HSG:Hid (Since w w9):=HSF.out.trans hs
    clear hs
    go_wp2_with fail
    go_ret
    exact⟨rfl,HSG.out⟩
  ·unfold nilV
   go_upto_region 11 with fail
   refine atW (fun w' => Hid (Since w1 w')) (HW6.out.1.alloc _) ?_
   clear HW6
   rintro w7 HW7
   have HSF:Hid (Since w w7):=HS1.out.trans HW7.out
   go_wp2_with fail
   go_ret
   exact⟨rfl,HSF.out⟩
end
section
theorem TMoved_walkB(v vk:Value)(l k:List Int)(y:Int)(w:World)(hi:IntsB w v l w.heap.size)(hk:IntsB w vk k w.heap.size)(_ : -9223372036854775808≤y∧y≤9223372036854775807):Calls Tryz.prog 7 #[v,vk,.int .i64 y] w fun e w' => e=.returned (.bool true)∧Since w w' :=
 TMoved_walk v vk l k y w hi hk (by obtain⟨a,c,-,h1,h2,-⟩:=hi;exact Nat.le_trans h1 (Nat.le_trans h2 (by decide)))
end
section
open Go.RowKit Go.BigFrame
open Go.ChangeShapes Go.WideShapes Go.ChangeAt Go.RowKit Go.Joins
theorem ownK:ownKnob Tryz.prog.godebug=none:=by kernel_rfl
theorem laidOutK:laidOutB Tryz.prog=true:=by kernel_rfl
section
variable {H : Type} {enc : TypeId × Value → H} {W : World} {v : Value} {d : DataW H} {p : List MemPlace}
theorem addr_at{W:World}{a:Addr}{i:Nat}{u:Value}(h0:(W.cell? a).isSome=true)(h:W.cell? (a.add i)=some u):W.cell? ⟨a.block,a.off+i,none⟩=some u:=by
 have hs:a.spot=none:=by
  unfold World.cell? at h0
  split at h0
  ·split at h0
   ·simp at h0
   ·next h1=>simpa using h1
  ·simp at h0
 obtain⟨b,o,s⟩:=a
 dsimp only at hs
 subst hs
 unfold Addr.add at h
 split at h
 ·next h1=>subst h1;exact h
 ·exact h
set_option maxRecDepth 100000 in
theorem ints_of{base:Nat}(hv:Value.okWide Tryz.prog W .any base 22 v)(h:DataW.Trod enc Tryz.prog W 0 (fun _=>true) true 22 v d p):∃ l:List Int,IntsB W v l W.heap.size:=by
 obtain⟨a0,len0,cap0,rfl⟩:=okWide_slice Tryz.underlying22 hv
 clear hv
 obtain⟨n,h⟩:=h
 rcases Go.Deep.open_slice1 Tryz.underlying22 (by kernel_rfl) h with⟨hv,-⟩ | ⟨a,len,cap,m,n',V,D,Pl,hv,-,hl,hm,hmm,-,hx⟩
 ·injection hv with hv
  rw[hv]
  exact⟨[],none,0,rfl,by simp,by unfold maxLen;omega,fun i hi=>absurd hi (Nat.not_lt_zero _)⟩
 ·injection hv with hv
  rw[hv]
  clear h
  simp only[if_true] at hmm
  subst hmm
  refine⟨(List.range len).map fun i=>intOf (V i),some a,m,by simp,by simpa using hl,hm,fun i hi=>?_⟩
  have hi' : i<len:=by simpa using hi
  have h0:=(hx 0 (by omega)).1
  have h1:=hx i (by omega)
  obtain⟨z,hz,-,-⟩:=DataW.trod_int Tryz.underlying3 h1.2
  injection hz with hz
  have ha:a.add 0=a:=rfl
  rw[ha] at h0
  have hs:=addr_at (by rw[h0];rfl) h1.1
  have hs0:=addr_at (i:=0) (by rw[h0];rfl) (by rw[ha];exact h0)
  have hsp:a=⟨a.block,a.off,none⟩:=by
   obtain⟨b,o,s⟩:=a
   unfold World.cell? at h0
   split at h0
   ·split at h0
    ·cases h0
    ·next h1=>simp at h1;rw[h1]
   ·cases h0
  refine⟨a.block,a.off,by rw[← hsp],World.block_lt_of_cell? W a h0,?_⟩
  rw[hs,hz]
  simp[List.getD,hi',hz,intOf]
theorem wf64{z:Int}(h:(Lit.int .i64 z).wf=true) : -9223372036854775808≤z∧z≤9223372036854775807:=by
 simpa[Lit.wf,IntKind.min,IntKind.max,IntKind.signed,IntKind.bits] using h
set_option maxRecDepth 100000 in
theorem int_of{base:Nat}(hv:Value.okWide Tryz.prog W .any base 3 v)(h:DataW.Trod enc Tryz.prog W 0 (fun _=>true) true 3 v d p):∃ z:Int,(-9223372036854775808≤z∧z≤9223372036854775807)∧v=.int .i64 z:=by
 obtain⟨z0,rfl⟩:=okWide_int Tryz.underlying3 hv
 clear hv
 obtain⟨n,h⟩:=h
 obtain⟨z,hz,-,hw⟩:=DataW.trod_int Tryz.underlying3 h
 injection hz with hz
 exact⟨z,wf64 hw,hz⟩
end
end
end Go.Proofs.YtdnccjdlmepafaaGreat
