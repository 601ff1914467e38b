/-
  The memory of terrref3.Clipped: a row of rows of points; plain laws of the reference's line; The walk of hull.Of; slices.SortFunc and slices.Reverse over points, out of the kit's contracts; Walks of buffer.Octagon and buffer.Strip; The walk of buffer.Strip; The walk of hull.Has at points of the hull; Plain laws of the hull of points: sorted, each one once; its edges; points within it; Plain laws of strips: points near a segment; the octagon of the fact. Conditions: those that each lemma names.
-/
import Derived.Test.YtdnccjdlmepafaaGreatK04
set_option linter.unusedSimpArgs false
set_option linter.unusedVariables false
set_option linter.constructorNameAsVariable false
namespace Go.Proofs.YtdnccjdlmepafaaGreat
section
open Go.RowKit Go.BigFrame
def addL(outs:List (List Pt2))(q:Pt2):List (List Pt2):=outs.dropLast++[rAt outs (outs.length-1)++[q]]
def refStep(outs:List (List Pt2))(op:Bool):SegT→List (List Pt2)×Bool
 | none=>(outs,false)
 | some p=>(if op=true∧p.1.1=0 then addL outs (cutP p.2) else addL (outs++[[cutP p.1]]) (cutP p.2),p.2.1 == p.2.2.1)
def refRun(seg:Nat→SegT):Nat→Nat→List (List Pt2)→Bool→List (List Pt2)×Bool
 | 0,_,o,b=>(o,b)
 | k+1,i,o,b=>refRun seg k (i+1) (refStep o b (seg i)).1 (refStep o b (seg i)).2
def longB(l:List Pt2):Bool:=decide (1<l.length)
def restL(outs:List (List Pt2)):List (List Pt2):=(outs.map cmpL).filter longB
theorem restL_snoc(outs:List (List Pt2))(l:List Pt2):restL (outs++[l])=endO (restL outs) (cmpL l):=by
 unfold restL endO longB
 rw[List.map_append,List.filter_append]
 simp only[List.map_cons,List.map_nil,List.filter_cons,List.filter_nil,decide_eq_true_eq]
 split
 ·rfl
 ·exact List.append_nil _
theorem addL_snoc(outs:List (List Pt2))(l:List Pt2)(q:Pt2):addL (outs++[l]) q=outs++[l++[q]]:=by
 unfold addL rAt
 simp[List.getD]
def sameSt(outs:List (List Pt2))(now:List Pt2)(routs:List (List Pt2))(op:Bool):Prop :=
 (op=true→∃ o l,routs=o++[l]∧restL o=outs∧cmpL l=now∧1≤now.length)∧(op=false→restL routs=outs∧now=[])
theorem sameSt.flush{outs:List (List Pt2)}{now:List Pt2}{routs:List (List Pt2)}{op:Bool}(h:sameSt outs now routs op):endO outs now=restL routs:=by
 cases op with
 | true =>
  obtain⟨o,l,rfl,rfl,rfl,-⟩:=h.1 rfl
  exact(restL_snoc o l).symm
 | false =>
  obtain⟨rfl,rfl⟩:=h.2 rfl
  rfl
theorem addQ_eq{l:List Pt2}(h:1≤l.length)(q:Pt2):addQ l q=snocC l q:=by
 unfold addQ snocC;rw[if_neg (show ¬ l.length=0 by omega)]
theorem sameSt.step{outs:List (List Pt2)}{now:List Pt2}{routs:List (List Pt2)}{op:Bool}(h:sameSt outs now routs op)(s:SegT) :
  sameSt (lineStep outs now s).1 (lineStep outs now s).2 (refStep routs op s).1 (refStep routs op s).2:=by
 cases s with
 | none =>
  exact⟨fun h=>(by cases h),fun _=>⟨h.flush.symm,rfl⟩⟩
 | some p =>
  -- the list at hand behind the segment
  have key:∃ o l,(refStep routs op (some p)).1=o++[l]∧restL o=(lineS outs now p.1).1∧cmpL l=addQ (addP (lineS outs now p.1).2 (cutP p.1)) (cutP p.2)∧1≤(cmpL l).length:=by
   by_cases hc:op=true∧p.1.1=0
   ·obtain⟨o,l,rfl,rfl,rfl,hn⟩:=h.1 hc.1
    refine⟨o,l++[cutP p.2],?_,?_,?_,?_⟩
    ·unfold refStep;dsimp only;rw[if_pos hc,addL_snoc]
    ·unfold lineS;rw[if_pos hc.2]
    ·unfold lineS;rw[if_pos hc.2,cmpL_snoc];dsimp only;unfold addP;rw[if_neg (show ¬ (cmpL l).length=0 by omega),addQ_eq hn]
    ·rw[cmpL_snoc];exact(snocC_last _ _).2.1
   ·have e1:(lineS outs now p.1).1=restL routs∧(lineS outs now p.1).2=[]:=by
     unfold lineS
     by_cases h0:p.1.1=0
     ·have:op=false:=by cases op <;> simp_all
      obtain⟨rfl,rfl⟩:=h.2 this
      rw[if_pos h0];exact⟨rfl,rfl⟩
     ·rw[if_neg h0];exact⟨h.flush,rfl⟩
    refine⟨routs,[cutP p.1,cutP p.2],?_,e1.1.symm,?_,?_⟩
    ·unfold refStep;dsimp only;rw[if_neg hc,addL_snoc];rfl
    ·rw[e1.2,show addP [] (cutP p.1)=[cutP p.1] from rfl,addQ_eq (by simp)];rfl
    ·rw[show [cutP p.1,cutP p.2]=[cutP p.1]++[cutP p.2] from rfl,cmpL_snoc];exact(snocC_last _ _).2.1
  obtain⟨o,l,k1,k2,k3,k4⟩:=key
  have k5:(refStep routs op (some p)).2=(p.2.1 == p.2.2.1):=rfl
  unfold lineStep
  dsimp only
  by_cases he:p.2.1=p.2.2.1
  ·rw[if_pos he]
   exact⟨fun _=>⟨o,l,k1,k2,k3,by rw[← k3];exact k4⟩,fun h=>(by rw[k5,beq_iff_eq.2 he] at h;cases h)⟩
  ·rw[if_neg he]
   refine⟨fun h=>(by rw[k5,beq_iff_eq] at h;exact absurd h he),fun _=>⟨?_,rfl⟩⟩
   rw[k1,restL_snoc,k2,k3]
theorem sameSt.run(seg:Nat→SegT):∀ (k i:Nat) {outs:List (List Pt2)} {now:List Pt2} {routs:List (List Pt2)} {op:Bool},sameSt outs now routs op →
  sameSt (lineRun seg k i outs now).1 (lineRun seg k i outs now).2 (refRun seg k i routs op).1 (refRun seg k i routs op).2
 | 0,_,_,_,_,_,h=>h
 | k+1,i,_,_,_,_,h=>sameSt.run seg k (i+1) (h.step (seg i))
theorem RowP.own{w:World}{b g c:Nat}{l:List Pt2}(h:w.ownsRow b 36 2 (.slice (some ⟨g,0,none⟩) l.length c) l.length (l.flatMap ptV)):RowP w g l.length (c*2) (pAt l)∧l.length≤c∧b≤g:=by
 obtain⟨-,⟨h0,-⟩ | ⟨g',cap,cur,hv,hb,hg,hn,-,hs,ht⟩⟩:=h
 ·cases h0
 ·injection hv with e1 e2 e3
  injection e1 with e1
  injection e1 with e1 _ _
  subst e1 e3
  refine⟨⟨cur,hg,hs,by omega,fun i hi=>?_⟩,hn,hb⟩
  have key:∀ j,j<2→cur[2*i+j]? = (ptV l[i])[j]? := fun j hj=>by
   rw[← flat_at (f:=ptV) (k:=2) (fun x=>rfl) l i j hi hj,← ht,List.getElem?_take_of_lt (by omega),Array.getElem?_toList,Nat.mul_comm i 2]
  have e:pAt l i=l[i]:=by simp[pAt,List.getD,hi]
  rw[e]
  exact⟨key 0 (by omega),key 1 (by omega)⟩
theorem RowP.grown{w w' : World}{g n N:Nat}{f:Nat→Pt2}(h:RowP w g n N f){row:Option Nat}(hg:w.grownBy w' row)(hne:some g≠row):RowP w' g n N f:=by
 obtain⟨cs,hb,hc⟩:=h
 exact⟨cs,hb.grown hg hne,hc⟩
def RowsP(w:World)(BO:Nat)(outs:List (List Pt2))(us:List Value)(G C N:Nat→Nat):Prop :=
 (∀ i,i<outs.length→us[i]? = some (.slice (some ⟨G i,0,none⟩) (rAt outs i).length (C i))∧RowP w (G i) (rAt outs i).length (N i) (pAt (rAt outs i))∧(rAt outs i).length≤C i∧BO≤G i) ∧
 (∀ i j,i<j→j<outs.length→G i<G j)
def RStV(w0 w:World)(BO:Nat)(outs:List (List Pt2))(vout:Value)(us:List Value)(G C N:Nat→Nat)(B:Nat):Prop :=
 Since w0 w∧w0.heap.size≤BO∧BO≤B∧B≤w.heap.size∧w.ownsRow BO 23 1 vout outs.length us∧RowsP w BO outs us G C N ∧
 (∀ n,outs.length=n+1→(∀ i,i<n→G i<B)∧w.ownsRow B 36 2 (.slice (some ⟨G n,0,none⟩) (rAt outs n).length (C n)) (rAt outs n).length ((rAt outs n).flatMap ptV))
def RSt(w0 w:World)(BO:Nat)(outs:List (List Pt2))(vout:Value):Prop:=∃ us G C N B,RStV w0 w BO outs vout us G C N B
theorem RStV.since{w0 w w' : World}{BO:Nat}{outs:List (List Pt2)}{vout:Value}{us:List Value}{G C N:Nat→Nat}{B:Nat}(h:RStV w0 w BO outs vout us G C N B)(k:Since w w'):RStV w0 w' BO outs vout us G C N B:=by
 obtain⟨h1,h2,h3,h4,h5,⟨h6,h7⟩,h8⟩:=h
 refine⟨h1.trans k,h2,h3,Nat.le_trans h4 k.size,own_since k h5,⟨fun i hi=>?_,h7⟩,fun n hn=>?_⟩
 ·obtain⟨a,b,c⟩:=h6 i hi
  exact⟨a,b.since k,c⟩
 ·obtain⟨a,b⟩:=h8 n hn
  exact⟨a,own_since k b⟩
theorem RSt.since{w0 w w' : World}{BO:Nat}{outs:List (List Pt2)}{vout:Value}(h:RSt w0 w BO outs vout)(k:Since w w'):RSt w0 w' BO outs vout:=by
 obtain⟨us,G,C,N,B,h⟩:=h
 exact⟨us,G,C,N,B,h.since k⟩
section
variable {w0 w w' wA w3 : World} {BO : Nat} {outs : List (List Pt2)} {vout v' : Value} {us : List Value} {G C N : Nat → Nat} {B : Nat} {p q : Pt2}
end
section
variable {w0 w w' wA : World} {outs rest : List (List Pt2)} {gO k BR : Nat} {cs : Array Value} {G N : Nat → Nat} {vrest v' : Value} {rs : List Value} {l : List Pt2}
end
end
section
open Go.RowKit Go.BigFrame
attribute [local go_sem ↓] eqPt neqPt
def srtL(l:List Pt2):List Pt2:=l.mergeSort fun x y => !lxB y x
def SortSpec:Prop:=∀ (g c n B:Nat) (l:List Pt2) (w:World),w.ownsRow B 36 2 (.slice (some ⟨g,0,none⟩) n c) n (l.flatMap ptV)→n=l.length→n≤1000000000000 →
 Calls Tryz.prog 86 #[.slice (some ⟨g,0,none⟩) n c,.func (.func 28) #[] #[]] w fun e w' => e=.returned (.tuple #[])∧w'.ownsRow B 36 2 (.slice (some ⟨g,0,none⟩) n c) n ((srtL l).flatMap ptV)∧Only g w w'
theorem RowP.toOwn{w:World}{B g c:Nat}{l:List Pt2}(h:RowP w g l.length (c*2) (pAt l))(hc:l.length≤c)(hm:c≤maxLen)(hb:B≤g):w.ownsRow B 36 2 (.slice (some ⟨g,0,none⟩) l.length c) l.length (l.flatMap ptV):=by
 obtain⟨cs,hg,hs,hn,hcl⟩:=h
 refine⟨flatP_len l,.inr ⟨g,c,cs,rfl,hb,hg,hc,hm,hs,?_⟩⟩
 apply List.ext_getElem?
 intro j
 by_cases hj:j<l.length*2
 ·obtain⟨u,r,rfl,hr⟩:∃ u r,j=u*2+r∧r<2:=⟨j/2,j % 2,by omega,by omega⟩
  have hi:u<l.length:=by omega
  rw[List.getElem?_take_of_lt hj,Array.getElem?_toList,flat_at ptV_len l u r hi hr]
  have e:pAt l u=l[u]:=by simp[pAt,List.getD,hi]
  have h2:=hcl u hi
  rw[e,Nat.mul_comm] at h2
  have:r=0∨r=1:=by omega
  rcases this with h | h
  ·rw[h];exact h2.1
  ·rw[h];exact h2.2
 ·rw[List.getElem?_take_eq_none (by omega),List.getElem?_eq_none (by rw[flatP_len];omega)]
theorem CompactOwn(g c B:Nat)(l:List Pt2)(w:World)(hl:l.length≤1000000000000)(h:w.ownsRow B 36 2 (.slice (some ⟨g,0,none⟩) l.length c) l.length (l.flatMap ptV)) :
  Calls Tryz.prog 87 #[.slice (some ⟨g,0,none⟩) l.length c] w fun e w' => e=.returned (.slice (some ⟨g,0,none⟩) (cmpL l).length c) ∧
   w'.ownsRow B 36 2 (.slice (some ⟨g,0,none⟩) (cmpL l).length c) (cmpL l).length ((cmpL l).flatMap ptV)∧Only g w w' := by
 obtain⟨h1,h2,h3⟩:=RowP.own h
 have hm:c≤maxLen:=by
  obtain⟨-,⟨h0,-⟩ | ⟨g',cap,cur,hv,-,-,-,hm,-⟩⟩:=h
  ·cases h0
  ·injection hv with e1 e2 e3;omega
 refine(Compact_any g c (c*2) l w hl h2 h1).mono ?_
 rintro e w' ⟨rfl,hr,ho⟩
 exact⟨rfl,hr.toOwn (Nat.le_trans (cmpL_le l) h2) hm h3,ho⟩
def hullS(l:List Pt2):List Pt2:=cmpL (srtL l)
end
section
open Go.RowKit Go.BigFrame Go.Shelf Go.Lib Go.Proofs
def sortPt_ren:Go.Shelf.Ren:=⟨fun | 6=>86 | 15=>96 | 14=>105 | 28=>117 | 29=>118 | 20=>125 | 21=>126 | 22=>127 | 23=>128 | 24=>129 | 25=>130 | 26=>131 | 27=>132 | 46=>159 | 47=>144 | 48=>145 | 49=>160 | 50=>161 | 57=>174 | n=>n,fun | 22=>23 | 24=>36 | 25=>59 | 3=>3 | 39=>118 | 0=>0 | 53=>141 | 55=>143 | 4=>4 | 46=>134 | 45=>133 | 50=>138 | 5=>5 | 9=>9 | 66=>168 | 70=>172 | 76=>195 | 77=>187 | n=>n,fun | n=>n⟩
theorem sortPt:Go.Proofs.SlLaysF0.n6 Tryz.prog sortPt_ren:={
 mixed:=by kernel_rfl
 f6:=⟨Tryz.f86.name,by decide,Tryz.func86.trans (congrArg some (by kernel_rfl))⟩
 f14:=⟨Tryz.f105.name,by decide,Tryz.func105.trans (congrArg some (by kernel_rfl))⟩
 f15:=Tryz.func96.trans (congrArg some (by kernel_rfl))
 f20:=⟨Tryz.f125.name,by decide,Tryz.func125.trans (congrArg some (by kernel_rfl))⟩
 f21:=⟨Tryz.f126.name,by decide,Tryz.func126.trans (congrArg some (by kernel_rfl))⟩
 f22:=⟨Tryz.f127.name,by decide,Tryz.func127.trans (congrArg some (by kernel_rfl))⟩
 f23:=⟨Tryz.f128.name,by decide,Tryz.func128.trans (congrArg some (by kernel_rfl))⟩
 f24:=⟨Tryz.f129.name,by decide,Tryz.func129.trans (congrArg some (by kernel_rfl))⟩
 f25:=⟨Tryz.f130.name,by decide,Tryz.func130.trans (congrArg some (by kernel_rfl))⟩
 f26:=⟨Tryz.f131.name,by decide,Tryz.func131.trans (congrArg some (by kernel_rfl))⟩
 f27:=⟨Tryz.f132.name,by decide,Tryz.func132.trans (congrArg some (by kernel_rfl))⟩
 f28:=Tryz.func117.trans (congrArg some (by kernel_rfl))
 f29:=Tryz.func118.trans (congrArg some (by kernel_rfl))
 f46:=⟨Tryz.f159.name,by decide,Tryz.func159.trans (congrArg some (by kernel_rfl))⟩
 f47:=Tryz.func144.trans (congrArg some (by kernel_rfl))
 f48:=Tryz.func145.trans (congrArg some (by kernel_rfl))
 f49:=⟨Tryz.f160.name,by decide,Tryz.func160.trans (congrArg some (by kernel_rfl))⟩
 f50:=⟨Tryz.f161.name,by decide,Tryz.func161.trans (congrArg some (by kernel_rfl))⟩
 f57:=⟨Tryz.f174.name,by decide,Tryz.func174.trans (congrArg some (by kernel_rfl))⟩
 t0:=Tryz.underlying0
 a0:=Tryz.isAgg0
 z0:=Tryz.sizeOf0
 v0:=Tryz.zeroValue0
 t3:=Tryz.underlying3
 a3:=Tryz.isAgg3
 z3:=Tryz.sizeOf3
 v3:=Tryz.zeroValue3
 t4:=Tryz.underlying4
 a4:=Tryz.isAgg4
 z4:=Tryz.sizeOf4
 v4:=Tryz.zeroValue4
 t5:=Tryz.underlying5
 a5:=Tryz.isAgg5
 z5:=Tryz.sizeOf5
 v5:=Tryz.zeroValue5
 t9:=Tryz.underlying9
 a9:=Tryz.isAgg9
 z9:=Tryz.sizeOf9
 v9:=Tryz.zeroValue9
 t22:=Tryz.underlying23
 a22:=Tryz.isAgg23
 z22:=Tryz.sizeOf23
 v22:=Tryz.zeroValue23
 t25:=Tryz.underlying59
 a25:=Tryz.isAgg59
 z25:=Tryz.sizeOf59
 v25:=Tryz.zeroValue59
 t39:=Tryz.underlying118
 a39:=Tryz.isAgg118
 z39:=Tryz.sizeOf118
 v39:=Tryz.zeroValue118
 t45:=Tryz.underlying133
 a45:=Tryz.isAgg133
 z45:=Tryz.sizeOf133
 v45:=Tryz.zeroValue133
 t46:=Tryz.underlying134
 a46:=Tryz.isAgg134
 z46:=Tryz.sizeOf134
 v46:=Tryz.zeroValue134
 t50:=Tryz.underlying138
 a50:=Tryz.isAgg138
 z50:=Tryz.sizeOf138
 v50:=Tryz.zeroValue138
 t53:=Tryz.underlying141
 a53:=Tryz.isAgg141
 z53:=Tryz.sizeOf141
 v53:=Tryz.zeroValue141
 t55:=Tryz.underlying143
 a55:=Tryz.isAgg143
 z55:=Tryz.sizeOf143
 v55:=Tryz.zeroValue143
 t66:=Tryz.underlying168
 a66:=Tryz.isAgg168
 z66:=Tryz.sizeOf168
 v66:=Tryz.zeroValue168
 t70:=Tryz.underlying172
 a70:=Tryz.isAgg172
 z70:=Tryz.sizeOf172
 v70:=Tryz.zeroValue172
 t76:=Tryz.underlying195
 a76:=Tryz.isAgg195
 z76:=Tryz.sizeOf195
 v76:=Tryz.zeroValue195
 t77:=Tryz.underlying187
 a77:=Tryz.isAgg187
 z77:=Tryz.sizeOf187
 v77:=Tryz.zeroValue187 }
theorem lxB_swo:Go.Sort.SWO (ltOf cmpP) where
 irrefl x:=by rw[cmpP_lt];simp[lxB]
 trans x y z h1 h2:=by rw[cmpP_lt] at *;simp only[lxB,Bool.or_eq_true,Bool.and_eq_true,decide_eq_true_eq] at *;omega
 ntrans x y z h1 h2:=by
  rw[cmpP_lt] at *
  simp only[lxB,Bool.or_eq_false_iff,Bool.and_eq_false_iff,decide_eq_false_iff_not] at *;omega
theorem ptV_one(x:Pt2):∀ v∈ptV x,v.oneCell' = true:=by
 intro v hv
 simp only[ptV,List.mem_cons,List.not_mem_nil,or_false] at hv
 rcases hv with rfl | rfl <;> rfl
theorem cmpLays(blk off size:Nat)(w:World):CmpLays Tryz.prog 28 #[] ptV 2 cmpP blk off size w:=fun _ _ _ _ x y=>Cmp_any x y _
theorem sort_spec:SortSpec:=by
 intro g c n B l w h hn hlen
 have eg:∀ args w,(callFunc 28 args).run Tryz.prog w=.ok (.enter 28 args) w:=enters_of Tryz.func28 (by kernel_rfl) rfl
 have hT:∀ x y,(ltOf cmpP) x y=false→(ltOf cmpP) y x=false→x=y:=fun x y h1 h2=>by
  rw[cmpP_lt] at *
  simp only[lxB,Bool.or_eq_false_iff,Bool.and_eq_false_iff,decide_eq_false_iff_not] at *
  exact Prod.ext (by omega) (by omega)
 have hcon:=AnyQ.slices_SortFunc_total sortPt 2 Tryz.isAgg36 Tryz.sizeOf36 ptV ptV_len ptV_one cmpP lxB_swo 28 #[] g 0 c l.toArray w eg (cmpLays _ _ _ _) (own_holds h hn) (h.lt g rfl).2 (by simp;omega) hT
 change Calls Tryz.prog 86 _ _ _ at hcon
 rw[show l.toArray.size=n by simp[hn]] at hcon
 refine hcon.mono ?_
 rintro e w' ⟨rfl,m,os,rfl⟩
 have e1:(l.toArray.toList.mergeSort fun x y => !(ltOf cmpP) y x).toArray=(srtL l).toArray:=by
  unfold srtL
  have:(fun x y => !(ltOf cmpP) y x)=fun x y => !lxB y x:=by funext x y;rw[cmpP_lt]
  rw[this]
 rw[e1]
 exact⟨rfl,own_sort h hn (by unfold srtL;simp),only_sort _ (h.lt g rfl).2⟩
end
section
open Go.RowKit Go.BigFrame
attribute [local go_sem ↓] eqPt neqPt
end
section
open Go.RowKit Go.BigFrame
attribute [local go_sem ↓] eqPt neqPt
def StW(w0 w:World)(p q:Pt2):Prop:=Since w0 w∧Blk w w0.heap.size 36 #[.int .i64 p.1,.int .i64 p.2]∧Blk w (w0.heap.size+1) 36 #[.int .i64 q.1,.int .i64 q.2]
theorem StW.since{w0 w w' : World}{p q:Pt2}(h:StW w0 w p q)(hs:Since w w'):StW w0 w' p q:=⟨h.1.trans hs,hs.blk h.2.1,hs.blk h.2.2⟩
theorem own_some{w:World}{B:Nat}{e:TypeId}{k n:Nat}{v:Value}{xs:List Value}(h:w.ownsRow B e k v n xs)(hn:0<n):∃ g c,v=.slice (some ⟨g,0,none⟩) n c:=by
 obtain⟨-,⟨-,h0⟩ | ⟨g,cap,cur,h,-⟩⟩:=h
 ·omega
 ·exact⟨g,cap,h⟩
end
section
open Go.RowKit Go.BigFrame
attribute [local go_sem ↓] eqPt neqPt
end
section
theorem lxB_iff{a b:Pt2}:lxB a b=true↔lx a b:=by unfold lxB lx;simp
theorem srtL_mem{l:List Pt2}{q:Pt2}:q∈srtL l↔q∈l:=by unfold srtL;exact List.mem_mergeSort
theorem srtL_pw(l:List Pt2):(srtL l).Pairwise fun x y=>¬ lx y x:=by
 have:=List.pairwise_mergeSort (le:=fun x y:Pt2 => !lxB y x) (fun a b c h1 h2=>by
  simp only[Bool.not_eq_true',← Bool.not_eq_true,lxB_iff] at *
  unfold lx at *;omega) (fun a b=>by
  simp only[Bool.or_eq_true,Bool.not_eq_true',← Bool.not_eq_true,lxB_iff]
  unfold lx;omega) l
 unfold srtL
 exact this.imp fun h=>by simpa[← Bool.not_eq_true,lxB_iff] using h
theorem snoc_fold:∀ (l acc:List Pt2),(∀ x∈acc,∀ y∈l,¬ lx y x)→(l.Pairwise fun x y=>¬ lx y x)→Srt acc→Srt (l.foldl snocC acc)∧∀ q,q∈l.foldl snocC acc↔q∈acc∨q∈l
 | [],acc,_,_,h=>⟨h,fun q=>by simp⟩
 | p :: l,acc,h1,h2,h3=>by
  rw[List.pairwise_cons] at h2
  rw[List.foldl_cons]
  have key:Srt (snocC acc p)∧∀ q,q∈snocC acc p↔q∈acc∨q=p:=by
   unfold snocC
   split
   ·rename_i h
    have:acc=[]:=List.length_eq_zero_iff.1 h
    subst this
    exact⟨by unfold Srt;simp,fun q=>by simp⟩
   ·rename_i h
    have hl:lastP acc∈acc:=pAt_mem (by omega)
    split
    ·rename_i e
     exact⟨h3,fun q=>⟨.inl,fun h=>h.elim id fun h=>by rw[h,e];exact hl⟩⟩
    ·rename_i e
     refine⟨?_,fun q=>by simp⟩
     unfold Srt at *
     rw[List.pairwise_append]
     refine⟨h3,by simp,fun x hx y hy=>?_⟩
     rw[List.mem_singleton.1 hy]
     have a:=h1 x hx p (by simp)
     rcases lx_tri x p with t | t | t
     ·exact t
     ·exfalso
      obtain⟨i,hi,hx'⟩:=mem_pAt hx
      by_cases hL:i=acc.length-1
      ·apply e;rw[← t,← hx',hL];rfl
      ·have hp:=List.pairwise_iff_getElem.1 h3 i (acc.length-1) hi (by omega) (by omega)
       have e1:acc[i]=x:=by rw[← hx'];simp[pAt,List.getD,hi]
       have e2:acc[acc.length-1]=lastP acc:=by simp[lastP,pAt,List.getD,show acc.length-1<acc.length by omega]
       rw[e1,e2,t] at hp
       exact h1 _ hl p (by simp) hp
     ·exact absurd t a
  have:=snoc_fold l (snocC acc p) (fun x hx y hy=>by
   rcases (key.2 x).1 hx with g | g
   ·exact h1 x g y (List.mem_cons_of_mem _ hy)
   ·rw[g];exact h2.1 y hy) h2.2 key.1
  refine⟨this.1,fun q=>?_⟩
  rw[this.2,key.2,List.mem_cons,or_assoc]
theorem hullS_srt(l:List Pt2):Srt (hullS l):=(snoc_fold (srtL l) [] (by simp) (srtL_pw l) (by unfold Srt;simp)).1
theorem hullS_mem{l:List Pt2}{q:Pt2}:q∈hullS l↔q∈l:=by
 have:=(snoc_fold (srtL l) [] (by simp) (srtL_pw l) (by unfold Srt;simp)).2 q
 unfold hullS cmpL
 rw[this,srtL_mem];simp
theorem hullS_ext{l m:List Pt2}(h:∀ q,q∈l↔q∈m):hullS l=hullS m:=srt_ext (hullS_srt l) (hullS_srt m) fun q=>by rw[hullS_mem,hullS_mem,h]
/-! ### Points near a segment -/
theorem sq_nn(x:Int):0≤x*x:=by
 rcases Int.le_total 0 x with h | h
 ·exact Int.mul_nonneg h h
 ·exact Int.mul_nonneg_of_nonpos_of_nonpos h h
end
section

end
end Go.Proofs.YtdnccjdlmepafaaGreat
