/-
  slices.Delete of one segment out of a row of one's own; slices.Equal over half-edges and over ints, of a list and itself; half.Same; half.Check of what Build makes: OK; Walks of topo.lines, topo.Add and topo.Drop on what Build makes; The walk of topo.Drop on what Build makes; slices.Index over segments, slices.Clone over at most one int; Plain law of HotOrder: the order and the directions of segments do not matter. Conditions: those that each lemma names.
-/
import Derived.Test.YtdnccjdlmepafaaGreatK29
import Derived.Deep.RegionLaw
import Derived.Deep.MidRow
import Derived.Lib.SliceRun
import Derived.Test.YtdnccjdlmepafaaGreatK02
import Derived.Test.YtdnccjdlmepafaaGreatK28
import Derived.Test.YtdnccjdlmepafaaGreatK13
import Derived.Test.YtdnccjdlmepafaaGreatK17
set_option linter.unusedSimpArgs false
set_option linter.unusedVariables false
set_option linter.constructorNameAsVariable false
namespace Go.Proofs.YtdnccjdlmepafaaGreat
section
open Go.RowKit Go.BigFrame
def zG:List Value:=[.int .i64 0,.int .i64 0,.int .i64 0,.int .i64 0]
theorem clear4(w:World)(ty:TypeId)(g o c:Nat)(hc:∀ j,j<4→(w.cell? ⟨g,o+j,none⟩).isSome=true)(hf:∀ j,j<4→w.frozen? ⟨g,o+j,none⟩=false) :
  (Builtin.clear_ #[27] ty #[.slice (some ⟨g,o,none⟩) 1 c]).run Tryz.prog w=.ok (.tuple #[]) (w.setCells g o zG):=by
 have hst:=run_storeCells_cells (P:=Tryz.prog) g o zG 0 w (by simpa[zG] using hc) (by simpa[zG] using hf) (by intro v hv;simp only[zG,List.mem_cons,List.not_mem_nil,or_false,or_self] at hv;rw[hv];rfl)
 simp only[Nat.add_zero] at hst
 have hv:∀ w,(zeroValue 37).run Tryz.prog w=.ok (.agg #[.int .i64 0,.int .i64 0,.int .i64 0,.int .i64 0]) w:=Tryz.zeroValue37
 have hzc:(Builtin.zeroCells (Value.agg #[.int .i64 0,.int .i64 0,.int .i64 0,.int .i64 0]).cells 1).toList=zG:=by simp[Builtin.zeroCells,Value.cells,zG];rfl
 simp[Builtin.clear_,run_underlying Tryz.underlying27,hv,hzc,hst]
theorem flatG_drop(l:List Sg):∀ (i:Nat),(l.drop i).flatMap sgV=(l.flatMap sgV).drop (i*4):=by
 induction l with
 | nil=>intro i;simp
 | cons p l ih =>
  intro i
  cases i with
  | zero=>simp
  | succ i =>
   rw[List.drop_succ_cons,ih i,List.flatMap_cons,show(i+1)*4=4+i*4 by omega,← List.drop_drop]
   rfl
theorem onlyCells{g:Nat}{a:World}:∀ (vs:List Value) (o:Nat) {w:World},Only g a w→Only g a (w.setCells g o vs)
 | [],_,_,h=>h
 | v :: vs,o,_,h=>onlyCells vs (o+1) (Only.setCell h (p:=⟨g,o,none⟩) (.inl rfl) v)
theorem del_cells{w:World}{g b c n i j k:Nat}{M:List Sg}(h:w.ownsRow b 37 4 (.slice (some ⟨g,0,none⟩) n c) n (M.flatMap sgV))(hn:M.length=n)(hj:j=i+1)(hk:n=k+1)(hi:i≤k){r q:Nat}(hr:r<k)(hq:q<4) :
  ((w.setCells g (i*4) ((M.drop j).flatMap sgV)).setCells g (k*4) zG).cell? ⟨g,r*4+q,none⟩=(sgV (sgAt (M.eraseIdx i) r))[q]? := by
 have hlen:((M.drop j).flatMap sgV).length=(n-j)*4:=by rw[flatG_len,List.length_drop,hn]
 have hel:r<(M.eraseIdx i).length:=by rw[List.length_eraseIdx,if_pos (by omega)];omega
 rw[World.cell?_setCells_out g zG (k*4) _ _ (fun _ _=>.inl (by show r*4+q<k*4;omega)),sgAt_get hel,List.getElem_eraseIdx]
 by_cases hri:r<i
 ·rw[World.cell?_setCells_out g _ (i*4) _ _ (fun _ _=>.inl (by show r*4+q<i*4;omega)),h.cellAt _ (by omega),flat_at sgV_len M r q (by omega) hq]
  simp only[hri,dite_true]
 ·have e:r*4+q=i*4+((r-i)*4+q):=by omega
  have hlt:(r-i)*4+q<((M.drop j).flatMap sgV).length:=by rw[hlen];omega
  rw[e,World.cell?_setCells_in g _ (i*4) w (fun t ht=>by rw[hlen] at ht;rw[h.cellAt _ (by omega),List.getElem?_eq_getElem (by rw[flatG_len];omega)];rfl) _ hlt,← List.getElem?_eq_getElem hlt,flat_at sgV_len (M.drop j) (r-i) q (by rw[List.length_drop];omega) hq]
  simp only[hri,dite_false,List.getElem_drop]
  congr 2
  congr 1
  omega
set_option maxRecDepth 100000 in
set_option maxHeartbeats 2000000 in
theorem Delete1_any(g c b i j d n:Nat)(M:List Sg)(w:World)(h:w.ownsRow b 37 4 (.slice (some ⟨g,0,none⟩) n c) n (M.flatMap sgV))(hn:M.length=n)(hid:n=i+(d+1))(hj:j=i+1)(hl:n≤3000) :
  Calls Tryz.prog 51 #[.slice (some ⟨g,0,none⟩) n c,.int .i64 i,.int .i64 j] w fun e w' => e=.returned (.slice (some ⟨g,0,none⟩) (i+d) c)∧SegsS w' (.slice (some ⟨g,0,none⟩) (i+d) c) (M.eraseIdx i)∧Only g w w' := by
 obtain⟨i0,hi0,hz0,hz1,hz3⟩:=info_parts infoSg
 have hcap:n≤c∧c≤maxLen:=by
  obtain⟨-,⟨h1,-⟩ | ⟨g',cap,cur,h1,hb,hg,hc,hm,hs,ht⟩⟩:=h
  ·cases h1
  ·injection h1 with h1 _ h3
   subst h3
   exact⟨hc,hm⟩
 obtain⟨hc1,hc2⟩:=hcap
 unfold maxLen at hc2
 have q1:(0:Int)≤(i:Int):=by omega
 have q2:(i:Int)≤(j:Int):=by omega
 have q3:(j:Int)≤(n:Int):=by omega
 have q4:(n:Int)≤(c:Int):=by omega
 have q5:i≤c:=by omega
 have q6:j≤c:=by omega
 have q7:j≤n:=by omega
 have e1:((i:Int) == (j:Int))=false:=by rw[beq_eq_false_iff_ne];omega
 have q8:i≤j:=by omega
 obtain⟨k,hk⟩:∃ k,k=i+(n-j):=⟨_,rfl⟩
 have hnk:n=k+1:=by omega
 have hki:k=i+d:=by omega
 have hlt:g<w.heap.size:=(h.lt g rfl).2
 obtain⟨news,hnews⟩:∃ news,news=(M.drop j).flatMap sgV:=⟨_,rfl⟩
 have hlen:news.length=(n-j)*4:=by rw[hnews,flatG_len,List.length_drop,hn]
 obtain⟨A,hA,hsrc⟩:∃ A:Addr,(if c=j then some (⟨g,0,none⟩:Addr) else some ⟨g,j*4,none⟩)=some A∧Hid (∀ t u,news[t]? = some u→w.drew.cell? (A.add t)=some u):=by
  by_cases hcj:c=j
  ·refine⟨⟨g,0,none⟩,by rw[if_pos hcj],fun t u hu=>?_⟩
   have:=(List.getElem?_eq_some_iff.1 hu).1
   rw[hlen] at this
   omega
  ·refine⟨⟨g,j*4,none⟩,by rw[if_neg hcj],fun t u hu=>?_⟩
   have ht:=(List.getElem?_eq_some_iff.1 hu).1
   rw[hlen] at ht
   rw[hnews,flatG_drop,List.getElem?_drop] at hu
   rw[Addr.add_lit,← hu]
   exact h.cellAt _ (by omega)
 have s1:Hid (news.length=(n-j)*4):=hlen
 have s2:Hid (∀ u∈news,u.oneCell' = true):=fun u hu=>by
  rw[hnews] at hu
  obtain⟨s,-,hs⟩:=List.mem_flatMap.1 hu
  exact sgV_one s u hs
 have s3:Hid (∀ t,t<news.length→(w.drew.cell? ⟨g,0+i*4+t,none⟩).isSome=true∧w.drew.frozen? ⟨g,0+i*4+t,none⟩=false):=fun t ht=>by
  rw[hlen] at ht
  refine⟨?_,h.frozenAt _⟩
  show(w.cell? _).isSome=true
  rw[h.cellAt _ (by omega),List.getElem?_eq_getElem (by rw[flatG_len];omega)]
  rfl
 obtain⟨W1,hW1⟩:∃ W1,W1=w.drew.setCells g (0+i*4) news:=⟨_,rfl⟩
 have hW1' : W1=w.drew.setCells g (i*4) news:=by rw[hW1,Nat.zero_add]
 have hcl:∀ ty,(Builtin.clear_ #[27] ty #[.slice (some ⟨g,k*4,none⟩) (n-k) (c-k)]).run Tryz.prog W1=.ok (.tuple #[]) (W1.setCells g (k*4) zG):=fun ty=>by
  rw[show n-k=1 by omega]
  have hs:∀ q,q<4→(W1.cell? ⟨g,k*4+q,none⟩).isSome=true:=fun q hq=>by
   rw[hW1']
   refine World.isSome_setCells g _ _ _ _ ?_
   show(w.cell? _).isSome=true
   rw[h.cellAt _ (by omega),List.getElem?_eq_getElem (by rw[flatG_len];omega)]
   rfl
  exact clear4 W1 ty g (k*4) (c-k) hs (fun q hq=>by rw[hW1',World.frozen?_setCells];exact h.frozenAt _)
 have HR:Hid (SegsS (W1.setCells g (k*4) zG) (.slice (some ⟨g,0,none⟩) (i+d) c) (M.eraseIdx i)):=by
  have hel:(M.eraseIdx i).length=k:=by rw[List.length_eraseIdx,if_pos (by omega)];omega
  refine⟨some ⟨g,0,none⟩,c,by rw[hel,hki],by omega,fun r hr=>⟨g,0,rfl,?_⟩⟩
  rw[hel] at hr
  rw[hW1',hnews,Nat.zero_add]
  have K:=fun q (hq:q<4)=>(del_cells (w:=w.drew) h hn hj hnk (by omega) hr hq:_)
  exact⟨(K 0 (by decide)).trans rfl,(K 1 (by decide)).trans rfl,(K 2 (by decide)).trans rfl,(K 3 (by decide)).trans rfl⟩
 have HO:Hid (Only g w (W1.setCells g (k*4) zG)):=by
  show Only _ _ _
  rw[hW1']
  exact onlyCells _ _ (onlyCells _ _ (Only.drew ((Since.rfl_ w).only g)))
 have hW:Hid (W1=w.drew.setCells g (0+i*4) news):=hW1
 have p1:k≤n:=by omega
 have p2:k≤c:=by omega
 have p3:¬ c=k:=by omega
 have p4:(0:Int)≤(k:Int):=by omega
 have p5:(k:Int)≤(n:Int):=by omega
 have q9:¬ n=i:=by omega
 have HK:=Lib.hid hk
 have HKI:=Lib.hid hki
 have hroom:i+(n-j)≤c:=by omega
 clear hid hj hk hki hnk hnews hlen hW1 hW1' h hn
 go_enter Tryz.func51,Tryz.ntmps51
 go_upto_region 5 with fail
 go_region_law (refine step_append_room rfl (.tmp 22) (.tmp 25) 27 rfl 37 i0 4 Tryz.underlying27 hi0 hz1 g 0 i c (by simp[Act.eval,Act.put]) A (n-j) (c-j) news (by simp[Act.eval,Act.put]) s1.out hsrc.out s2.out hroom s3.out ?_;rw[← hW.out])
 go_upto_region 6 with fail
 rw[← HK.out]
 go_wp2_with fail
 go_ret
 exact⟨by rw[← HKI.out];rfl,HR.out,HO.out⟩
end
section
open Go.RowKit Go.BigFrame
attribute [local go_sem ↓] eqPt neqPt
theorem hhf:Tryz.prog.stoodInHeld 33=false:=by kernel_rfl
theorem eqHfS(x y z u x' y' z' u' : Int)(d:Nat)(w:World):(Op.equalIn (d+1+1) 33 (.agg #[.int .i64 x,.int .i64 y,.int .i64 z,.int .i64 u]) (.agg #[.int .i64 x',.int .i64 y',.int .i64 z',.int .i64 u'])).run Tryz.prog w=.ok (x == x' && (y == y' && (z == z' && u == u'))) w:=by
 rw[run_equalIn_struct (P:=Tryz.prog) w (d+1) 33 _ _ (by simp[Program.fieldsOf,Tryz.underlying33]) hhf]
 simp only[Program.fieldsOf,Tryz.underlying33]
 have h1:=run_equalIn_int (P:=Tryz.prog) w d 3 .i64 .i64 x x' Tryz.underlying3
 have h2:=run_equalIn_int (P:=Tryz.prog) w d 3 .i64 .i64 y y' Tryz.underlying3
 have h3:=run_equalIn_int (P:=Tryz.prog) w d 3 .i64 .i64 z z' Tryz.underlying3
 have h4:=run_equalIn_int (P:=Tryz.prog) w d 3 .i64 .i64 u u' Tryz.underlying3
 cases e1:(x == x') <;> cases e2:(y == y') <;> cases e3:(z == z') <;> cases e4:(u == u') <;> simp[Op.eqFields,go_sem,h1,h2,h3,h4,e1,e2,e3,e4]
theorem neqHf(x y z u:Int)(w:World):(binOp .neq 33 (.agg #[.int .i64 x,.int .i64 y,.int .i64 z,.int .i64 u]) (.agg #[.int .i64 x,.int .i64 y,.int .i64 z,.int .i64 u])).run Tryz.prog w=.ok (.bool false) w:=by
 have h:(Op.equal 33 (.agg #[.int .i64 x,.int .i64 y,.int .i64 z,.int .i64 u]) (.agg #[.int .i64 x,.int .i64 y,.int .i64 z,.int .i64 u])).run Tryz.prog w=.ok (x == x && (y == y && (z == z && u == u))) w:=eqHfS x y z u x y z u 9998 w
 simp only[binOp]
 simp[h]
attribute [local go_sem ↓] neqHf
set_option maxRecDepth 100000 in
set_option maxHeartbeats 4000000 in
theorem EqualHf_same(v v' : Value)(l:List Hf)(w:World)(hl:l.length≤1000000000000000)(hv:HvsS w v l)(hv' : HvsS w v' l) :
  Calls Tryz.prog 48 #[v,v'] w fun e w' => e=.returned (.bool true)∧Since w w' := by
 obtain⟨a,c,rfl,hc⟩:=hv
 obtain⟨a',c',rfl,hc'⟩:=hv'
 have HV:=Lib.hid hc
 have HV' := Lib.hid hc'
 obtain⟨n,HN⟩:∃ n,Hid (n=l.length):=⟨_,rfl⟩
 rw[← HN.out] at hl ⊢
 clear hc hc'
 go_enter Tryz.func48,Tryz.ntmps48
 go_wp2_with fail
 go_loopw [13] (fun v wr=>∃ k:Nat,k≤n∧v=.int .i64 k∧Hid (Since w wr)) (fun v _=>n-(intOf v).toNat)
 case atStart=>exact⟨0,Nat.zero_le _,rfl,Since.rfl_ w⟩
 case round =>
  obtain⟨k,hk,rfl,HS⟩:=hrel
  rcases Nat.lt_or_ge k n with hlt | hge
  ·obtain⟨g,o,rfl,c0,c1,c2,c3⟩:=HV.out k (by rw[← HN.out];exact hlt)
   obtain⟨g',o',rfl,d0,d1,d2,d3⟩:=HV'.out k (by rw[← HN.out];exact hlt)
   obtain⟨x,hx⟩:∃ x,Hid (x=hAt l k):=⟨_,rfl⟩
   rw[← hx.out] at c0 c1 c2 c3 d0 d1 d2 d3
   obtain⟨x0,x1,x2,x3⟩:=x
   replace c0:=keepC HS.out _ _ c0
   replace c1:=keepC HS.out _ _ c1
   replace c2:=keepC HS.out _ _ c2
   replace c3:=keepC HS.out _ _ c3
   replace d0:=keepC HS.out _ _ d0
   replace d1:=keepC HS.out _ _ d1
   replace d2:=keepC HS.out _ _ d2
   replace d3:=keepC HS.out _ _ d3
   dsimp only at c0 c1 c2 c3 d0 d1 d2 d3
   have i1:(0:Int)≤(k:Int):=by omega
   have i2:(k:Int)<(n:Int):=by omega
   go_upto_region 6 with fail
   refine region_cls (fun w' => w'.cell? ⟨g,o+k*4,none⟩=some (.int .i64 x0)∧w'.cell? ⟨g,o+k*4+1,none⟩=some (.int .i64 x1)∧w'.cell? ⟨g,o+k*4+2,none⟩=some (.int .i64 x2)∧w'.cell? ⟨g,o+k*4+3,none⟩=some (.int .i64 x3)∧w'.cell? ⟨g',o' + k*4,none⟩=some (.int .i64 x0)∧w'.cell? ⟨g',o' + k*4+1,none⟩=some (.int .i64 x1)∧w'.cell? ⟨g',o' + k*4+2,none⟩=some (.int .i64 x2)∧w'.cell? ⟨g',o' + k*4+3,none⟩=some (.int .i64 x3)∧Since wr w') (by kernel_rfl) (by kernel_rfl) (by(repeat' refine And.intro ?_ ?_) <;> first | (simp (maxDischargeDepth:=9) [c0,c1,c2,c3,d0,d1,d2,d3,  cSetS,cSetO,cellNew,World.cell?_alloc_some,cellDrew];done) | (repeat (first | with_reducible assumption | with_reducible exact Since.rfl_ _ | refine Since.setCell ?_ (by(try dsimp only);omega) _ | refine Since.alloc ?_ _ | refine Since.drew ?_))) ?_
   repeat (go_big_quiet_step ((first | (intro hC;have hC:=hC.out;(try simp only[hC,Result.andThen]);first | exact⟨True.intro,rfl⟩ | exact⟨rfl,rfl⟩ | rfl))))
   refine cls_end ?_
   clear c0 c1 c2 c3 d0 d1 d2 d3
   rintro w1 ⟨-,-,-,-,-,-,-,-,hs⟩
   have HS1:=Lib.hid (HS.out.trans hs)
   clear hs HS
   go_wp2_with fail
   go_roundw
   case rel=>exact⟨k+1,by omega,by go_num,HS1⟩
   case measure=>simp[intOf];omega
  ·obtain rfl:n=k:=by omega
   go_wp2_with fail
   go_ret
   exact⟨rfl,HS.out⟩
set_option maxRecDepth 100000 in
set_option maxHeartbeats 4000000 in
theorem EqualI_same(v v' : Value)(l:List Int)(w:World)(hl:l.length≤1000000000000000)(hv:IntS w v l)(hv' : IntS w v' l) :
  Calls Tryz.prog 49 #[v,v'] w fun e w' => e=.returned (.bool true)∧Since w w' := by
 obtain⟨a,c,rfl,hc⟩:=hv
 obtain⟨a',c',rfl,hc'⟩:=hv'
 have HV:=Lib.hid hc
 have HV' := Lib.hid hc'
 obtain⟨n,HN⟩:∃ n,Hid (n=l.length):=⟨_,rfl⟩
 rw[← HN.out] at hl ⊢
 clear hc hc'
 go_enter Tryz.func49,Tryz.ntmps49
 go_wp2_with fail
 go_loopw [13] (fun v wr=>∃ k:Nat,k≤n∧v=.int .i64 k∧Hid (Since w wr)) (fun v _=>n-(intOf v).toNat)
 case atStart=>exact⟨0,Nat.zero_le _,rfl,Since.rfl_ w⟩
 case round =>
  obtain⟨k,hk,rfl,HS⟩:=hrel
  rcases Nat.lt_or_ge k n with hlt | hge
  ·obtain⟨g,o,rfl,c0⟩:=HV.out k (by rw[← HN.out];exact hlt)
   obtain⟨g',o',rfl,d0⟩:=HV'.out k (by rw[← HN.out];exact hlt)
   obtain⟨x,hx⟩:∃ x,Hid (x=iAt l k):=⟨_,rfl⟩
   rw[← hx.out] at c0 d0
   replace c0:=keepC HS.out _ _ c0
   replace d0:=keepC HS.out _ _ d0
   have i1:(0:Int)≤(k:Int):=by omega
   have i2:(k:Int)<(n:Int):=by omega
   have hxx:(x != x)=false:=by simp
   go_upto_region 6 with fail
   refine region_cls (fun w' => w'.cell? ⟨g,o+k,none⟩=some (.int .i64 x)∧w'.cell? ⟨g',o' + k,none⟩=some (.int .i64 x)∧Since wr w') (by kernel_rfl) (by kernel_rfl) (by(repeat' refine And.intro ?_ ?_) <;> first | (simp (maxDischargeDepth:=9) [c0,d0,  cSetS,cSetO,cellNew,World.cell?_alloc_some,cellDrew];done) | (repeat (first | with_reducible assumption | with_reducible exact Since.rfl_ _ | refine Since.setCell ?_ (by(try dsimp only);omega) _ | refine Since.alloc ?_ _ | refine Since.drew ?_))) ?_
   repeat (go_big_quiet_step ((first | (intro hC;have hC:=hC.out;(try simp only[hC,Result.andThen]);first | exact⟨True.intro,rfl⟩ | exact⟨rfl,rfl⟩ | rfl))))
   refine cls_end ?_
   clear c0 d0
   rintro w1 ⟨-,-,hs⟩
   have HS1:=Lib.hid (HS.out.trans hs)
   clear hs HS
   go_wp2_with fail
   go_roundw
   case rel=>exact⟨k+1,by omega,by go_num,HS1⟩
   case measure=>simp[intOf];omega
  ·obtain rfl:n=k:=by omega
   go_wp2_with fail
   go_ret
   exact⟨rfl,HS.out⟩
set_option maxRecDepth 100000 in
set_option maxHeartbeats 4000000 in
theorem Same_any(vP vH vF vP' vH' vF' : Value)(P:List Pt2)(H:List Hf)(F:List Int)(w:World)(hP:P.length≤1000000000000000)(hH:H.length≤1000000000000000)(hF:F.length≤1000000000000000)(hm:MapR w vP vH vF P H F)(hm' : MapR w vP' vH' vF' P H F) :
  Calls Tryz.prog 25 #[.agg #[vP,vH,vF],.agg #[vP',vH',vF']] w fun e w' => e=.returned (.bool true)∧Since w w' := by
 have E1:Hid (∀ w',Since w w' → Calls Tryz.prog 47 #[vP,vP'] w' fun e w2=>e=.returned (.bool true)∧Since w' w2):=fun w' k=>by
  have:=Equal_any vP vP' P P w' hP hP (hm.p.keep (keepC k)) (hm'.p.keep (keepC k))
  rwa[decide_eq_true rfl] at this
 have E2:Hid (∀ w',Since w w' → Calls Tryz.prog 48 #[vH,vH'] w' fun e w2=>e=.returned (.bool true)∧Since w' w2):=fun w' k=>EqualHf_same vH vH' H w' hH (hm.h.since k) (hm'.h.since k)
 have E3:Hid (∀ w',Since w w' → Calls Tryz.prog 49 #[vF,vF'] w' fun e w2=>e=.returned (.bool true)∧Since w' w2):=fun w' k=>EqualI_same vF vF' F w' hF (hm.f.since k) (hm'.f.since k)
 clear hm hm' hP hH hF
 go_enter Tryz.func25,Tryz.ntmps25
 go_upto_region 1 with fail
 obtain⟨B,HB⟩:∃ B,Hid (B=w.heap.size):=⟨_,rfl⟩
 rw[← HB.out]
 refine atW (fun w' => Hid (Since w w')∧Hid (Blk w' B 26 #[vP,vH,vF])∧Hid (Blk w' (B+1) 26 #[vP',vH',vF'])) ⟨((Since.rfl_ w).alloc _).alloc _,(Blk.new' HB.out).alloc _,Blk.new' (by rw[World.size_alloc,HB.out])⟩ ?_
 rintro w1 ⟨HS1,HB1,HC1⟩
 have m0:w1.cell? ⟨B,0,none⟩=some vP:=HB1.out.cell 0
 have m1:w1.cell? ⟨B+1,0,none⟩=some vP' := HC1.out.cell 0
 go_wp2_with fail
 clear m0 m1
 refine(E1.out _ HS1.out).mono ?_
 rintro e w2 ⟨rfl,hs⟩
 have HS2:Hid (Since w w2):=HS1.out.trans hs
 have m0:w2.cell? ⟨B,1,none⟩=some vH:=(hs.blk HB1.out).cell 1
 have m1:w2.cell? ⟨B+1,1,none⟩=some vH' := (hs.blk HC1.out).cell 1
 have HB2:=Lib.hid (hs.blk HB1.out)
 have HC2:=Lib.hid (hs.blk HC1.out)
 clear hs HS1 HB1 HC1
 go_wp2_with fail
 clear m0 m1
 refine(E2.out _ HS2.out).mono ?_
 rintro e w3 ⟨rfl,hs⟩
 have HS3:Hid (Since w w3):=HS2.out.trans hs
 have m0:w3.cell? ⟨B,2,none⟩=some vF:=(hs.blk HB2.out).cell 2
 have m1:w3.cell? ⟨B+1,2,none⟩=some vF' := (hs.blk HC2.out).cell 2
 clear hs HS2 HB2 HC2
 go_wp2_with fail
 clear m0 m1
 refine(E3.out _ HS3.out).mono ?_
 rintro e w4 ⟨rfl,hs⟩
 have HS4:Hid (Since w w4):=HS3.out.trans hs
 clear hs HS3
 go_wp2_with fail
 go_ret
 exact⟨rfl,HS4.out⟩
end
section
open Go.RowKit Go.BigFrame
attribute [local go_sem ↓] eqPt neqPt
theorem BldR.hlen{E:List Sg}{P:List Pt2}{H:List Hf}{F:List Int}(h:BldR E P H F):H.length=2*E.length:=by
 obtain⟨O,C,I,T,-,-,-,-,hH,-⟩:=h
 rw[hH,mkH_len]
theorem BldR.fr{E:List Sg}{P:List Pt2}{H:List Hf}{F:List Int}(h:BldR E P H F){i:Nat}(hi:i<2*E.length):(hAt H i).1=(frH E P i:Int)∧frH E P i<P.length∧pAt P (frH E P i)=endH E i:=by
 obtain⟨O,C,I,T,hP,-,-,-,hH,-⟩:=h
 have hm:endH E i∈P:=by rw[hP];exact end_pts rfl i hi
 refine⟨?_,idP_at hm⟩
 rw[hH,mkH_at hi]
theorem BldR.lin{E:List Sg}{P:List Pt2}{H:List Hf}{F:List Int}(h:BldR E P H F):H.length/2=E.length∧(∀ i,i<H.length/2→linB P H i)∧linK P H (H.length/2)=E:=by
 have hl:H.length/2=E.length:=by rw[h.hlen];omega
 have key:∀ i,i<E.length→linB P H i∧linV P H i=sgAt E i:=fun i hi=>by
  obtain⟨a1,a2,a3⟩:=h.fr (i:=2*i) (by omega)
  obtain⟨b1,b2,b3⟩:=h.fr (i:=2*i+1) (by omega)
  refine⟨⟨⟨by omega,by omega⟩,⟨by omega,by omega⟩⟩,?_⟩
  unfold linV
  rw[a1,b1,Int.toNat_natCast,Int.toNat_natCast,a3,b3]
  unfold endH
  rw[if_pos (by omega),if_neg (by omega),show 2*i/2=i by omega,show(2*i+1)/2=i by omega]
 refine⟨hl,fun i hi=>(key i (by omega)).1,?_⟩
 rw[hl]
 refine List.ext_getElem (linK_len _ _ _) fun i h1 h2=>?_
 have e:sgAt E i=E[i]:=by simp[sgAt,List.getD,h2]
 rw[← e,← (key i h2).2]
 simp[linK]
theorem fac1_le(I T:List Int):∀ m,(fac1 I T m).2.length≤m+1
 | 0=>by simp[fac1]
 | m+1=>by
  have:=fac1_le I T m
  rw[fac1_succ]
  split
  ·simp;omega
  ·omega
theorem hullS_nil:hullS []=[]:=by unfold hullS srtL;simp[cmpL]
theorem BldR.bds{E:List Sg}{P:List Pt2}{H:List Hf}{F:List Int}(hE:RndOk E)(hl:E.length≤3000)(h:BldR E P H F):P.length≤1000000000000000∧H.length≤1000000∧F.length≤1000000000000000:=by
 have h1:=h.hlen
 obtain⟨O,C,I,T,hP,hOl,hO,hC,hH,hF⟩:=h
 refine⟨?_,by omega,?_⟩
 ·rcases Nat.eq_zero_or_pos E.length with e0 | hpos
  ·have:P=[]:=by rw[hP,List.eq_nil_of_length_eq_zero e0];exact hullS_nil
   rw[this];simp
  ·have K:Net (2*E.length) P.length P (frH E P) (rowO O):=net_begin hE rfl (by omega) hpos hP rfl hO
   have:=K.vle
   have:=K.le
   omega
 ·rw[hF,fac3_len]
  have:=fac1_le I T I.length
  have:=hC.le
  omega
set_option maxRecDepth 100000 in
theorem Lines_nil(vP vH vF:Value)(P:List Pt2)(F:List Int)(w:World)(hm:MapR w vP vH vF P [] F) :
  Calls Tryz.prog 15 #[.agg #[vP,vH,vF]] w fun e w' => e=.returned (.tuple #[.slice none 0 0,.int .i64 0])∧Since w w' := by
 obtain⟨aH,cH,hvH,-⟩:=hm.h
 subst hvH
 clear hm
 obtain⟨B,HB⟩:∃ B,Hid (B=w.heap.size):=⟨_,rfl⟩
 go_enter Tryz.func15,Tryz.ntmps15
 go_upto_region 1 with fail
 rw[← HB.out]
 refine atW (fun w' => Hid (Since w w')∧Hid (Blk w' B 26 #[vP,.slice aH 0 cH,vF])) ⟨(Since.rfl_ w).alloc _,Blk.new' HB.out⟩ ?_
 rintro w1 ⟨HS1,HB1⟩
 have m1:w1.cell? ⟨B,1,none⟩=some (.slice aH 0 cH):=HB1.out.cell 1
 go_wp2_with fail
 go_loopw [4,5] (fun v4 v5 wr=>v4=.slice none 0 0∧v5=.int .i64 0∧Hid (Since w wr)∧Hid (Blk wr B 26 #[vP,.slice aH 0 cH,vF])) (fun _ _ _=>0)
 case atStart=>exact⟨rfl,by go_num,HS1,HB1⟩
 case round =>
  obtain⟨rfl,rfl,HS,HBM⟩:=hrel
  clear m1
  have m1:wr.cell? ⟨B,1,none⟩=some (.slice aH 0 cH):=HBM.out.cell 1
  go_wp2_with fail
  go_ret2
  exact⟨rfl,HS.out⟩
theorem LinesB_any(vP vH vF:Value)(E:List Sg)(P:List Pt2)(H:List Hf)(F:List Int)(w:World)(hm:MapR w vP vH vF P H F)(hE:RndOk E)(hl:E.length≤3000)(hb:BldR E P H F) :
  Calls Tryz.prog 15 #[.agg #[vP,vH,vF]] w fun e w' => ∃ x,e=.returned (.tuple #[x,.int .i64 0])∧SegsN w' x E∧Since w w' := by
 obtain⟨b1,b2,b3⟩:=hb.bds hE hl
 obtain⟨q1,q2,q3⟩:=hb.lin
 rcases Nat.eq_zero_or_pos E.length with e0 | hpos
 ·have eE:E=[]:=List.eq_nil_of_length_eq_zero e0
  have eH:H=[]:=List.eq_nil_of_length_eq_zero (by rw[hb.hlen,e0])
  subst eE eH
  exact(Lines_nil vP vH vF P F w hm).mono fun e w2 ⟨h1,h2⟩=>⟨_,h1,⟨fun _=>rfl,fun h=>absurd rfl h⟩,h2⟩
 ·refine(Lines_any vP vH vF P H F w hm (by omega) b1).mono ?_
  rintro e w2 ⟨⟨-,x,rfl,ho⟩ | ⟨hn,-⟩,hs⟩
  ·refine⟨x,rfl,own_segsN (by rw[q3,q1] at ho;exact ho) (fun h=>?_),hs⟩
   rw[h] at hpos;cases hpos
  ·exact absurd q2 hn
set_option maxRecDepth 100000 in
set_option maxHeartbeats 4000000 in
theorem Check_any(vP vH vF:Value)(E:List Sg)(P:List Pt2)(H:List Hf)(F:List Int)(w:World)(hm:MapR w vP vH vF P H F)(hE:RndOk E)(hl:E.length≤3000)(hb:BldR E P H F) :
  Calls Tryz.prog 17 #[.agg #[vP,vH,vF]] w fun e w' => e=.returned (.int .i64 0)∧Since w w' := by
 obtain⟨b1,b2,b3⟩:=hb.bds hE hl
 have HL:Hid (∀ w',Since w w' → Calls Tryz.prog 15 #[.agg #[vP,vH,vF]] w' fun e w2=>∃ x,e=.returned (.tuple #[x,.int .i64 0])∧SegsN w2 x E∧Since w' w2):=fun w' k=>LinesB_any vP vH vF E P H F w' (hm.since k) hE hl hb
 have HBD:Hid (∀ x w',SegsN w' x E→Calls Tryz.prog 40 #[x] w' fun e w2=>∃ vP' vH' vF',e=.returned (.tuple #[.agg #[vP',vH',vF'],.int .i64 0])∧Since w' w2∧MapR w2 vP' vH' vF' P H F):=fun x w' hx=>by
  refine(Build_any x E w' hx hE (by omega)).mono ?_
  rintro e w2 ⟨vP',vH',vF',P',H',F',rfl,hs,hms,hb'⟩
  obtain⟨rfl,rfl,rfl⟩:=BldR.uniq hE (by omega) hb hb'
  exact⟨_,_,_,rfl,hs,hms.read⟩
 have HSM:Hid (∀ vP' vH' vF' w',Since w w' → MapR w' vP' vH' vF' P H F→Calls Tryz.prog 25 #[.agg #[vP,vH,vF],.agg #[vP',vH',vF']] w' fun e w2=>e=.returned (.bool true)∧Since w' w2):=fun vP' vH' vF' w' k h' =>
  Same_any vP vH vF vP' vH' vF' P H F w' b1 (by omega) b3 (hm.since k) h'
 clear hm hb b1 b2 b3 hE hl
 obtain⟨B,HB⟩:∃ B,Hid (B=w.heap.size):=⟨_,rfl⟩
 go_enter Tryz.func17,Tryz.ntmps17
 go_upto_region 1 with fail
 rw[← HB.out]
 refine atW (fun w' => Hid (Since w w')∧Hid (Blk w' B 26 #[vP,vH,vF])) ⟨(Since.rfl_ w).alloc _,Blk.new' HB.out⟩ ?_
 rintro w1 ⟨HS1,HB1⟩
 have m0:w1.cell? ⟨B,0,none⟩=some vP:=HB1.out.cell 0
 have m1:w1.cell? ⟨B,1,none⟩=some vH:=HB1.out.cell 1
 have m2:w1.cell? ⟨B,2,none⟩=some vF:=HB1.out.cell 2
 go_wp2_with fail
 clear m0 m1 m2
 refine(HL.out _ HS1.out).mono ?_
 rintro e w2 ⟨x,rfl,hx,hs⟩
 have HS2:Hid (Since w w2):=HS1.out.trans hs
 have HB2:=Lib.hid (hs.blk HB1.out)
 have HX2:=Lib.hid hx
 clear hs hx HS1 HB1
 go_wp2_with fail
 refine(HBD.out _ _ HX2.out).mono ?_
 rintro e w3 ⟨vP',vH',vF',rfl,hs,hm'⟩
 have HS3:Hid (Since w w3):=HS2.out.trans hs
 have HB3:=Lib.hid (hs.blk HB2.out)
 have HM3:=Lib.hid hm'
 obtain⟨⟨aP,cP,rfl,-⟩,⟨aH,cH,rfl,-⟩,⟨aF,cF,rfl,-⟩⟩:=hm'
 clear hs HS2 HB2 HX2
 go_upto_region 5 with fail
 obtain⟨B3,HB4⟩:∃ B,Hid (B=w3.heap.size):=⟨_,rfl⟩
 rw[← HB4.out]
 refine atW (fun w' => Hid (Since w w')∧Hid (Blk w' B 26 #[vP,vH,vF])∧Hid (Blk w' B3 26 #[(.slice aP P.length cP),(.slice aH H.length cH),(.slice aF F.length cF)])∧Hid (MapR w' (.slice aP P.length cP) (.slice aH H.length cH) (.slice aF F.length cF) P H F)) ⟨HS3.out.alloc _,HB3.out.alloc _,Blk.new' HB4.out,HM3.out.since ((Since.rfl_ w3).alloc _)⟩ ?_
 clear HS3 HB3 HM3
 rintro w4 ⟨HS4,HB4',HC4,HM4⟩
 have m0:w4.cell? ⟨B,0,none⟩=some vP:=HB4'.out.cell 0
 have m1:w4.cell? ⟨B,1,none⟩=some vH:=HB4'.out.cell 1
 have m2:w4.cell? ⟨B,2,none⟩=some vF:=HB4'.out.cell 2
 have n0:w4.cell? ⟨B3,0,none⟩=some (.slice aP P.length cP):=HC4.out.cell 0
 have n1:w4.cell? ⟨B3,1,none⟩=some (.slice aH H.length cH):=HC4.out.cell 1
 have n2:w4.cell? ⟨B3,2,none⟩=some (.slice aF F.length cF):=HC4.out.cell 2
 go_wp2_with fail
 clear m0 m1 m2 n0 n1 n2
 refine(HSM.out _ _ _ _ HS4.out HM4.out).mono ?_
 rintro e w5 ⟨rfl,hs⟩
 have HS5:Hid (Since w w5):=HS4.out.trans hs
 clear hs HS4 HB4' HC4 HM4
 go_wp2_with fail
 go_ret
 exact⟨rfl,HS5.out⟩
end
section
open Go.RowKit Go.BigFrame
attribute [local go_sem ↓] eqPt neqPt
theorem LinesO_any(vP vH vF:Value)(E:List Sg)(P:List Pt2)(H:List Hf)(F:List Int)(w:World)(hm:MapR w vP vH vF P H F)(hE:RndOk E)(hl:E.length≤3000)(hb:BldR E P H F) :
  Calls Tryz.prog 15 #[.agg #[vP,vH,vF]] w fun e w' => ∃ x,e=.returned (.tuple #[x,.int .i64 0])∧w'.ownsRow w.heap.size 37 4 x E.length (E.flatMap sgV)∧Since w w' := by
 obtain⟨b1,b2,b3⟩:=hb.bds hE hl
 obtain⟨q1,q2,q3⟩:=hb.lin
 rcases Nat.eq_zero_or_pos E.length with e0 | hpos
 ·have eE:E=[]:=List.eq_nil_of_length_eq_zero e0
  have eH:H=[]:=List.eq_nil_of_length_eq_zero (by rw[hb.hlen,e0])
  subst eE eH
  exact(Lines_nil vP vH vF P F w hm).mono fun e w2 ⟨h1,h2⟩=>⟨_,h1,World.ownsRow_nil _ _ _ _,h2⟩
 ·refine(Lines_any vP vH vF P H F w hm (by omega) b1).mono ?_
  rintro e w2 ⟨⟨-,x,rfl,ho⟩ | ⟨hn,-⟩,hs⟩
  ·exact⟨x,rfl,by rw[q3,q1] at ho;exact ho,hs⟩
  ·exact absurd q2 hn
set_option maxRecDepth 100000 in
theorem TLines_any(vP vH vF:Value)(E:List Sg)(P:List Pt2)(H:List Hf)(F:List Int)(w:World)(hm:MapR w vP vH vF P H F)(hE:RndOk E)(hl:E.length≤3000)(hb:BldR E P H F) :
  Calls Tryz.prog 44 #[.agg #[vP,vH,vF]] w fun e w' => ∃ x,e=.returned (.tuple #[x,.int .i64 0])∧w'.ownsRow w.heap.size 37 4 x E.length (E.flatMap sgV)∧Since w w' := by
 have HCK:=Lib.hid (fun w' (k:Since w w')=>Check_any vP vH vF E P H F w' (hm.since k) hE hl hb)
 have HLN:=Lib.hid (fun w' (k:Since w w')=>LinesO_any vP vH vF E P H F w' (hm.since k) hE hl hb)
 obtain⟨aP,cP,hvP,-⟩:=hm.p
 obtain⟨aH,cH,hvH,-⟩:=hm.h
 obtain⟨aF,cF,hvF,-⟩:=hm.f
 subst hvP hvH hvF
 clear hm hb hE
 obtain⟨nP,HNP⟩:∃ n,Hid (n=P.length):=⟨_,rfl⟩
 obtain⟨nH,HNH⟩:∃ n,Hid (n=H.length):=⟨_,rfl⟩
 obtain⟨nF,HNF⟩:∃ n,Hid (n=F.length):=⟨_,rfl⟩
 rw[← HNP.out,← HNH.out,← HNF.out] at HCK HLN ⊢
 obtain⟨B,HB⟩:∃ B,Hid (B=w.heap.size):=⟨_,rfl⟩
 go_enter Tryz.func44,Tryz.ntmps44
 go_upto_region 1 with fail
 rw[← HB.out]
 refine atW (fun w' => Hid (Since w w' ∧ Blk w' B 26 #[.slice aP nP cP,.slice aH nH cH,.slice aF nF cF])) ⟨(Since.rfl_ w).alloc _,Blk.new' HB.out⟩ ?_
 rintro w1 HW1
 have m0:w1.cell? ⟨B,0,none⟩=some (.slice aP nP cP):=HW1.out.2.cell 0
 have m1:w1.cell? ⟨B,1,none⟩=some (.slice aH nH cH):=HW1.out.2.cell 1
 have m2:w1.cell? ⟨B,2,none⟩=some (.slice aF nF cF):=HW1.out.2.cell 2
 go_wp2_with fail
 clear m0 m1 m2
 refine(HCK.out _ HW1.out.1).mono ?_
 rintro e w2 ⟨rfl,hs⟩
 have HW2:=Lib.hid (And.intro (HW1.out.1.trans hs) (hs.blk HW1.out.2))
 have m0:w2.cell? ⟨B,0,none⟩=some (.slice aP nP cP):=HW2.out.2.cell 0
 have m1:w2.cell? ⟨B,1,none⟩=some (.slice aH nH cH):=HW2.out.2.cell 1
 have m2:w2.cell? ⟨B,2,none⟩=some (.slice aF nF cF):=HW2.out.2.cell 2
 clear hs HW1
 go_wp2_with fail
 clear m0 m1 m2
 refine(HLN.out _ HW2.out.1).mono ?_
 rintro e w3 ⟨x,rfl,ho,hs⟩
 have HS3:=Lib.hid (HW2.out.1.trans hs)
 have HO3:=Lib.hid (ho.mono HW2.out.1.size)
 obtain⟨ax,cx,hvx⟩:=own_slice ho
 subst hvx
 clear hs ho
 go_wp2_with fail
 go_ret2
 exact⟨_,rfl,HO3.out,HS3.out⟩
def TbR(b:Nat)(L:List Sg)(w' : World)(e:Ending):Prop:=(RndOk (tbL L)∧∃ vP vH vF P H F,e=.returned (.tuple #[.agg #[vP,vH,vF],.int .i64 0])∧MapS w' b vP vH vF P H F∧BldR (tbL L) P H F)∨(¬ RndOk (tbL L)∧e=.returned (.tuple #[.agg #[nilV,nilV,nilV],.int .i64 10]))
def AddW(w w' : World)(B:Nat)(m:Array Value)(p q:Pt2):Prop:=Since w w' ∧ Blk w' B 26 m∧Blk w' (B+1) 36 #[.int .i64 p.1,.int .i64 p.2]∧Blk w' (B+1+1) 36 #[.int .i64 q.1,.int .i64 q.2]∧Blk w' (B+1+1+1) 26 #[nilV,nilV,nilV]
theorem AddW.since{w a b:World}{B:Nat}{m:Array Value}{p q:Pt2}(h:AddW w a B m p q)(k:Since a b):AddW w b B m p q:=⟨h.1.trans k,k.blk h.2.1,k.blk h.2.2.1,k.blk h.2.2.2.1,k.blk h.2.2.2.2⟩
theorem MapR.vals{w:World}{vP vH vF:Value}{P:List Pt2}{H:List Hf}{F:List Int}(h:MapR w vP vH vF P H F):(∃ a c,vP=.slice a P.length c)∧(∃ a c,vH=.slice a H.length c)∧(∃ a c,vF=.slice a F.length c):=by
 obtain⟨aP,cP,hvP,-⟩:=h.p
 obtain⟨aH,cH,hvH,-⟩:=h.h
 obtain⟨aF,cF,hvF,-⟩:=h.f
 exact⟨⟨_,_,hvP⟩,⟨_,_,hvH⟩,⟨_,_,hvF⟩⟩
set_option maxRecDepth 100000 in
set_option maxHeartbeats 4000000 in
theorem TAdd_any(vP vH vF:Value)(E:List Sg)(P:List Pt2)(H:List Hf)(F:List Int)(p q:Pt2)(w:World)(hm:MapR w vP vH vF P H F)(hE:RndOk E)(hl:E.length≤2999)(hb:BldR E P H F)(hp:okP p.1 p.2=true)(hq:okP q.1 q.2=true) :
  Calls Tryz.prog 27 #[.agg #[vP,vH,vF],.agg #[.int .i64 p.1,.int .i64 p.2],.agg #[.int .i64 q.1,.int .i64 q.2]] w fun e w' => ((p=q∧e=.returned (.tuple #[.agg #[nilV,nilV,nilV],.int .i64 3]))∨(p≠q∧TbR w.heap.size (E++[(p,q)]) w' e))∧Since w w' := by
 obtain⟨i0,hi0,hz0,hz1,hz3⟩:=info_parts infoSg
 have HI:=Lib.hid (And.intro hi0 (And.intro hz0 (And.intro hz1 hz3)))
 have HLN:=Lib.hid (fun w' (k:Since w w')=>TLines_any vP vH vF E P H F w' (hm.since k) hE (by omega) hb)
 have HE:=Lib.hid hE.ok
 have HP:=Lib.hid hp
 have HQ:=Lib.hid hq
 obtain⟨⟨aP,cP,hvP⟩,⟨aH,cH,hvH⟩,⟨aF,cF,hvF⟩⟩:=hm.vals
 subst hvP hvH hvF
 clear hm hb hE hp hq hi0 hz0 hz1 hz3
 obtain⟨nP,HNP⟩:∃ n,Hid (n=P.length):=⟨_,rfl⟩
 obtain⟨nH,HNH⟩:∃ n,Hid (n=H.length):=⟨_,rfl⟩
 obtain⟨nF,HNF⟩:∃ n,Hid (n=F.length):=⟨_,rfl⟩
 obtain⟨n,HN⟩:∃ n,Hid (n=E.length):=⟨_,rfl⟩
 rw[← HN.out] at hl
 rw[← HNP.out,← HNH.out,← HNF.out] at HLN ⊢
 rw[← HN.out] at HLN
 obtain⟨B,HB⟩:∃ B,Hid (B=w.heap.size):=⟨_,rfl⟩
 go_enter Tryz.func27,Tryz.ntmps27
 go_upto_region 1 with fail
 rw[← HB.out]
 refine atW (fun w' => Hid (AddW w w' B #[.slice aP nP cP,.slice aH nH cH,.slice aF nF cF] p q)) ⟨(((Since.rfl_ w).alloc _).alloc _).alloc _ |>.alloc _,(((Blk.new' HB.out).alloc _).alloc _).alloc _,((Blk.new' (by simp[HB.out])).alloc _).alloc _,(Blk.new' (by simp[HB.out])).alloc _,Blk.new' (by simp[HB.out])⟩ ?_
 rintro w1 HW1
 have m0:w1.cell? ⟨B,0,none⟩=some (.slice aP nP cP):=HW1.out.2.1.cell 0
 have m1:w1.cell? ⟨B,1,none⟩=some (.slice aH nH cH):=HW1.out.2.1.cell 1
 have m2:w1.cell? ⟨B,2,none⟩=some (.slice aF nF cF):=HW1.out.2.1.cell 2
 go_wp2_with fail
 clear m0 m1 m2
 refine(HLN.out _ HW1.out.1).mono ?_
 rintro e w2 ⟨x,rfl,ho,hs⟩
 obtain⟨ax,cx,hvx⟩:=own_slice ho
 subst hvx
 obtain⟨b,Hb⟩:∃ b,Hid (b=w1.heap.size):=⟨_,rfl⟩
 rw[← Hb.out] at ho
 have hBb:B+1+1+1<b:=by rw[Hb.out];exact HW1.out.2.2.2.2.lt
 have HO2:=Lib.hid ho
 have HW2:Hid (AddW w w2 B #[.slice aP nP cP,.slice aH nH cH,.slice aF nF cF] p q):=HW1.out.since hs
 have hsz2:b≤w2.heap.size:=by rw[Hb.out];exact hs.size
 clear hs ho HW1 HLN
 have p0:w2.cell? ⟨B+1,0,none⟩=some (.int .i64 p.1):=HW2.out.2.2.1.cell 0
 have p1:w2.cell? ⟨B+1,1,none⟩=some (.int .i64 p.2):=HW2.out.2.2.1.cell 1
 go_wp2_with fail
 refine(Ok_val HP.out _).mono ?_
 rintro e w3 ⟨rfl,hs⟩
 have HW3:Hid (AddW w w3 B #[.slice aP nP cP,.slice aH nH cH,.slice aF nF cF] p q):=HW2.out.since hs
 have HO3:=Lib.hid (own_since hs HO2.out)
 have hsz3:b≤w3.heap.size:=Nat.le_trans hsz2 hs.size
 clear hs HW2 HO2 p0 p1 hsz2
 have q0:w3.cell? ⟨B+1+1,0,none⟩=some (.int .i64 q.1):=HW3.out.2.2.2.1.cell 0
 have q1:w3.cell? ⟨B+1+1,1,none⟩=some (.int .i64 q.2):=HW3.out.2.2.2.1.cell 1
 go_wp2_with fail
 refine(Ok_val HQ.out _).mono ?_
 rintro e w4 ⟨rfl,hs⟩
 have HW4:Hid (AddW w w4 B #[.slice aP nP cP,.slice aH nH cH,.slice aF nF cF] p q):=HW3.out.since hs
 have HO4:=Lib.hid (own_since hs HO3.out)
 have hsz4:b≤w4.heap.size:=Nat.le_trans hsz3 hs.size
 clear hs HW3 HO3 q0 q1 hsz3
 have p0:w4.cell? ⟨B+1,0,none⟩=some (.int .i64 p.1):=HW4.out.2.2.1.cell 0
 have p1:w4.cell? ⟨B+1,1,none⟩=some (.int .i64 p.2):=HW4.out.2.2.1.cell 1
 have q0:w4.cell? ⟨B+1+1,0,none⟩=some (.int .i64 q.1):=HW4.out.2.2.2.1.cell 0
 have q1:w4.cell? ⟨B+1+1,1,none⟩=some (.int .i64 q.2):=HW4.out.2.2.2.1.cell 1
 have hBw:w.heap.size≤B+1+1+1:=by rw[HB.out];omega
 by_cases hpq:p=q
 ·have he:(p.1 == q.1 && p.2 == q.2)=true:=by rw[hpq];simp
  have HPQ:=Lib.hid hpq
  clear hpq
  go_upto_region 7 with fail
  have HBB:=Lib.hid HW4.out.2.2.2.2
  have b0:=HBB.out.cell 0
  have b1:=HBB.out.cell 1
  have b2:=HBB.out.cell 2
  have d0:=HBB.out.frozen 0
  have d1:=HBB.out.frozen 1
  have d2:=HBB.out.frozen 2
  simp only[List.getElem?_toArray,List.getElem?_cons_zero,List.getElem?_cons_succ] at b0 b1 b2
  have HSF:=Lib.hid (((HW4.out.1.setCell (p:=⟨B+1+1+1,0,none⟩) hBw nilV).setCell (p:=⟨B+1+1+1,1,none⟩) hBw nilV).setCell (p:=⟨B+1+1+1,2,none⟩) hBw nilV)
  clear HW4 HO4 HBB
  unfold nilV at b0 b1 b2 HSF
  go_wp2_with fail
  refine bodyPost_ret (v:=.tuple #[.agg #[.slice none 0 0,.slice none 0 0,.slice none 0 0],.int .i64 3]) (by simp[results,Tryz.results27,go_sem,cSetS,cSetO,cellDrew,b0,b1,b2,d0,d1,d2]) rfl ⟨.inl ⟨HPQ.out,rfl⟩,HSF.out⟩
 ·have he:(p.1 == q.1 && p.2 == q.2)=false:=by
   rw[Bool.eq_false_iff]
   intro k
   simp only[Bool.and_eq_true,beq_iff_eq] at k
   exact hpq (Prod.ext k.1 k.2)
  have HPQ:=Lib.hid hpq
  clear hpq
  go_upto_region 8 with fail
  go_wp2_with (at_builtin;refine wpList_append_own _ rfl _ _ 27 rfl b 37 i0 _ 4 32 Tryz.underlying27 HI.out.1 HI.out.2.1 HI.out.2.2.1 HI.out.2.2.2 rfl (by decide) _ _ _ rfl (own_since ((Since.rfl_ w4).alloc _) HO4.out) _ _ _ [.int .i64 p.1,.int .i64 p.2,.int .i64 q.1,.int .i64 q.2] rfl rfl (cell4_new _ _ _ _ _ _) (one4 _ _ _ _ _ _ _ _) (by unfold maxLen;omega) (by omega) (by simp only[World.size_alloc];omega) ?_;intro v' w5 hown hgrow _)
  have hown2:w5.ownsRow b 37 4 v' (n+1) ((E++[(p,q)]).flatMap sgV):=by
   rw[List.flatMap_append]
   simpa[sgV] using hown
  obtain⟨g,c,hv'⟩:=own_gc hown2 (Nat.succ_pos n)
  subst hv'
  have hne2:∀ ad,(Value.slice ax n cx).ownBlock=some ad→b≤ad:=fun ad e=>(HO4.out.lt ad e).1
  have HW5:Hid (AddW w w5 B #[.slice aP nP cP,.slice aH nH cH,.slice aF nF cF] p q):=⟨(HW4.out.1.alloc _).grown hgrow (by have:=HW4.out.1.size;rw[World.size_alloc];omega) fun k hk=>by have:=hne2 k hk;omega,
   (HW4.out.2.1.alloc _).grown hgrow (fun e=>by have:=hne2 _ e.symm;omega),(HW4.out.2.2.1.alloc _).grown hgrow (fun e=>by have:=hne2 _ e.symm;omega),(HW4.out.2.2.2.1.alloc _).grown hgrow (fun e=>by have:=hne2 _ e.symm;omega),(HW4.out.2.2.2.2.alloc _).grown hgrow (fun e=>by have:=hne2 _ e.symm;omega)⟩
  have hlen:(E++[(p,q)]).length=n+1:=by rw[List.length_append,HN.out];rfl
  have HTB:=Lib.hid (TBuild_any g 0 c (E++[(p,q)]) w5 (own_segs (by rw[hlen];exact hown2) (by omega)) (fun s hs=>by
   rcases List.mem_append.1 hs with h | h
   ·exact HE.out s h
   ·rw[List.mem_singleton.1 h];exact⟨HP.out,HQ.out,HPQ.out⟩) (by omega))
  rw[hlen] at HTB
  have hsz5:w.heap.size≤w5.heap.size:=HW5.out.1.size
  have hlt5:B+1+1+1<w5.heap.size:=HW5.out.2.2.2.2.lt
  clear hown hown2 hgrow hne2 hlen HO4 HW4 p0 p1 q0 q1
  refine(HTB.out).mono ?_
  rintro e w6 ⟨hr,hs⟩
  have HSS:=Lib.hid (HW5.out.1.trans hs)
  have HB6:=Lib.hid (hs.blk HW5.out.2.2.2.2)
  clear hs HW5 HTB
  rcases hr with⟨hr,vP',vH',vF',P',H',F',rfl,hm,hbl⟩ | ⟨hnr,rfl⟩
  ·obtain⟨aP',cP',hvP'⟩:∃ a c,vP' = .slice a P'.length c:=Rws.slice hm (i:=0) rfl
   obtain⟨aH',cH',hvH'⟩:∃ a c,vH' = .slice a H'.length c:=Rws.slice hm (i:=1) rfl
   obtain⟨aF',cF',hvF'⟩:∃ a c,vF' = .slice a F'.length c:=Rws.slice hm (i:=2) rfl
   subst hvP' hvH' hvF'
   have HBB:=Lib.hid HB6.out
   have b0:=HBB.out.cell 0
   have b1:=HBB.out.cell 1
   have b2:=HBB.out.cell 2
   have d0:=HBB.out.frozen 0
   have d1:=HBB.out.frozen 1
   have d2:=HBB.out.frozen 2
   simp only[List.getElem?_toArray,List.getElem?_cons_zero,List.getElem?_cons_succ] at b0 b1 b2
   have HSF:=Lib.hid (((HSS.out.setCell (p:=⟨B+1+1+1,0,none⟩) hBw (.slice aP' P'.length cP')).setCell (p:=⟨B+1+1+1,1,none⟩) hBw (.slice aH' H'.length cH')).setCell (p:=⟨B+1+1+1,2,none⟩) hBw (.slice aF' F'.length cF'))
   have HMF:Hid (MapS (((w6.setCell ⟨B+1+1+1,0,none⟩ (.slice aP' P'.length cP')).setCell ⟨B+1+1+1,1,none⟩ (.slice aH' H'.length cH')).setCell ⟨B+1+1+1,2,none⟩ (.slice aF' F'.length cF')) w5.heap.size (.slice aP' P'.length cP') (.slice aH' H'.length cH') (.slice aF' F'.length cF') P' H' F') :=
    (((Rws.low hm (p:=⟨B+1+1+1,0,none⟩) hlt5 _).low (p:=⟨B+1+1+1,1,none⟩) hlt5 _).low (p:=⟨B+1+1+1,2,none⟩) hlt5 _)
   have HBL:=Lib.hid (And.intro hr hbl)
   clear hm hbl hr HSS HBB HB6
   go_wp2_with fail
   refine bodyPost_ret (v:=.tuple #[.agg #[.slice aP' P'.length cP',.slice aH' H'.length cH',.slice aF' F'.length cF'],.int .i64 0]) (by simp[results,Tryz.results27,go_sem,cSetS,cSetO,cellDrew,b0,b1,b2,d0,d1,d2]) rfl ⟨.inr ⟨HPQ.out,.inl ⟨HBL.out.1,_,_,_,P',H',F',rfl,Rws.mono HMF.out hsz5,HBL.out.2⟩⟩,HSF.out⟩
  ·have HBB:=Lib.hid HB6.out
   have b0:=HBB.out.cell 0
   have b1:=HBB.out.cell 1
   have b2:=HBB.out.cell 2
   have d0:=HBB.out.frozen 0
   have d1:=HBB.out.frozen 1
   have d2:=HBB.out.frozen 2
   simp only[List.getElem?_toArray,List.getElem?_cons_zero,List.getElem?_cons_succ] at b0 b1 b2
   have HSF:=Lib.hid (((HSS.out.setCell (p:=⟨B+1+1+1,0,none⟩) hBw nilV).setCell (p:=⟨B+1+1+1,1,none⟩) hBw nilV).setCell (p:=⟨B+1+1+1,2,none⟩) hBw nilV)
   have HNR:=Lib.hid hnr
   clear hnr HSS HBB HB6
   unfold nilV at *
   go_wp2_with fail
   refine bodyPost_ret (v:=.tuple #[.agg #[.slice none 0 0,.slice none 0 0,.slice none 0 0],.int .i64 10]) (by simp[results,Tryz.results27,go_sem,cSetS,cSetO,cellDrew,b0,b1,b2,d0,d1,d2]) rfl ⟨.inr ⟨HPQ.out,.inr ⟨HNR.out,rfl⟩⟩,HSF.out⟩
end
section
open Go.RowKit Go.BigFrame
set_option maxRecDepth 100000 in
set_option maxHeartbeats 4000000 in
theorem TDrop_any(vP vH vF:Value)(E:List Sg)(P:List Pt2)(H:List Hf)(F:List Int)(h i:Nat)(w:World)(hm:MapR w vP vH vF P H F)(hE:RndOk E)(hl:E.length≤3000)(hb:BldR E P H F)(hi:h/2=i)(hin:i<E.length) :
  Calls Tryz.prog 30 #[.agg #[vP,vH,vF],.int .i64 h] w fun e w' => TbR w.heap.size (E.eraseIdx i) w' e∧Since w w' := by
 have HLN:=Lib.hid (fun w' (k:Since w w')=>TLines_any vP vH vF E P H F w' (hm.since k) hE hl hb)
 have HE:=Lib.hid hE.ok
 have hev:H.length=2*E.length:=hb.hlen
 obtain⟨⟨aP,cP,hvP⟩,⟨aH,cH,hvH⟩,⟨aF,cF,hvF⟩⟩:=hm.vals
 subst hvP hvH hvF
 clear hm hb hE
 obtain⟨nP,HNP⟩:∃ n,Hid (n=P.length):=⟨_,rfl⟩
 obtain⟨nH,HNH⟩:∃ n,Hid (n=H.length):=⟨_,rfl⟩
 obtain⟨nF,HNF⟩:∃ n,Hid (n=F.length):=⟨_,rfl⟩
 obtain⟨n,HN⟩:∃ n,Hid (n=E.length):=⟨_,rfl⟩
 rw[← HNH.out,← HN.out] at hev
 rw[← HN.out] at hl hin
 rw[← HNP.out,← HNH.out,← HNF.out] at HLN ⊢
 rw[← HN.out] at HLN
 have hhn:h<nH:=by omega
 have HIH:=Lib.hid (And.intro hi hev)
 clear hi hev
 obtain⟨B,HB⟩:∃ B,Hid (B=w.heap.size):=⟨_,rfl⟩
 go_enter Tryz.func30,Tryz.ntmps30
 go_upto_region 1 with fail
 rw[← HB.out]
 refine atW (fun w' => Hid (Since w w' ∧ Blk w' B 26 #[.slice aP nP cP,.slice aH nH cH,.slice aF nF cF]∧Blk w' (B+1) 26 #[nilV,nilV,nilV])) ⟨((Since.rfl_ w).alloc _).alloc _,(Blk.new' HB.out).alloc _,Blk.new' (by simp[HB.out])⟩ ?_
 rintro w1 HW1
 have m0:w1.cell? ⟨B,0,none⟩=some (.slice aP nP cP):=HW1.out.2.1.cell 0
 have m1:w1.cell? ⟨B,1,none⟩=some (.slice aH nH cH):=HW1.out.2.1.cell 1
 have m2:w1.cell? ⟨B,2,none⟩=some (.slice aF nF cF):=HW1.out.2.1.cell 2
 go_wp2_with fail
 clear m0 m1 m2
 refine(HLN.out _ HW1.out.1).mono ?_
 rintro e w2 ⟨x,rfl,ho,hs⟩
 obtain⟨g,c,hx⟩:=own_gc ho (by omega)
 subst hx
 obtain⟨b,Hb⟩:∃ b,Hid (b=w1.heap.size):=⟨_,rfl⟩
 rw[← Hb.out] at ho
 have hBb:B+1<b:=by rw[Hb.out];exact HW1.out.2.2.lt
 have hbg:b≤g:=(ho.lt g rfl).1
 have HO2:=Lib.hid ho
 have HW2:Hid (Since w w2∧Blk w2 B 26 #[.slice aP nP cP,.slice aH nH cH,.slice aF nF cF]∧Blk w2 (B+1) 26 #[nilV,nilV,nilV]):=⟨HW1.out.1.trans hs,hs.blk HW1.out.2.1,hs.blk HW1.out.2.2⟩
 clear hs ho HW1 HLN
 have hwB:w.heap.size≤B:=by rw[HB.out];exact Nat.le_refl _
 have m1:w2.cell? ⟨B,1,none⟩=some (.slice aH nH cH):=HW2.out.2.1.cell 1
 have g1:decide ((h:Int)<0)=false:=by rw[decide_eq_false_iff_not];omega
 have g2:decide ((nH:Int)≤(h:Int))=false:=by rw[decide_eq_false_iff_not];omega
 have g3:decide (nH≤h)=false:=by rw[decide_eq_false_iff_not];omega
 obtain⟨j,hj⟩:∃ j,j=i+1:=⟨_,rfl⟩
 obtain⟨d,hd⟩:∃ d,n=i+(d+1):=⟨n-(i+1),by omega⟩
 have HDE:=Lib.hid (Delete1_any g c b i j d n E w2 HO2.out HN.out.symm hd hj hl)
 have HEL:Hid ((E.eraseIdx i).length=i+d):=by show _=_;rw[List.length_eraseIdx,if_pos (by rw[← HN.out];exact hin),← HN.out];omega
 have hln:i+d≤3000:=by omega
 have y1:Int.tdiv (h:Int) 2=(i:Int):=by rw[← HIH.out.1];simp
 have HJ:Hid ((i:Int)+1=(j:Int)):=by show _=_;omega
 clear hj hd hin hhn
 have hi3:i≤3000:=by omega
 go_upto_region 6 with fail
 clear g1 g2 g3 m1
 go_wp2_with fail
 clear y1
 rw[HJ.out]
 refine(HDE.out).mono ?_
 rintro e w5 ⟨rfl,hsg,hon⟩
 have HW5:Hid (Since w w5∧Blk w5 (B+1) 26 #[nilV,nilV,nilV]):=⟨Only.since HW2.out.1 hon (by omega),hon.blk HW2.out.2.2 (by omega)⟩
 have HTB:=Lib.hid (TBuild_any g 0 c (E.eraseIdx i) w5 (by rw[HEL.out];exact hsg) (fun s hs=>HE.out s (List.mem_of_mem_eraseIdx hs)) (by rw[HEL.out];exact hln))
 rw[HEL.out] at HTB
 have hsz5:w.heap.size≤w5.heap.size:=HW5.out.1.size
 have hlt5:B+1<w5.heap.size:=HW5.out.2.lt
 have hBw:w.heap.size≤B+1:=by omega
 clear hsg hon HO2 HW2 HDE
 go_wp2_with fail
 refine(HTB.out).mono ?_
 rintro e w6 ⟨hr,hs⟩
 have HSS:=Lib.hid (HW5.out.1.trans hs)
 have HB6:=Lib.hid (hs.blk HW5.out.2)
 clear hs HW5 HTB
 rcases hr with⟨hr,vP',vH',vF',P',H',F',rfl,hm,hbl⟩ | ⟨hnr,rfl⟩
 ·obtain⟨aP',cP',hvP'⟩:∃ a c,vP' = .slice a P'.length c:=Rws.slice hm (i:=0) rfl
  obtain⟨aH',cH',hvH'⟩:∃ a c,vH' = .slice a H'.length c:=Rws.slice hm (i:=1) rfl
  obtain⟨aF',cF',hvF'⟩:∃ a c,vF' = .slice a F'.length c:=Rws.slice hm (i:=2) rfl
  subst hvP' hvH' hvF'
  have HBB:=Lib.hid HB6.out
  have b0:=HBB.out.cell 0
  have b1:=HBB.out.cell 1
  have b2:=HBB.out.cell 2
  have d0:=HBB.out.frozen 0
  have d1:=HBB.out.frozen 1
  have d2:=HBB.out.frozen 2
  simp only[List.getElem?_toArray,List.getElem?_cons_zero,List.getElem?_cons_succ] at b0 b1 b2
  have HSF:=Lib.hid (((HSS.out.setCell (p:=⟨B+1,0,none⟩) hBw (.slice aP' P'.length cP')).setCell (p:=⟨B+1,1,none⟩) hBw (.slice aH' H'.length cH')).setCell (p:=⟨B+1,2,none⟩) hBw (.slice aF' F'.length cF'))
  have HMF:Hid (MapS (((w6.setCell ⟨B+1,0,none⟩ (.slice aP' P'.length cP')).setCell ⟨B+1,1,none⟩ (.slice aH' H'.length cH')).setCell ⟨B+1,2,none⟩ (.slice aF' F'.length cF')) w5.heap.size (.slice aP' P'.length cP') (.slice aH' H'.length cH') (.slice aF' F'.length cF') P' H' F') :=
   (((Rws.low hm (p:=⟨B+1,0,none⟩) hlt5 _).low (p:=⟨B+1,1,none⟩) hlt5 _).low (p:=⟨B+1,2,none⟩) hlt5 _)
  have HBL:=Lib.hid (And.intro hr hbl)
  clear hm hbl hr HSS HBB HB6
  go_wp2_with fail
  refine bodyPost_ret (v:=.tuple #[.agg #[.slice aP' P'.length cP',.slice aH' H'.length cH',.slice aF' F'.length cF'],.int .i64 0]) (by simp[results,Tryz.results30,go_sem,cSetS,cSetO,cellDrew,b0,b1,b2,d0,d1,d2]) rfl ⟨.inl ⟨HBL.out.1,_,_,_,P',H',F',rfl,Rws.mono HMF.out hsz5,HBL.out.2⟩,HSF.out⟩
 ·have HBB:=Lib.hid HB6.out
  have b0:=HBB.out.cell 0
  have b1:=HBB.out.cell 1
  have b2:=HBB.out.cell 2
  have d0:=HBB.out.frozen 0
  have d1:=HBB.out.frozen 1
  have d2:=HBB.out.frozen 2
  simp only[List.getElem?_toArray,List.getElem?_cons_zero,List.getElem?_cons_succ] at b0 b1 b2
  have HSF:=Lib.hid (((HSS.out.setCell (p:=⟨B+1,0,none⟩) hBw nilV).setCell (p:=⟨B+1,1,none⟩) hBw nilV).setCell (p:=⟨B+1,2,none⟩) hBw nilV)
  have HNR:=Lib.hid hnr
  clear hnr HSS HBB HB6
  unfold nilV at *
  go_wp2_with fail
  refine bodyPost_ret (v:=.tuple #[.agg #[.slice none 0 0,.slice none 0 0,.slice none 0 0],.int .i64 10]) (by simp[results,Tryz.results30,go_sem,cSetS,cSetO,cellDrew,b0,b1,b2,d0,d1,d2]) rfl ⟨.inr ⟨HNR.out,rfl⟩,HSF.out⟩
end
section
open Go.RowKit Go.BigFrame
attribute [local go_sem ↓] eqPt neqPt eqSgP neqSgP
set_option maxRecDepth 100000 in
theorem IndexG_any{v:Value}{M:List Sg}{s:Sg}{i:Nat}{w:World}(hv:SegsS w v M)(hl:M.length≤3000)(hi:i<M.length)(hs:sgAt M i=s)(hne:∀ j,j<i→sgAt M j≠s) :
  Calls Tryz.prog 29 #[v,.agg #[.int .i64 s.1.1,.int .i64 s.1.2,.int .i64 s.2.1,.int .i64 s.2.2]] w fun e w' => e=.returned (.int .i64 (i:Nat))∧Since w w' := by
 obtain⟨a,c,rfl,-,hc⟩:=hv
 have HC:=Lib.hid hc
 have HA:=Lib.hid (And.intro hs hne)
 obtain⟨n,HN⟩:∃ n,Hid (n=M.length):=⟨_,rfl⟩
 rw[← HN.out] at HC hl hi ⊢
 clear hc hs hne
 obtain⟨B,HB⟩:∃ B,Hid (B=w.heap.size):=⟨_,rfl⟩
 go_enter Tryz.func29,Tryz.ntmps29
 go_upto_region 1 with fail
 rw[← HB.out]
 refine atW (fun w' => Hid (Since w w' ∧ Blk w' B 37 #[.int .i64 s.1.1,.int .i64 s.1.2,.int .i64 s.2.1,.int .i64 s.2.2])) ⟨(Since.rfl_ w).alloc _,Blk.new' HB.out⟩ ?_
 rintro w1 HW1
 go_wp2_with fail
 go_loopw [8] (fun v8 wr=>∃ k:Nat,k≤i∧v8=.int .i64 k∧Hid (Since w wr∧Blk wr B 37 #[.int .i64 s.1.1,.int .i64 s.1.2,.int .i64 s.2.1,.int .i64 s.2.2])) (fun v8 _=>i+1-(intOf v8).toNat)
 case atStart=>exact⟨0,Nat.zero_le _,by go_num,HW1⟩
 case round =>
  clear HW1
  obtain⟨k,hk,rfl,HW⟩:=hrel
  have hkn:k<n:=by omega
  have hz:decide ((k:Int)<(n:Int))=true:=by rw[decide_eq_true_eq];omega
  have i1:(0:Int)≤(k:Int):=by omega
  have i2:(k:Int)<(n:Int):=by omega
  obtain⟨g,o,rfl,h1,h2,h3,h4⟩:=HC.out k hkn
  obtain⟨t,ht⟩:∃ t,Hid (t=sgAt M k):=⟨_,rfl⟩
  rw[← ht.out] at h1 h2 h3 h4
  have h1:=keepC HW.out.1 _ _ h1
  have h2:=keepC HW.out.1 _ _ h2
  have h3:=keepC HW.out.1 _ _ h3
  have h4:=keepC HW.out.1 _ _ h4
  have r_0:=HW.out.2.cell 0
  have r_1:=HW.out.2.cell 1
  have r_2:=HW.out.2.cell 2
  have r_3:=HW.out.2.cell 3
  simp only[List.getElem?_toArray,List.getElem?_cons_zero,List.getElem?_cons_succ] at r_0 r_1 r_2 r_3
  by_cases e:k=i
  ·have hb:eqG s t=true:=by unfold eqG;rw[decide_eq_true_eq,ht.out,e];exact HA.out.1.symm
   have HE:=Lib.hid e
   clear e
   go_upto_region 4 with fail
   go_quiet (fail)
   go_wp2_with fail
   go_ret
   exact⟨by rw[← HE.out];rfl,HW.out.1.drewN _⟩
  ·have hb:eqG s t=false:=by unfold eqG;rw[decide_eq_false_iff_not,ht.out];exact(HA.out.2 k (by omega)).symm
   go_upto_region 4 with fail
   go_quiet (fail)
   go_wp2_with fail
   go_roundw
   case rel=>exact⟨k+1,by omega,by go_num,HW.out.1.drewN _,HW.out.2⟩
   case measure=>simp[intOf];omega
set_option maxRecDepth 100000 in
theorem CloneI_any{a:Option Addr}{n c:Nat}{w:World}{xs:List Value}(hn:n≤1)(hx:xs.length=n)(hc:∀ ad,a=some ad→∀ j u,xs[j]? = some u→w.cell? (ad.add j)=some u)(h0:a=none→n=0)(h1:∀ u∈xs,u.oneCell' = true) :
  Calls Tryz.prog 26 #[.slice a n c] w fun e w' => ∃ x,e=.returned x∧w'.ownsRow w.heap.size 3 1 x n xs∧Since w w' := by
 obtain⟨i0,hi0,hz0,hz1,hz3⟩:=info_parts infoI
 have q:∀ (w:World) (a:Option Addr) (n c n' c' : Nat),(binOp .eql 22 (.slice a n c) (.slice none n' c')).run Tryz.prog w=.ok (.bool a.isNone) w:=fun w a n c n' c' => Lib.run_eql_slice_nil w _ _ a n c n' c' Tryz.underlying22
 rcases a with - | ad
 ·obtain rfl:=h0 rfl
  obtain rfl:xs=[]:=List.eq_nil_of_length_eq_zero hx
  clear hc h1
  go_enter Tryz.func26,Tryz.ntmps26
  go_wp2_with fail
  go_ret
  exact⟨_,rfl,World.ownsRow_nil _ _ _ _,Since.rfl_ w⟩
 ·have HC:=Lib.hid (hc ad rfl)
  have H1:=Lib.hid h1
  have HX:=Lib.hid hx
  clear hc h1 h0 hx
  go_enter Tryz.func26,Tryz.ntmps26
  go_wp2_with (at_builtin;refine wpList_append_own _ rfl _ _ 22 rfl w.heap.size 3 i0 _ 1 8 Tryz.underlying22 hi0 hz0 hz1 hz3 rfl (by decide) _ _ _ rfl (World.ownsRow_made w #[] 0 (Nat.le_refl _) (Nat.zero_le _) (by simp)) ad n c xs rfl (by rw[HX.out];simp) (fun j u hj=>Lib.cell?_alloc_some _ (HC.out j u hj)) H1.out (by unfold maxLen;omega) (by omega) (by simp) ?_;intro v' w1 hown hgrow hnil)
  go_wp2_with fail
  go_ret
  exact⟨v',rfl,by simpa using hown,((Below.refl _ w).alloc (Nat.le_refl _) _).grown hgrow (by simp) (by intro k hk;have hk' : some w.heap.size=some k:=hk;injection hk' with hk';omega)⟩
end
section
theorem sgn_neg(n:Int):sgnI (-n) = -sgnI n:=by unfold sgnI;omega
theorem dir_swap(a b p q:Pt2):dirV b a p q=dirV a b q p:=by
 have e1:sgnI (a.1-b.1) = -sgnI (b.1-a.1):=by rw[← sgn_neg];congr 1;omega
 have e2:sgnI (a.2-b.2) = -sgnI (b.2-a.2):=by rw[← sgn_neg];congr 1;omega
 unfold dirV
 rw[e1,e2]
 have f1 : -sgnI (b.1-a.1)*(p.1-q.1)=sgnI (b.1-a.1)*(q.1-p.1):=by grind
 have f2 : -sgnI (b.2-a.2)*(p.2-q.2)=sgnI (b.2-a.2)*(q.2-p.2):=by grind
 rw[f1,f2]
theorem thr_rev{H:List Pt2}(hH:HotOk H){a b:Pt2}(ha:okP a.1 a.2=true)(hb:okP b.1 b.2=true):thrL b a H=(thrL a b H).reverse:=by
 refine(thru_one hb ha hH.ok hH.nd ?_).symm
 obtain⟨h1,h2⟩:=thr_thru (a:=a) (b:=b) (H:=H)
 refine⟨?_,?_⟩
 ·have e:H.filter (metB b a)=H.filter (metB a b):=List.filter_congr fun x hx=>(metB_rev ha hb (hH.ok x hx)).symm
  rw[e]
  exact(List.reverse_perm _).trans h1
 ·rw[List.pairwise_reverse]
  exact h2.imp fun {x y} h=>by rw[dir_swap];exact h
theorem adj_rev{C:List Pt2}{p q:Pt2}(h:Adj C p q):Adj C.reverse q p:=by
 obtain⟨u,v,rfl⟩:=h
 exact⟨v.reverse,u.reverse,by simp⟩
theorem ChainOk.rev{H C:List Pt2}(h:ChainOk H C):ChainOk H C.reverse :=
 ⟨by simpa using h.ne,fun p hp=>h.mem p (by simpa using hp),fun p q k=>by
  have:=adj_rev k
  rw[List.reverse_reverse] at this
  exact(h.adj q p this).symm⟩
theorem next_one(H:List Pt2)(x:Pt2):nextC H [x]=[x]:=by simp[nextC,nextG,pAt]
theorem next_tail(H:List Pt2)(y:Pt2)(v:List Pt2):nextC H (y :: v)=y :: (nextC H (y :: v)).tail:=by simp[nextC,pAt]
theorem next_app{H:List Pt2}(hH:HotOk H):∀ {u:List Pt2} {y:Pt2} {v:List Pt2},ChainOk H (u++y :: v)→nextC H (u++y :: v)=nextC H (u++[y])++(nextC H (y :: v)).tail
 | [],y,v,h=>by
  show nextC H (y :: v)=nextC H [y]++_
  rw[next_one];exact next_tail H y v
 | [a],y,v,h=>by
  obtain⟨m,hm⟩:=ChainOk.ends hH h
  show nextC H (a :: y :: v)=nextC H [a,y]++_
  rw[nextC_cons hm,nextC_cons hm,next_one,List.append_assoc]
  exact congrArg _ (next_tail H y v)
 | a :: b :: u,y,v,h=>by
  obtain⟨m,hm⟩:=ChainOk.ends hH h
  have ih:=next_app hH (u:=b :: u) (y:=y) (v:=v) h.tail
  show nextC H (a :: b :: (u++y :: v))=nextC H (a :: b :: (u++[y]))++_
  rw[nextC_cons hm,nextC_cons hm,List.append_assoc]
  exact congrArg _ ih
theorem next_rev{H:List Pt2}(hH:HotOk H):∀ {C:List Pt2},ChainOk H C→nextC H C.reverse=(nextC H C).reverse
 | [],h=>absurd rfl h.ne
 | [x],h=>by rw[List.reverse_singleton,next_one];rfl
 | x :: y :: r,h=>by
  obtain⟨m,hm⟩:=h.ends hH
  have ih:=next_rev hH h.tail
  have hr:=h.rev
  have e:(x :: y :: r).reverse=r.reverse++y :: [x]:=by simp
  rw[e] at hr ⊢
  have hox:=hH.ok x (h.mem x (by simp))
  have hoy:=hH.ok y (h.mem y (by simp))
  have hm2:thrL y x H=y :: (m.reverse++[x]):=by rw[thr_rev hH hox hoy,hm];simp
  have e2:(y :: r).reverse=r.reverse++[y]:=by simp
  rw[e2] at ih
  rw[next_app hH hr,ih,nextC_cons hm2,nextC_cons hm,next_one]
  simp
def SameC(cs ds:List (List Pt2)):Prop:=(∀ C∈cs,C∈ds∨C.reverse∈ds)∧∀ C∈ds,C∈cs∨C.reverse∈cs
theorem ord_comm{p q:Pt2}(h:p≠q):ordE p q=ordE q p:=by
 have h1:=ord_lx p q h
 have h2:=ord_lx q p h.symm
 rcases ordE_cases p q with e | e <;> rcases ordE_cases q p with f | f <;> rw[e] at h1 ⊢ <;> rw[f] at h2 ⊢
 ·exact(lx_asy h1 h2).elim
 ·exact(lx_asy h1 h2).elim
theorem same_sub{cs ds:List (List Pt2)}(hc:Inv cs)(h:∀ C∈cs,C∈ds∨C.reverse∈ds){s:Sg}(hs:s∈edgL cs):s∈edgL ds:=by
 obtain⟨C,hC,p,q,k,rfl⟩:=edg_mem.1 hs
 rcases h C hC with m | m
 ·exact edg_mem.2 ⟨C,m,p,q,k,rfl⟩
 ·exact edg_mem.2 ⟨_,m,q,p,adj_rev k,ord_comm (hc.adj C hC p q k)⟩
theorem SameC.edg{cs ds:List (List Pt2)}(hc:Inv cs)(hd:Inv ds)(h:SameC cs ds):edgL cs=edgL ds:=edg_ext fun s=>⟨same_sub hc h.1,same_sub hd h.2⟩
theorem SameC.step{cs ds:List (List Pt2)}(hc:Inv cs)(hd:Inv ds)(h:SameC cs ds):SameC (stepC cs) (stepC ds):=by
 have e:=h.edg hc hd
 refine⟨fun C' hC' => ?_,fun C' hC' => ?_⟩
 ·obtain⟨C,hC,rfl⟩:=List.mem_map.1 hC'
  rcases h.1 C hC with m | m
  ·exact .inl (List.mem_map.2 ⟨C,m,by rw[e]⟩)
  ·exact .inr (List.mem_map.2 ⟨C.reverse,m,by rw[← e,next_rev (hot_ok hc.eok) (hc.chain hC)]⟩)
 ·obtain⟨C,hC,rfl⟩:=List.mem_map.1 hC'
  rcases h.2 C hC with m | m
  ·exact .inl (List.mem_map.2 ⟨C,m,by rw[e]⟩)
  ·exact .inr (List.mem_map.2 ⟨C.reverse,m,by rw[e,next_rev (hot_ok hd.eok) (hd.chain hC)]⟩)
end
end Go.Proofs.YtdnccjdlmepafaaGreat
