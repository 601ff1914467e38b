/-
  slices.Equal over half-edges and over ints, of a list and itself; half.Same; half.Check of what Build makes: OK; Walks of topo.lines, topo.Add and topo.Drop on what Build makes; Plain: a vertex moved, and moved back; slices.Index and slices.Contains over points. Conditions: those that each lemma names.
-/
import Derived.Test.YtdnccjdlmepafaaGreatK29
import Derived.Test.YtdnccjdlmepafaaGreatK02
import Derived.Test.YtdnccjdlmepafaaGreatK28
import Derived.Test.YtdnccjdlmepafaaGreatK13
set_option linter.unusedSimpArgs false
set_option linter.unusedVariables false
set_option linter.constructorNameAsVariable false
namespace Go.Proofs.YtdnccjdlmepafaaGreat
section
open Go.RowKit Go.BigFrame
attribute [local go_sem ↓] eqPt neqPt
theorem hhf:Tryz.prog.stoodInHeld 33=false:=by kernel_rfl
theorem eqHfS(x y z u x' y' z' u' : Int)(d:Nat)(w:World):(Op.equalIn (d+1+1) 33 (.agg #[.int .i64 x,.int .i64 y,.int .i64 z,.int .i64 u]) (.agg #[.int .i64 x',.int .i64 y',.int .i64 z',.int .i64 u'])).run Tryz.prog w=.ok (x == x' && (y == y' && (z == z' && u == u'))) w:=by
 rw[run_equalIn_struct (P:=Tryz.prog) w (d+1) 33 _ _ (by simp[Program.fieldsOf,Tryz.underlying33]) hhf]
 simp only[Program.fieldsOf,Tryz.underlying33]
 have h1:=run_equalIn_int (P:=Tryz.prog) w d 3 .i64 .i64 x x' Tryz.underlying3
 have h2:=run_equalIn_int (P:=Tryz.prog) w d 3 .i64 .i64 y y' Tryz.underlying3
 have h3:=run_equalIn_int (P:=Tryz.prog) w d 3 .i64 .i64 z z' Tryz.underlying3
 have h4:=run_equalIn_int (P:=Tryz.prog) w d 3 .i64 .i64 u u' Tryz.underlying3
 cases e1:(x == x') <;> cases e2:(y == y') <;> cases e3:(z == z') <;> cases e4:(u == u') <;> simp[Op.eqFields,go_sem,h1,h2,h3,h4,e1,e2,e3,e4]
theorem neqHf(x y z u:Int)(w:World):(binOp .neq 33 (.agg #[.int .i64 x,.int .i64 y,.int .i64 z,.int .i64 u]) (.agg #[.int .i64 x,.int .i64 y,.int .i64 z,.int .i64 u])).run Tryz.prog w=.ok (.bool false) w:=by
 have h:(Op.equal 33 (.agg #[.int .i64 x,.int .i64 y,.int .i64 z,.int .i64 u]) (.agg #[.int .i64 x,.int .i64 y,.int .i64 z,.int .i64 u])).run Tryz.prog w=.ok (x == x && (y == y && (z == z && u == u))) w:=eqHfS x y z u x y z u 9998 w
 simp only[binOp]
 simp[h]
attribute [local go_sem ↓] neqHf
set_option maxRecDepth 100000 in
set_option maxHeartbeats 4000000 in
theorem EqualHf_same(v v' : Value)(l:List Hf)(w:World)(hl:l.length≤1000000000000000)(hv:HvsS w v l)(hv' : HvsS w v' l) :
  Calls Tryz.prog 48 #[v,v'] w fun e w' => e=.returned (.bool true)∧Since w w' := by
 obtain⟨a,c,rfl,hc⟩:=hv
 obtain⟨a',c',rfl,hc'⟩:=hv'
 have HV:=Lib.hid hc
 have HV' := Lib.hid hc'
 obtain⟨n,HN⟩:∃ n,Hid (n=l.length):=⟨_,rfl⟩
 rw[← HN.out] at hl ⊢
 clear hc hc'
 go_enter Tryz.func48,Tryz.ntmps48
 go_wp2_with fail
 go_loopw [13] (fun v wr=>∃ k:Nat,k≤n∧v=.int .i64 k∧Hid (Since w wr)) (fun v _=>n-(intOf v).toNat)
 case atStart=>exact⟨0,Nat.zero_le _,rfl,Since.rfl_ w⟩
 case round =>
  obtain⟨k,hk,rfl,HS⟩:=hrel
  rcases Nat.lt_or_ge k n with hlt | hge
  ·obtain⟨g,o,rfl,c0,c1,c2,c3⟩:=HV.out k (by rw[← HN.out];exact hlt)
   obtain⟨g',o',rfl,d0,d1,d2,d3⟩:=HV'.out k (by rw[← HN.out];exact hlt)
   obtain⟨x,hx⟩:∃ x,Hid (x=hAt l k):=⟨_,rfl⟩
   rw[← hx.out] at c0 c1 c2 c3 d0 d1 d2 d3
   obtain⟨x0,x1,x2,x3⟩:=x
   replace c0:=keepC HS.out _ _ c0
   replace c1:=keepC HS.out _ _ c1
   replace c2:=keepC HS.out _ _ c2
   replace c3:=keepC HS.out _ _ c3
   replace d0:=keepC HS.out _ _ d0
   replace d1:=keepC HS.out _ _ d1
   replace d2:=keepC HS.out _ _ d2
   replace d3:=keepC HS.out _ _ d3
   dsimp only at c0 c1 c2 c3 d0 d1 d2 d3
   have i1:(0:Int)≤(k:Int):=by omega
   have i2:(k:Int)<(n:Int):=by omega
   go_upto_region 6 with fail
   refine region_cls (fun w' => w'.cell? ⟨g,o+k*4,none⟩=some (.int .i64 x0)∧w'.cell? ⟨g,o+k*4+1,none⟩=some (.int .i64 x1)∧w'.cell? ⟨g,o+k*4+2,none⟩=some (.int .i64 x2)∧w'.cell? ⟨g,o+k*4+3,none⟩=some (.int .i64 x3)∧w'.cell? ⟨g',o' + k*4,none⟩=some (.int .i64 x0)∧w'.cell? ⟨g',o' + k*4+1,none⟩=some (.int .i64 x1)∧w'.cell? ⟨g',o' + k*4+2,none⟩=some (.int .i64 x2)∧w'.cell? ⟨g',o' + k*4+3,none⟩=some (.int .i64 x3)∧Since wr w') (by kernel_rfl) (by kernel_rfl) (by(repeat' refine And.intro ?_ ?_) <;> first | (simp (maxDischargeDepth:=9) [c0,c1,c2,c3,d0,d1,d2,d3,  cSetS,cSetO,cellNew,World.cell?_alloc_some,cellDrew];done) | (repeat (first | with_reducible assumption | with_reducible exact Since.rfl_ _ | refine Since.setCell ?_ (by(try dsimp only);omega) _ | refine Since.alloc ?_ _ | refine Since.drew ?_))) ?_
   repeat (go_big_quiet_step ((first | (intro hC;have hC:=hC.out;(try simp only[hC,Result.andThen]);first | exact⟨True.intro,rfl⟩ | exact⟨rfl,rfl⟩ | rfl))))
   refine cls_end ?_
   clear c0 c1 c2 c3 d0 d1 d2 d3
   rintro w1 ⟨-,-,-,-,-,-,-,-,hs⟩
   have HS1:=Lib.hid (HS.out.trans hs)
   clear hs HS
   go_wp2_with fail
   go_roundw
   case rel=>exact⟨k+1,by omega,by go_num,HS1⟩
   case measure=>simp[intOf];omega
  ·obtain rfl:n=k:=by omega
   go_wp2_with fail
   go_ret
   exact⟨rfl,HS.out⟩
set_option maxRecDepth 100000 in
set_option maxHeartbeats 4000000 in
theorem EqualI_same(v v' : Value)(l:List Int)(w:World)(hl:l.length≤1000000000000000)(hv:IntS w v l)(hv' : IntS w v' l) :
  Calls Tryz.prog 49 #[v,v'] w fun e w' => e=.returned (.bool true)∧Since w w' := by
 obtain⟨a,c,rfl,hc⟩:=hv
 obtain⟨a',c',rfl,hc'⟩:=hv'
 have HV:=Lib.hid hc
 have HV' := Lib.hid hc'
 obtain⟨n,HN⟩:∃ n,Hid (n=l.length):=⟨_,rfl⟩
 rw[← HN.out] at hl ⊢
 clear hc hc'
 go_enter Tryz.func49,Tryz.ntmps49
 go_wp2_with fail
 go_loopw [13] (fun v wr=>∃ k:Nat,k≤n∧v=.int .i64 k∧Hid (Since w wr)) (fun v _=>n-(intOf v).toNat)
 case atStart=>exact⟨0,Nat.zero_le _,rfl,Since.rfl_ w⟩
 case round =>
  obtain⟨k,hk,rfl,HS⟩:=hrel
  rcases Nat.lt_or_ge k n with hlt | hge
  ·obtain⟨g,o,rfl,c0⟩:=HV.out k (by rw[← HN.out];exact hlt)
   obtain⟨g',o',rfl,d0⟩:=HV'.out k (by rw[← HN.out];exact hlt)
   obtain⟨x,hx⟩:∃ x,Hid (x=iAt l k):=⟨_,rfl⟩
   rw[← hx.out] at c0 d0
   replace c0:=keepC HS.out _ _ c0
   replace d0:=keepC HS.out _ _ d0
   have i1:(0:Int)≤(k:Int):=by omega
   have i2:(k:Int)<(n:Int):=by omega
   have hxx:(x != x)=false:=by simp
   go_upto_region 6 with fail
   refine region_cls (fun w' => w'.cell? ⟨g,o+k,none⟩=some (.int .i64 x)∧w'.cell? ⟨g',o' + k,none⟩=some (.int .i64 x)∧Since wr w') (by kernel_rfl) (by kernel_rfl) (by(repeat' refine And.intro ?_ ?_) <;> first | (simp (maxDischargeDepth:=9) [c0,d0,  cSetS,cSetO,cellNew,World.cell?_alloc_some,cellDrew];done) | (repeat (first | with_reducible assumption | with_reducible exact Since.rfl_ _ | refine Since.setCell ?_ (by(try dsimp only);omega) _ | refine Since.alloc ?_ _ | refine Since.drew ?_))) ?_
   repeat (go_big_quiet_step ((first | (intro hC;have hC:=hC.out;(try simp only[hC,Result.andThen]);first | exact⟨True.intro,rfl⟩ | exact⟨rfl,rfl⟩ | rfl))))
   refine cls_end ?_
   clear c0 d0
   rintro w1 ⟨-,-,hs⟩
   have HS1:=Lib.hid (HS.out.trans hs)
   clear hs HS
   go_wp2_with fail
   go_roundw
   case rel=>exact⟨k+1,by omega,by go_num,HS1⟩
   case measure=>simp[intOf];omega
  ·obtain rfl:n=k:=by omega
   go_wp2_with fail
   go_ret
   exact⟨rfl,HS.out⟩
set_option maxRecDepth 100000 in
set_option maxHeartbeats 4000000 in
theorem Same_any(vP vH vF vP' vH' vF' : Value)(P:List Pt2)(H:List Hf)(F:List Int)(w:World)(hP:P.length≤1000000000000000)(hH:H.length≤1000000000000000)(hF:F.length≤1000000000000000)(hm:MapR w vP vH vF P H F)(hm' : MapR w vP' vH' vF' P H F) :
  Calls Tryz.prog 25 #[.agg #[vP,vH,vF],.agg #[vP',vH',vF']] w fun e w' => e=.returned (.bool true)∧Since w w' := by
 have E1:Hid (∀ w',Since w w' → Calls Tryz.prog 47 #[vP,vP'] w' fun e w2=>e=.returned (.bool true)∧Since w' w2):=fun w' k=>by
  have:=Equal_any vP vP' P P w' hP hP (hm.p.keep (keepC k)) (hm'.p.keep (keepC k))
  rwa[decide_eq_true rfl] at this
 have E2:Hid (∀ w',Since w w' → Calls Tryz.prog 48 #[vH,vH'] w' fun e w2=>e=.returned (.bool true)∧Since w' w2):=fun w' k=>EqualHf_same vH vH' H w' hH (hm.h.since k) (hm'.h.since k)
 have E3:Hid (∀ w',Since w w' → Calls Tryz.prog 49 #[vF,vF'] w' fun e w2=>e=.returned (.bool true)∧Since w' w2):=fun w' k=>EqualI_same vF vF' F w' hF (hm.f.since k) (hm'.f.since k)
 clear hm hm' hP hH hF
 go_enter Tryz.func25,Tryz.ntmps25
 go_upto_region 1 with fail
 obtain⟨B,HB⟩:∃ B,Hid (B=w.heap.size):=⟨_,rfl⟩
 rw[← HB.out]
 refine atW (fun w' => Hid (Since w w')∧Hid (Blk w' B 26 #[vP,vH,vF])∧Hid (Blk w' (B+1) 26 #[vP',vH',vF'])) ⟨((Since.rfl_ w).alloc _).alloc _,(Blk.new' HB.out).alloc _,Blk.new' (by rw[World.size_alloc,HB.out])⟩ ?_
 rintro w1 ⟨HS1,HB1,HC1⟩
 have m0:w1.cell? ⟨B,0,none⟩=some vP:=HB1.out.cell 0
 have m1:w1.cell? ⟨B+1,0,none⟩=some vP' := HC1.out.cell 0
 go_wp2_with fail
 clear m0 m1
 refine(E1.out _ HS1.out).mono ?_
 rintro e w2 ⟨rfl,hs⟩
 have HS2:Hid (Since w w2):=HS1.out.trans hs
 have m0:w2.cell? ⟨B,1,none⟩=some vH:=(hs.blk HB1.out).cell 1
 have m1:w2.cell? ⟨B+1,1,none⟩=some vH' := (hs.blk HC1.out).cell 1
 have HB2:=Lib.hid (hs.blk HB1.out)
 have HC2:=Lib.hid (hs.blk HC1.out)
 clear hs HS1 HB1 HC1
 go_wp2_with fail
 clear m0 m1
 refine(E2.out _ HS2.out).mono ?_
 rintro e w3 ⟨rfl,hs⟩
 have HS3:Hid (Since w w3):=HS2.out.trans hs
 have m0:w3.cell? ⟨B,2,none⟩=some vF:=(hs.blk HB2.out).cell 2
 have m1:w3.cell? ⟨B+1,2,none⟩=some vF' := (hs.blk HC2.out).cell 2
 clear hs HS2 HB2 HC2
 go_wp2_with fail
 clear m0 m1
 refine(E3.out _ HS3.out).mono ?_
 rintro e w4 ⟨rfl,hs⟩
 have HS4:Hid (Since w w4):=HS3.out.trans hs
 clear hs HS3
 go_wp2_with fail
 go_ret
 exact⟨rfl,HS4.out⟩
end
section
open Go.RowKit Go.BigFrame
attribute [local go_sem ↓] eqPt neqPt
theorem BldR.hlen{E:List Sg}{P:List Pt2}{H:List Hf}{F:List Int}(h:BldR E P H F):H.length=2*E.length:=by
 obtain⟨O,C,I,T,-,-,-,-,hH,-⟩:=h
 rw[hH,mkH_len]
theorem BldR.fr{E:List Sg}{P:List Pt2}{H:List Hf}{F:List Int}(h:BldR E P H F){i:Nat}(hi:i<2*E.length):(hAt H i).1=(frH E P i:Int)∧frH E P i<P.length∧pAt P (frH E P i)=endH E i:=by
 obtain⟨O,C,I,T,hP,-,-,-,hH,-⟩:=h
 have hm:endH E i∈P:=by rw[hP];exact end_pts rfl i hi
 refine⟨?_,idP_at hm⟩
 rw[hH,mkH_at hi]
theorem BldR.lin{E:List Sg}{P:List Pt2}{H:List Hf}{F:List Int}(h:BldR E P H F):H.length/2=E.length∧(∀ i,i<H.length/2→linB P H i)∧linK P H (H.length/2)=E:=by
 have hl:H.length/2=E.length:=by rw[h.hlen];omega
 have key:∀ i,i<E.length→linB P H i∧linV P H i=sgAt E i:=fun i hi=>by
  obtain⟨a1,a2,a3⟩:=h.fr (i:=2*i) (by omega)
  obtain⟨b1,b2,b3⟩:=h.fr (i:=2*i+1) (by omega)
  refine⟨⟨⟨by omega,by omega⟩,⟨by omega,by omega⟩⟩,?_⟩
  unfold linV
  rw[a1,b1,Int.toNat_natCast,Int.toNat_natCast,a3,b3]
  unfold endH
  rw[if_pos (by omega),if_neg (by omega),show 2*i/2=i by omega,show(2*i+1)/2=i by omega]
 refine⟨hl,fun i hi=>(key i (by omega)).1,?_⟩
 rw[hl]
 refine List.ext_getElem (linK_len _ _ _) fun i h1 h2=>?_
 have e:sgAt E i=E[i]:=by simp[sgAt,List.getD,h2]
 rw[← e,← (key i h2).2]
 simp[linK]
theorem fac1_le(I T:List Int):∀ m,(fac1 I T m).2.length≤m+1
 | 0=>by simp[fac1]
 | m+1=>by
  have:=fac1_le I T m
  rw[fac1_succ]
  split
  ·simp;omega
  ·omega
theorem hullS_nil:hullS []=[]:=by unfold hullS srtL;simp[cmpL]
theorem BldR.bds{E:List Sg}{P:List Pt2}{H:List Hf}{F:List Int}(hE:RndOk E)(hl:E.length≤3000)(h:BldR E P H F):P.length≤1000000000000000∧H.length≤1000000∧F.length≤1000000000000000:=by
 have h1:=h.hlen
 obtain⟨O,C,I,T,hP,hOl,hO,hC,hH,hF⟩:=h
 refine⟨?_,by omega,?_⟩
 ·rcases Nat.eq_zero_or_pos E.length with e0 | hpos
  ·have:P=[]:=by rw[hP,List.eq_nil_of_length_eq_zero e0];exact hullS_nil
   rw[this];simp
  ·have K:Net (2*E.length) P.length P (frH E P) (rowO O):=net_begin hE rfl (by omega) hpos hP rfl hO
   have:=K.vle
   have:=K.le
   omega
 ·rw[hF,fac3_len]
  have:=fac1_le I T I.length
  have:=hC.le
  omega
set_option maxRecDepth 100000 in
theorem Lines_nil(vP vH vF:Value)(P:List Pt2)(F:List Int)(w:World)(hm:MapR w vP vH vF P [] F) :
  Calls Tryz.prog 15 #[.agg #[vP,vH,vF]] w fun e w' => e=.returned (.tuple #[.slice none 0 0,.int .i64 0])∧Since w w' := by
 obtain⟨aH,cH,hvH,-⟩:=hm.h
 subst hvH
 clear hm
 obtain⟨B,HB⟩:∃ B,Hid (B=w.heap.size):=⟨_,rfl⟩
 go_enter Tryz.func15,Tryz.ntmps15
 go_upto_region 1 with fail
 rw[← HB.out]
 refine atW (fun w' => Hid (Since w w')∧Hid (Blk w' B 26 #[vP,.slice aH 0 cH,vF])) ⟨(Since.rfl_ w).alloc _,Blk.new' HB.out⟩ ?_
 rintro w1 ⟨HS1,HB1⟩
 have m1:w1.cell? ⟨B,1,none⟩=some (.slice aH 0 cH):=HB1.out.cell 1
 go_wp2_with fail
 go_loopw [4,5] (fun v4 v5 wr=>v4=.slice none 0 0∧v5=.int .i64 0∧Hid (Since w wr)∧Hid (Blk wr B 26 #[vP,.slice aH 0 cH,vF])) (fun _ _ _=>0)
 case atStart=>exact⟨rfl,by go_num,HS1,HB1⟩
 case round =>
  obtain⟨rfl,rfl,HS,HBM⟩:=hrel
  clear m1
  have m1:wr.cell? ⟨B,1,none⟩=some (.slice aH 0 cH):=HBM.out.cell 1
  go_wp2_with fail
  go_ret2
  exact⟨rfl,HS.out⟩
theorem LinesB_any(vP vH vF:Value)(E:List Sg)(P:List Pt2)(H:List Hf)(F:List Int)(w:World)(hm:MapR w vP vH vF P H F)(hE:RndOk E)(hl:E.length≤3000)(hb:BldR E P H F) :
  Calls Tryz.prog 15 #[.agg #[vP,vH,vF]] w fun e w' => ∃ x,e=.returned (.tuple #[x,.int .i64 0])∧SegsN w' x E∧Since w w' := by
 obtain⟨b1,b2,b3⟩:=hb.bds hE hl
 obtain⟨q1,q2,q3⟩:=hb.lin
 rcases Nat.eq_zero_or_pos E.length with e0 | hpos
 ·have eE:E=[]:=List.eq_nil_of_length_eq_zero e0
  have eH:H=[]:=List.eq_nil_of_length_eq_zero (by rw[hb.hlen,e0])
  subst eE eH
  exact(Lines_nil vP vH vF P F w hm).mono fun e w2 ⟨h1,h2⟩=>⟨_,h1,⟨fun _=>rfl,fun h=>absurd rfl h⟩,h2⟩
 ·refine(Lines_any vP vH vF P H F w hm (by omega) b1).mono ?_
  rintro e w2 ⟨⟨-,x,rfl,ho⟩ | ⟨hn,-⟩,hs⟩
  ·refine⟨x,rfl,own_segsN (by rw[q3,q1] at ho;exact ho) (fun h=>?_),hs⟩
   rw[h] at hpos;cases hpos
  ·exact absurd q2 hn
set_option maxRecDepth 100000 in
set_option maxHeartbeats 4000000 in
theorem Check_any(vP vH vF:Value)(E:List Sg)(P:List Pt2)(H:List Hf)(F:List Int)(w:World)(hm:MapR w vP vH vF P H F)(hE:RndOk E)(hl:E.length≤3000)(hb:BldR E P H F) :
  Calls Tryz.prog 17 #[.agg #[vP,vH,vF]] w fun e w' => e=.returned (.int .i64 0)∧Since w w' := by
 obtain⟨b1,b2,b3⟩:=hb.bds hE hl
 have HL:Hid (∀ w',Since w w' → Calls Tryz.prog 15 #[.agg #[vP,vH,vF]] w' fun e w2=>∃ x,e=.returned (.tuple #[x,.int .i64 0])∧SegsN w2 x E∧Since w' w2):=fun w' k=>LinesB_any vP vH vF E P H F w' (hm.since k) hE hl hb
 have HBD:Hid (∀ x w',SegsN w' x E→Calls Tryz.prog 40 #[x] w' fun e w2=>∃ vP' vH' vF',e=.returned (.tuple #[.agg #[vP',vH',vF'],.int .i64 0])∧Since w' w2∧MapR w2 vP' vH' vF' P H F):=fun x w' hx=>by
  refine(Build_any x E w' hx hE (by omega)).mono ?_
  rintro e w2 ⟨vP',vH',vF',P',H',F',rfl,hs,hms,hb'⟩
  obtain⟨rfl,rfl,rfl⟩:=BldR.uniq hE (by omega) hb hb'
  exact⟨_,_,_,rfl,hs,hms.read⟩
 have HSM:Hid (∀ vP' vH' vF' w',Since w w' → MapR w' vP' vH' vF' P H F→Calls Tryz.prog 25 #[.agg #[vP,vH,vF],.agg #[vP',vH',vF']] w' fun e w2=>e=.returned (.bool true)∧Since w' w2):=fun vP' vH' vF' w' k h' =>
  Same_any vP vH vF vP' vH' vF' P H F w' b1 (by omega) b3 (hm.since k) h'
 clear hm hb b1 b2 b3 hE hl
 obtain⟨B,HB⟩:∃ B,Hid (B=w.heap.size):=⟨_,rfl⟩
 go_enter Tryz.func17,Tryz.ntmps17
 go_upto_region 1 with fail
 rw[← HB.out]
 refine atW (fun w' => Hid (Since w w')∧Hid (Blk w' B 26 #[vP,vH,vF])) ⟨(Since.rfl_ w).alloc _,Blk.new' HB.out⟩ ?_
 rintro w1 ⟨HS1,HB1⟩
 have m0:w1.cell? ⟨B,0,none⟩=some vP:=HB1.out.cell 0
 have m1:w1.cell? ⟨B,1,none⟩=some vH:=HB1.out.cell 1
 have m2:w1.cell? ⟨B,2,none⟩=some vF:=HB1.out.cell 2
 go_wp2_with fail
 clear m0 m1 m2
 refine(HL.out _ HS1.out).mono ?_
 rintro e w2 ⟨x,rfl,hx,hs⟩
 have HS2:Hid (Since w w2):=HS1.out.trans hs
 have HB2:=Lib.hid (hs.blk HB1.out)
 have HX2:=Lib.hid hx
 clear hs hx HS1 HB1
 go_wp2_with fail
 refine(HBD.out _ _ HX2.out).mono ?_
 rintro e w3 ⟨vP',vH',vF',rfl,hs,hm'⟩
 have HS3:Hid (Since w w3):=HS2.out.trans hs
 have HB3:=Lib.hid (hs.blk HB2.out)
 have HM3:=Lib.hid hm'
 obtain⟨⟨aP,cP,rfl,-⟩,⟨aH,cH,rfl,-⟩,⟨aF,cF,rfl,-⟩⟩:=hm'
 clear hs HS2 HB2 HX2
 go_upto_region 5 with fail
 obtain⟨B3,HB4⟩:∃ B,Hid (B=w3.heap.size):=⟨_,rfl⟩
 rw[← HB4.out]
 refine atW (fun w' => Hid (Since w w')∧Hid (Blk w' B 26 #[vP,vH,vF])∧Hid (Blk w' B3 26 #[(.slice aP P.length cP),(.slice aH H.length cH),(.slice aF F.length cF)])∧Hid (MapR w' (.slice aP P.length cP) (.slice aH H.length cH) (.slice aF F.length cF) P H F)) ⟨HS3.out.alloc _,HB3.out.alloc _,Blk.new' HB4.out,HM3.out.since ((Since.rfl_ w3).alloc _)⟩ ?_
 clear HS3 HB3 HM3
 rintro w4 ⟨HS4,HB4',HC4,HM4⟩
 have m0:w4.cell? ⟨B,0,none⟩=some vP:=HB4'.out.cell 0
 have m1:w4.cell? ⟨B,1,none⟩=some vH:=HB4'.out.cell 1
 have m2:w4.cell? ⟨B,2,none⟩=some vF:=HB4'.out.cell 2
 have n0:w4.cell? ⟨B3,0,none⟩=some (.slice aP P.length cP):=HC4.out.cell 0
 have n1:w4.cell? ⟨B3,1,none⟩=some (.slice aH H.length cH):=HC4.out.cell 1
 have n2:w4.cell? ⟨B3,2,none⟩=some (.slice aF F.length cF):=HC4.out.cell 2
 go_wp2_with fail
 clear m0 m1 m2 n0 n1 n2
 refine(HSM.out _ _ _ _ HS4.out HM4.out).mono ?_
 rintro e w5 ⟨rfl,hs⟩
 have HS5:Hid (Since w w5):=HS4.out.trans hs
 clear hs HS4 HB4' HC4 HM4
 go_wp2_with fail
 go_ret
 exact⟨rfl,HS5.out⟩
end
section
open Go.RowKit Go.BigFrame
attribute [local go_sem ↓] eqPt neqPt
theorem LinesO_any(vP vH vF:Value)(E:List Sg)(P:List Pt2)(H:List Hf)(F:List Int)(w:World)(hm:MapR w vP vH vF P H F)(hE:RndOk E)(hl:E.length≤3000)(hb:BldR E P H F) :
  Calls Tryz.prog 15 #[.agg #[vP,vH,vF]] w fun e w' => ∃ x,e=.returned (.tuple #[x,.int .i64 0])∧w'.ownsRow w.heap.size 37 4 x E.length (E.flatMap sgV)∧Since w w' := by
 obtain⟨b1,b2,b3⟩:=hb.bds hE hl
 obtain⟨q1,q2,q3⟩:=hb.lin
 rcases Nat.eq_zero_or_pos E.length with e0 | hpos
 ·have eE:E=[]:=List.eq_nil_of_length_eq_zero e0
  have eH:H=[]:=List.eq_nil_of_length_eq_zero (by rw[hb.hlen,e0])
  subst eE eH
  exact(Lines_nil vP vH vF P F w hm).mono fun e w2 ⟨h1,h2⟩=>⟨_,h1,World.ownsRow_nil _ _ _ _,h2⟩
 ·refine(Lines_any vP vH vF P H F w hm (by omega) b1).mono ?_
  rintro e w2 ⟨⟨-,x,rfl,ho⟩ | ⟨hn,-⟩,hs⟩
  ·exact⟨x,rfl,by rw[q3,q1] at ho;exact ho,hs⟩
  ·exact absurd q2 hn
set_option maxRecDepth 100000 in
theorem TLines_any(vP vH vF:Value)(E:List Sg)(P:List Pt2)(H:List Hf)(F:List Int)(w:World)(hm:MapR w vP vH vF P H F)(hE:RndOk E)(hl:E.length≤3000)(hb:BldR E P H F) :
  Calls Tryz.prog 44 #[.agg #[vP,vH,vF]] w fun e w' => ∃ x,e=.returned (.tuple #[x,.int .i64 0])∧w'.ownsRow w.heap.size 37 4 x E.length (E.flatMap sgV)∧Since w w' := by
 have HCK:=Lib.hid (fun w' (k:Since w w')=>Check_any vP vH vF E P H F w' (hm.since k) hE hl hb)
 have HLN:=Lib.hid (fun w' (k:Since w w')=>LinesO_any vP vH vF E P H F w' (hm.since k) hE hl hb)
 obtain⟨aP,cP,hvP,-⟩:=hm.p
 obtain⟨aH,cH,hvH,-⟩:=hm.h
 obtain⟨aF,cF,hvF,-⟩:=hm.f
 subst hvP hvH hvF
 clear hm hb hE
 obtain⟨nP,HNP⟩:∃ n,Hid (n=P.length):=⟨_,rfl⟩
 obtain⟨nH,HNH⟩:∃ n,Hid (n=H.length):=⟨_,rfl⟩
 obtain⟨nF,HNF⟩:∃ n,Hid (n=F.length):=⟨_,rfl⟩
 rw[← HNP.out,← HNH.out,← HNF.out] at HCK HLN ⊢
 obtain⟨B,HB⟩:∃ B,Hid (B=w.heap.size):=⟨_,rfl⟩
 go_enter Tryz.func44,Tryz.ntmps44
 go_upto_region 1 with fail
 rw[← HB.out]
 refine atW (fun w' => Hid (Since w w' ∧ Blk w' B 26 #[.slice aP nP cP,.slice aH nH cH,.slice aF nF cF])) ⟨(Since.rfl_ w).alloc _,Blk.new' HB.out⟩ ?_
 rintro w1 HW1
 have m0:w1.cell? ⟨B,0,none⟩=some (.slice aP nP cP):=HW1.out.2.cell 0
 have m1:w1.cell? ⟨B,1,none⟩=some (.slice aH nH cH):=HW1.out.2.cell 1
 have m2:w1.cell? ⟨B,2,none⟩=some (.slice aF nF cF):=HW1.out.2.cell 2
 go_wp2_with fail
 clear m0 m1 m2
 refine(HCK.out _ HW1.out.1).mono ?_
 rintro e w2 ⟨rfl,hs⟩
 have HW2:=Lib.hid (And.intro (HW1.out.1.trans hs) (hs.blk HW1.out.2))
 have m0:w2.cell? ⟨B,0,none⟩=some (.slice aP nP cP):=HW2.out.2.cell 0
 have m1:w2.cell? ⟨B,1,none⟩=some (.slice aH nH cH):=HW2.out.2.cell 1
 have m2:w2.cell? ⟨B,2,none⟩=some (.slice aF nF cF):=HW2.out.2.cell 2
 clear hs HW1
 go_wp2_with fail
 clear m0 m1 m2
 refine(HLN.out _ HW2.out.1).mono ?_
 rintro e w3 ⟨x,rfl,ho,hs⟩
 have HS3:=Lib.hid (HW2.out.1.trans hs)
 have HO3:=Lib.hid (ho.mono HW2.out.1.size)
 obtain⟨ax,cx,hvx⟩:=own_slice ho
 subst hvx
 clear hs ho
 go_wp2_with fail
 go_ret2
 exact⟨_,rfl,HO3.out,HS3.out⟩
def TbR(b:Nat)(L:List Sg)(w' : World)(e:Ending):Prop:=(RndOk (tbL L)∧∃ vP vH vF P H F,e=.returned (.tuple #[.agg #[vP,vH,vF],.int .i64 0])∧MapS w' b vP vH vF P H F∧BldR (tbL L) P H F)∨(¬ RndOk (tbL L)∧e=.returned (.tuple #[.agg #[nilV,nilV,nilV],.int .i64 10]))
def AddW(w w' : World)(B:Nat)(m:Array Value)(p q:Pt2):Prop:=Since w w' ∧ Blk w' B 26 m∧Blk w' (B+1) 36 #[.int .i64 p.1,.int .i64 p.2]∧Blk w' (B+1+1) 36 #[.int .i64 q.1,.int .i64 q.2]∧Blk w' (B+1+1+1) 26 #[nilV,nilV,nilV]
theorem AddW.since{w a b:World}{B:Nat}{m:Array Value}{p q:Pt2}(h:AddW w a B m p q)(k:Since a b):AddW w b B m p q:=⟨h.1.trans k,k.blk h.2.1,k.blk h.2.2.1,k.blk h.2.2.2.1,k.blk h.2.2.2.2⟩
theorem MapR.vals{w:World}{vP vH vF:Value}{P:List Pt2}{H:List Hf}{F:List Int}(h:MapR w vP vH vF P H F):(∃ a c,vP=.slice a P.length c)∧(∃ a c,vH=.slice a H.length c)∧(∃ a c,vF=.slice a F.length c):=by
 obtain⟨aP,cP,hvP,-⟩:=h.p
 obtain⟨aH,cH,hvH,-⟩:=h.h
 obtain⟨aF,cF,hvF,-⟩:=h.f
 exact⟨⟨_,_,hvP⟩,⟨_,_,hvH⟩,⟨_,_,hvF⟩⟩
end
section
open Go.RowKit Go.BigFrame
def rn1(a p x:Pt2):Pt2:=if x=a then p else x
def rnG(a p:Pt2)(s:Sg):Sg:=(rn1 a p s.1,rn1 a p s.2)
theorem rn1_back{a p x:Pt2}(h:x≠p∨p=a):rn1 p a (rn1 a p x)=x:=by
 unfold rn1
 by_cases e:x=a
 ·rw[if_pos e,if_pos rfl,e]
 ·rw[if_neg e]
  by_cases e2:x=p
  ·rcases h with h | h
   ·exact absurd e2 h
   ·exact absurd (e2.trans h) e
  ·rw[if_neg e2]
theorem rn1_inj{a p x y:Pt2}(hx:x≠p∨p=a)(hy:y≠p∨p=a)(e:rn1 a p x=rn1 a p y):x=y:=by rw[← rn1_back hx,e,rn1_back hy]
theorem rnG_ok{a p:Pt2}{s:Sg}(h:SgOk s)(hp:okP p.1 p.2=true)(h1:s.1≠p∨p=a)(h2:s.2≠p∨p=a):SgOk (rnG a p s):=by
 refine⟨?_,?_,fun e=>h.2.2 (rn1_inj h1 h2 e)⟩
 ·show okP (rn1 a p s.1).1 (rn1 a p s.1).2=true
  unfold rn1;split
  ·exact hp
  ·exact h.1
 ·show okP (rn1 a p s.2).1 (rn1 a p s.2).2=true
  unfold rn1;split
  ·exact hp
  ·exact h.2.1
theorem ornt_swap{u:Sg}(h:lx u.1 u.2):ornt (u.2,u.1)=u:=by
 have h1:=cmpP_neg.2 h
 unfold ornt
 rw[if_pos]
 rcases lx_tri u.2 u.1 with k | k | k
 ·exact absurd (lx_trans h k) (lx_irr _)
 ·rw[k] at h;exact absurd h (lx_irr _)
 ·show 0<cmpP u.2 u.1
  have h2:¬ cmpP u.2 u.1<0:=fun e=>lx_irr _ (lx_trans h (cmpP_neg.1 e))
  have h3:¬ cmpP u.2 u.1=0:=fun e=>by
   have:=(cmpP_zero _ _).1 e
   rw[this] at h;exact lx_irr _ h
  omega
theorem ornt_two(u:Sg):ornt u=u∨ornt u=(u.2,u.1):=by
 unfold ornt;split
 ·exact .inr rfl
 ·exact .inl rfl
theorem mv_one{a p:Pt2}{s:Sg}(hs:lx s.1 s.2)(h1:s.1≠p∨p=a)(h2:s.2≠p∨p=a):ornt (rnG p a (ornt (rnG a p s)))=s:=by
 have e1:rn1 p a (rnG a p s).1=s.1:=rn1_back h1
 have e2:rn1 p a (rnG a p s).2=s.2:=rn1_back h2
 rcases ornt_two (rnG a p s) with e | e
 ·rw[e]
  have:rnG p a (rnG a p s)=s:=Prod.ext e1 e2
  rw[this]
  exact ornt_lx hs
 ·rw[e]
  have:rnG p a ((rnG a p s).2,(rnG a p s).1)=(s.2,s.1):=Prod.ext e2 e1
  rw[this]
  exact ornt_swap hs
theorem mv_back{E:List Sg}(hE:RndOk E){a p:Pt2}(hp:∀ s∈E,(s.1≠p∨p=a)∧(s.2≠p∨p=a)):tbL ((tbL (E.map (rnG a p))).map (rnG p a))=E:=by
 refine tbL_eq hE ?_
 have h1:((((E.map (rnG a p)).map ornt).map (rnG p a)).map ornt)=E:=by
  rw[List.map_map,List.map_map,List.map_map]
  exact(List.map_congr_left fun s hs=>mv_one (hE.lt s hs) (hp s hs).1 (hp s hs).2).trans (List.map_id' E)
 have h2:(tbL (E.map (rnG a p))).Perm ((E.map (rnG a p)).map ornt):=List.mergeSort_perm _ _
 have h3:=((h2.map (rnG p a)).map ornt).symm
 rw[h1] at h3
 exact h3
theorem ptsE_mem{E:List Sg}{x:Pt2}:x∈hullS (ptsK E E.length)↔∃ s∈E,x=s.1∨x=s.2:=by
 rw[hullS_mem]
 unfold ptsK
 rw[List.mem_flatMap]
 constructor
 ·rintro⟨i,hi,h⟩
  have hi' := List.mem_range.1 hi
  refine⟨sgAt E i,by rw[sgAt_get hi'];exact List.getElem_mem hi',?_⟩
  simpa using h
 ·rintro⟨s,hs,h⟩
  obtain⟨i,hi,rfl⟩:=List.getElem_of_mem hs
  exact⟨i,List.mem_range.2 hi,by rw[sgAt_get hi];simpa using h⟩
theorem mv_mem{E:List Sg}{a p x:Pt2}:x∈hullS (ptsK (tbL (E.map (rnG a p))) (tbL (E.map (rnG a p))).length)↔∃ y∈hullS (ptsK E E.length),rn1 a p y=x:=by
 rw[ptsE_mem]
 constructor
 ·rintro⟨t,ht,h⟩
  obtain⟨u,hu,rfl⟩:=List.mem_map.1 (srtG_mem.1 ht)
  obtain⟨s,hs,rfl⟩:=List.mem_map.1 hu
  rcases ornt_two (rnG a p s) with e | e <;> rw[e] at h <;> rcases h with h | h
  ·exact⟨s.1,ptsE_mem.2 ⟨s,hs,.inl rfl⟩,h.symm⟩
  ·exact⟨s.2,ptsE_mem.2 ⟨s,hs,.inr rfl⟩,h.symm⟩
  ·exact⟨s.2,ptsE_mem.2 ⟨s,hs,.inr rfl⟩,h.symm⟩
  ·exact⟨s.1,ptsE_mem.2 ⟨s,hs,.inl rfl⟩,h.symm⟩
 ·rintro⟨y,hy,rfl⟩
  obtain⟨s,hs,h⟩:=ptsE_mem.1 hy
  refine⟨ornt (rnG a p s),srtG_mem.2 (List.mem_map.2 ⟨_,List.mem_map.2 ⟨s,hs,rfl⟩,rfl⟩),?_⟩
  rcases ornt_two (rnG a p s) with e | e <;> rw[e] <;> rcases h with h | h <;> rw[h]
  ·exact .inl rfl
  ·exact .inr rfl
  ·exact .inr rfl
  ·exact .inl rfl
theorem mv_len{E:List Sg}{a p:Pt2}(hp:∀ y∈hullS (ptsK E E.length),y≠p∨p=a):(hullS (ptsK (tbL (E.map (rnG a p))) (tbL (E.map (rnG a p))).length)).length=(hullS (ptsK E E.length)).length:=by
 refine Nat.le_antisymm ?_ ?_
 ·have:=len_le_of_sub (srt_nodup (hullS_srt (ptsK (tbL (E.map (rnG a p))) (tbL (E.map (rnG a p))).length))) (m:=(hullS (ptsK E E.length)).map (rn1 a p)) fun x hx=>by
   obtain⟨y,hy,e⟩:=mv_mem.1 hx
   exact List.mem_map.2 ⟨y,hy,e⟩
  rwa[List.length_map] at this
 ·have:=len_le_of_sub (srt_nodup (hullS_srt (ptsK E E.length))) (m:=(hullS (ptsK (tbL (E.map (rnG a p))) (tbL (E.map (rnG a p))).length)).map (rn1 p a)) fun y hy =>
   List.mem_map.2 ⟨rn1 a p y,mv_mem.2 ⟨y,hy,rfl⟩,rn1_back (hp y hy)⟩
  rwa[List.length_map] at this
theorem BldR.pts{E:List Sg}{P:List Pt2}{H:List Hf}{F:List Int}(h:BldR E P H F):P=hullS (ptsK E E.length):=by
 obtain⟨O,C,I,T,hP,-⟩:=h
 exact hP
end
section
open Go.RowKit Go.BigFrame
attribute [local go_sem ↓] eqPt neqPt
theorem eqB_dec(a b:Pt2):(a.1 == b.1 && a.2 == b.2)=decide (a=b):=by
 rw[Bool.eq_iff_iff]
 simp only[Bool.and_eq_true,beq_iff_eq,decide_eq_true_eq]
 exact⟨fun h=>Prod.ext h.1 h.2,fun h=>by rw[h];exact⟨rfl,rfl⟩⟩
theorem pAt_get{l:List Pt2}{i:Nat}(h:i<l.length):pAt l i=l[i]:=by simp[pAt,List.getD,h]
def IdxR(l:List Pt2)(x:Pt2)(r:Int):Prop:=(x∉l∧r = -1)∨∃ i:Nat,i<l.length∧pAt l i=x∧r=(i:Nat)
theorem IdxR.dec{l:List Pt2}{x:Pt2}{r:Int}(h:IdxR l x r):decide (0≤r)=decide (x∈l):=by
 rw[decide_eq_decide]
 rcases h with⟨h1,rfl⟩ | ⟨i,h1,h2,rfl⟩
 ·exact⟨fun q=>absurd q (by omega),fun q=>absurd q h1⟩
 ·refine⟨fun _=>?_,fun _=>by omega⟩
  rw[← h2,pAt_get h1]
  exact List.getElem_mem h1
set_option maxRecDepth 100000 in
theorem IndexP_any{v:Value}{l:List Pt2}{x:Pt2}{w:World}(hv:PtsS w v l)(hl:l.length≤1000000000000000) :
  Calls Tryz.prog 24 #[v,.agg #[.int .i64 x.1,.int .i64 x.2]] w fun e w' => ∃ r:Int,e=.returned (.int .i64 r)∧IdxR l x r∧Since w w' := by
 obtain⟨a,c,rfl,hc⟩:=hv
 have HC:=Lib.hid hc
 obtain⟨n,HN⟩:∃ n,Hid (n=l.length):=⟨_,rfl⟩
 have HR1:Hid ((∀ j,j<n→pAt l j≠x)→IdxR l x (-1)):=fun h=>.inl ⟨fun q=>by
  obtain⟨j,hj,e⟩:=List.getElem_of_mem q
  exact h j (by rw[HN.out];exact hj) (by rw[pAt_get hj];exact e),rfl⟩
 have HR2:Hid (∀ i:Nat,i<n→pAt l i=x→IdxR l x (i:Nat)):=fun i hi e=>.inr ⟨i,by rw[← HN.out];exact hi,e,rfl⟩
 rw[← HN.out] at HC hl ⊢
 clear hc
 obtain⟨B,HB⟩:∃ B,Hid (B=w.heap.size):=⟨_,rfl⟩
 go_enter Tryz.func24,Tryz.ntmps24
 go_upto_region 1 with fail
 rw[← HB.out]
 refine atW (fun w' => Hid (Since w w' ∧ Blk w' B 36 #[.int .i64 x.1,.int .i64 x.2])) ⟨(Since.rfl_ w).alloc _,Blk.new' HB.out⟩ ?_
 rintro w1 HW1
 go_wp2_with fail
 go_loopw [8] (fun v8 wr=>∃ k:Nat,k≤n∧v8=.int .i64 k∧Hid (Since w wr∧Blk wr B 36 #[.int .i64 x.1,.int .i64 x.2])∧Hid (∀ j,j<k→pAt l j≠x)) (fun v8 _=>n-(intOf v8).toNat)
 case atStart=>exact⟨0,Nat.zero_le _,by go_num,HW1,fun j hj=>absurd hj (Nat.not_lt_zero _)⟩
 case round =>
  clear HW1
  obtain⟨k,hk,rfl,HW,HA⟩:=hrel
  rcases Nat.lt_or_ge k n with hkn | hge
  ·have hz:decide ((k:Int)<(n:Int))=true:=by rw[decide_eq_true_eq];omega
   have i1:(0:Int)≤(k:Int):=by omega
   have i2:(k:Int)<(n:Int):=by omega
   obtain⟨g,o,rfl,h1,h2⟩:=HC.out k hkn
   obtain⟨t,ht⟩:∃ t,Hid (t=pAt l k):=⟨_,rfl⟩
   rw[← ht.out] at h1 h2
   have h1:=keepC HW.out.1 _ _ h1
   have h2:=keepC HW.out.1 _ _ h2
   have r0:=HW.out.2.cell 0
   have r1:=HW.out.2.cell 1
   by_cases e:t=x
   ·have hb:(x.1 == t.1 && x.2 == t.2)=true:=by rw[e];simp
    have HE:=Lib.hid (HR2.out k hkn (by rw[← ht.out];exact e))
    clear e
    go_upto_region 4 with fail
    go_quiet (fail)
    go_wp2_with fail
    go_ret
    exact⟨_,rfl,HE.out,HW.out.1.drewN _⟩
   ·have hb:(x.1 == t.1 && x.2 == t.2)=false:=by rw[eqB_dec,decide_eq_false_iff_not];exact Ne.symm e
    have HA2:Hid (∀ j,j<k+1→pAt l j≠x):=fun j hj=>by
     rcases Nat.lt_succ_iff_lt_or_eq.1 hj with z | z
     ·exact HA.out j z
     ·rw[z,← ht.out];exact e
    clear e
    go_upto_region 4 with fail
    go_quiet (fail)
    go_wp2_with fail
    go_roundw
    case rel=>exact⟨k+1,by omega,by go_num,⟨HW.out.1.drewN _,HW.out.2⟩,HA2⟩
    case measure=>simp[intOf];omega
  ·obtain rfl:n=k:=by omega
   have hz:decide ((n:Int)<(n:Int))=false:=by rw[decide_eq_false_iff_not];omega
   have HE:=Lib.hid (HR1.out HA.out)
   go_wp2_with fail
   go_ret
   exact⟨_,rfl,HE.out,HW.out.1⟩
set_option maxRecDepth 100000 in
theorem ContainsP_any{v:Value}{l:List Pt2}{x:Pt2}{w:World}(hv:PtsS w v l)(hl:l.length≤1000000000000000) :
  Calls Tryz.prog 23 #[v,.agg #[.int .i64 x.1,.int .i64 x.2]] w fun e w' => e=.returned (.bool (decide (x∈l)))∧Since w w' := by
 have HI:=Lib.hid (fun w' (k:Since w w')=>IndexP_any (x:=x) (hv.keep (keepC k)) hl)
 obtain⟨a,c,rfl,-⟩:=hv
 obtain⟨b,hb⟩:∃ b,Hid (b=decide (x∈l)):=⟨_,rfl⟩
 have HD:Hid (∀ r,IdxR l x r→decide (0≤r)=b):=fun r h=>by rw[hb.out];exact h.dec
 rw[← hb.out]
 obtain⟨n,HN⟩:∃ n,Hid (n=l.length):=⟨_,rfl⟩
 rw[← HN.out] at HI ⊢
 obtain⟨B,HB⟩:∃ B,Hid (B=w.heap.size):=⟨_,rfl⟩
 go_enter Tryz.func23,Tryz.ntmps23
 go_upto_region 1 with fail
 rw[← HB.out]
 refine atW (fun w' => Hid (Since w w' ∧ Blk w' B 36 #[.int .i64 x.1,.int .i64 x.2])) ⟨(Since.rfl_ w).alloc _,Blk.new' HB.out⟩ ?_
 rintro w1 HW1
 have r0:=HW1.out.2.cell 0
 have r1:=HW1.out.2.cell 1
 go_wp2_with fail
 refine(HI.out _ HW1.out.1).mono ?_
 rintro e w2 ⟨r,rfl,hr,hs⟩
 have HS2:=Lib.hid (HW1.out.1.trans hs)
 have hd:=HD.out r hr
 clear hs HW1 r0 r1
 go_wp2_with fail
 go_ret
 exact⟨by first | rfl | rw[hd],HS2.out⟩
end
end Go.Proofs.YtdnccjdlmepafaaGreat
