/-
  Walks of package frac: size, gcd, signed, Make, Of, Good, fit; Walks of package frac: divide, Add (an integer and a fraction), parts, Round; The walk of frac.Add at an integer and a fraction between 0 and 1. Conditions: those that each lemma names.
-/
import Derived.Test.YtdnccjdlmepafaaGreatK07
import Derived.Test.YtdnccjdlmepafaaGreatK06
set_option linter.unusedSimpArgs false
set_option linter.unusedVariables false
set_option linter.constructorNameAsVariable false
namespace Go.Proofs.YtdnccjdlmepafaaGreat
section
open Go.RowKit Go.BigFrame
theorem size_f(n:Int)(h : -9223372036854775808<n∧n≤9223372036854775807)(w:World) :
  Calls Tryz.prog 168 #[.int .i64 n] w fun e w' => e=.returned (.int .u64 (n.natAbs:Int))∧w=w' := by
 rcases Int.lt_or_le n 0 with h1 | h1
 ·have e:IntKind.u64.wrap (-(IntKind.u64.wrap n))=(n.natAbs:Int):=by rw[uW_eq,uW_eq];unfold uW;omega
  go_enter Tryz.func168,Tryz.ntmps168
  go_wp2
  go_ret
  exact⟨rfl,rfl⟩
 ·have e:IntKind.u64.wrap n=(n.natAbs:Int):=by rw[uW_eq];unfold uW;omega
  go_enter Tryz.func168,Tryz.ntmps168
  go_wp2
  go_ret
  exact⟨rfl,rfl⟩
theorem gcd_f(a b:Nat)(ha:a<18446744073709551616)(hb:b<18446744073709551616)(w:World) :
  Calls Tryz.prog 169 #[.int .u64 a,.int .u64 b] w fun e w' => e=.returned (.int .u64 (Nat.gcd a b:Int))∧Since w w' := by
 go_enter Tryz.func169,Tryz.ntmps169
 go_wp2
 go_loopw [0,1] (fun x y wr=>∃ c d:Nat,c<18446744073709551616∧d<18446744073709551616∧x=.int .u64 c∧y=.int .u64 d∧Hid (Nat.gcd c d=Nat.gcd a b)∧Hid (Since w wr)) (fun _ y _=>(intOf y).toNat)
 case atStart=>exact⟨a,b,ha,hb,rfl,rfl,rfl,Since.rfl_ w⟩
 case round =>
  obtain⟨c,d,hc,hd,rfl,rfl,HG,HS⟩:=hrel
  rcases Nat.eq_zero_or_pos d with h0 | h0
  ·subst h0
   go_wp2_with fail
   go_ret
   exact⟨ret_int (by have:=HG.out;rw[Nat.gcd_zero_right] at this;rw[this]),HS.out⟩
  ·have hp:(0:Int)<(d:Int):=by omega
   have hz:((d:Int) == 0)=false:=by rw[beq_eq_false_iff_ne];omega
   have hm:c % d<d:=Nat.mod_lt _ h0
   obtain⟨r,HR⟩:∃ r,Hid (r=c % d):=⟨_,rfl⟩
   have hr:(c:Int) % (d:Int)=(r:Int):=by rw[HR.out];simp
   have hrd:r<d:=by rw[HR.out];exact hm
   have HG2:Hid (Nat.gcd d r=Nat.gcd a b):=by
    show _=_
    rw[HR.out,← HG.out,Nat.gcd_comm c d,Nat.gcd_comm d (c % d)];exact(Nat.gcd_rec d c).symm
   go_wp2_with fail
   go_quiet (fail)
   go_wp2_with fail
   go_roundw
   case rel=>exact⟨d,r,hd,by omega,rfl,congrArg (Value.int .u64) hr,HG2,HS.out.drewN _⟩
   case measure=>simp[intOf];omega
def fracV(n d:Int):Value:=.agg #[.int .i64 n,.int .i64 d]
theorem Of_f(n:Int)(h : -9223372036854775808<n∧n≤9223372036854775807)(w:World) :
  Calls Tryz.prog 149 #[.int .i64 n] w fun e w' => e=.returned (fracV n 1)∧Since w w' := by
 have hm:max n (-9223372036854775807)=n:=by omega
 have HF:Hid (fracV n 1=.agg #[.int .i64 n,.int .i64 1]):=rfl
 go_enter Tryz.func149,Tryz.ntmps149
 go_wp2
 exact bodyPost_ret (v:=.agg #[.int .i64 n,.int .i64 1]) (by simp[results,Tryz.results149,go_sem]) rfl ⟨by rw[HF.out],(Since.rfl_ w).alloc _⟩
theorem signed_f(n d:Int)(hn:0≤n∧n≤9223372036854775807)(hd:0≤d∧d≤9223372036854775807)(w:World) :
  Calls Tryz.prog 170 #[.bool false,.int .u64 n,.int .u64 d] w fun e w' => e=.returned (.tuple #[.agg #[.int .i64 n,.int .i64 d],.int .i64 0])∧Since w w' := by
 have h1:decide (9223372036854775807<n)=false:=by rw[decide_eq_false_iff_not];omega
 have h2:decide (9223372036854775807<d)=false:=by rw[decide_eq_false_iff_not];omega
 have e1:wrap64 n=n:=w64_id (by omega)
 have e2:wrap64 d=d:=w64_id (by omega)
 go_enter Tryz.func170,Tryz.ntmps170
 go_wp2
 exact bodyPost_ret (v:=.tuple #[.agg #[.int .i64 n,.int .i64 d],.int .i64 0]) (by simp[results,Tryz.results170,go_sem]) rfl ⟨rfl,(Since.rfl_ w).alloc _⟩
theorem size_n(n:Int)(h:0≤n∧n≤9223372036854775807)(w:World) :
  Calls Tryz.prog 168 #[.int .i64 n] w fun e w' => e=.returned (.int .u64 n)∧w=w' := by
 have:=size_f n (by omega) w
 rw[show(n.natAbs:Int)=n by omega] at this
 exact this
theorem gcd_n(a b g:Int)(ha:0≤a∧a<18446744073709551616)(hb:0≤b∧b<18446744073709551616)(hg:g=(Nat.gcd a.toNat b.toNat:Int))(w:World) :
  Calls Tryz.prog 169 #[.int .u64 a,.int .u64 b] w fun e w' => e=.returned (.int .u64 g)∧Since w w' := by
 have:=gcd_f a.toNat b.toNat (by omega) (by omega) w
 rw[show((a.toNat:Nat):Int)=a by omega,show((b.toNat:Nat):Int)=b by omega,← hg] at this
 exact this
theorem Make_f(r d g:Int)(hr:0≤r∧r≤9223372036854775807)(hd:0<d∧d≤9223372036854775807)(hg:g=(Nat.gcd r.toNat d.toNat:Int))(w:World) :
  Calls Tryz.prog 153 #[.int .i64 r,.int .i64 d] w fun e w' => e=.returned (.tuple #[fracV (r/g) (d/g),.int .i64 0])∧Since w w' := by
 have g0:0<g:=by rw[hg];have:=Nat.gcd_pos_of_pos_right r.toNat (show 0<d.toNat by omega);omega
 have HG:=Lib.hid (fun w=>gcd_n r d g (by omega) (by omega) hg w)
 clear hg
 have n1:0≤r/g:=Int.ediv_nonneg hr.1 (by omega)
 have n2:r/g≤r:=Int.ediv_le_self _ hr.1
 have n3:0≤d/g:=Int.ediv_nonneg (by omega) (by omega)
 have n4:d/g≤d:=Int.ediv_le_self _ (by omega)
 obtain⟨p,HP⟩:∃ p,Hid (p=r/g):=⟨_,rfl⟩
 obtain⟨q,HQ⟩:∃ q,Hid (q=d/g):=⟨_,rfl⟩
 have k1:r/g=p:=HP.out.symm
 have k2:d/g=q:=HQ.out.symm
 rw[k1] at n1 n2
 rw[k2] at n3 n4
 have t1:IntKind.u64.wrap (r.tdiv g)=p:=by rw[Int.tdiv_eq_ediv_of_nonneg hr.1,k1,uW_eq];unfold uW;omega
 have t2:IntKind.u64.wrap (d.tdiv g)=q:=by rw[Int.tdiv_eq_ediv_of_nonneg (by omega),k2,uW_eq];unfold uW;omega
 rw[k1,k2]
 have HSg:=Lib.hid (fun w=>signed_f p q (by omega) (by omega) w)
 have hz:(d == 0)=false:=by rw[beq_eq_false_iff_ne];omega
 have hz2:(g == 0)=false:=by rw[beq_eq_false_iff_ne];omega
 have l1:decide (r<0)=false:=by rw[decide_eq_false_iff_not];omega
 have l2:decide (d<0)=false:=by rw[decide_eq_false_iff_not];omega
 go_enter Tryz.func153,Tryz.ntmps153
 go_wp2_with fail
 refine(size_n r hr _).mono ?_
 rintro e w1 ⟨rfl,rfl⟩
 go_wp2_with fail
 refine(size_n d (by omega) _).mono ?_
 rintro e w1 ⟨rfl,rfl⟩
 go_wp2_with fail
 refine(HG.out _).mono ?_
 rintro e w2 ⟨rfl,hs⟩
 have hs0:=Since.trans ((Since.rfl_ w).alloc (.cells #[.int .i64 0,.int .i64 0] 122)) hs
 have hb:=hs.blk (Blk.new w 122 #[.int .i64 0,.int .i64 0])
 have HS2:=Lib.hid (And.intro hs0 hb)
 clear hs hs0 hb
 go_upto_region 5 with fail
 apply region_facts 18 (fun w' => Since w2 w')
 case hm=>kernel_rfl
 case hB=>kernel_rfl
 case hS=>exact(Since.rfl_ w2).drew
 case h =>
 simp only[List.take_succ_cons,List.take_zero,List.drop_succ_cons,List.drop_zero]
 iterate 6 (apply wpO_det;(case hw=>rfl);(case h=>intro hFm wx hS_ hF_ K hK;go_big_quiet_op;first | exact hK _ rfl | (apply Exists.intro;refine⟨fun _=>?_,?_⟩;(focus (first | (intro hC;have hC:=hC.out;(try simp only[hC,Result.andThen]);first | exact⟨True.intro,rfl⟩ | exact⟨rfl,rfl⟩ | rfl)));exact hK _ rfl));(case' k=>simp only[Act.put,List.setIfInBounds_toArray,List.set_cons_succ,List.set_cons_zero,List.cons_append,List.nil_append]))
 apply wpO_skip
 case hw=>rfl
 case k =>
 simp only[Act.put,List.setIfInBounds_toArray,List.set_cons_succ,List.set_cons_zero,List.cons_append,List.nil_append]
 apply wpO_skip
 case hw=>rfl
 case k =>
 simp only[Act.put,List.setIfInBounds_toArray,List.set_cons_succ,List.set_cons_zero,List.cons_append,List.nil_append]
 iterate 7 (apply wpO_det;(case hw=>rfl);(case h=>intro hFm wx hS_ hF_ K hK;go_big_quiet_op;first | exact hK _ rfl | (apply Exists.intro;refine⟨fun _=>?_,?_⟩;(focus (first | (intro hC;have hC:=hC.out;(try simp only[hC,Result.andThen]);first | exact⟨True.intro,rfl⟩ | exact⟨rfl,rfl⟩ | rfl)));exact hK _ rfl));(case' k=>simp only[Act.put,List.setIfInBounds_toArray,List.set_cons_succ,List.set_cons_zero,List.cons_append,List.nil_append]))
 (apply wpO_det;(case hw=>rfl);(case h=>intro hFm wx hS_ hF_ K hK;go_big_quiet_op;first | exact hK _ rfl | (apply Exists.intro;refine⟨fun _=>?_,?_⟩;(focus (first | (intro hC;go_at_call 170;refine(HSg.out _).mono ?_;rintro e w' ⟨rfl,hb⟩;refine⟨rfl,?_⟩;exact cls_call hFm hC hb)));exact hK _ rfl));(case' k=>simp only[Act.put,List.setIfInBounds_toArray,List.set_cons_succ,List.set_cons_zero,List.cons_append,List.nil_append]))
 iterate 2 (apply wpO_det;(case hw=>rfl);(case h=>intro hFm wx hS_ hF_ K hK;go_big_quiet_op;first | exact hK _ rfl | (apply Exists.intro;refine⟨fun _=>?_,?_⟩;(focus (first | (intro hC;have hC:=hC.out;(try simp only[hC,Result.andThen]);first | exact⟨True.intro,rfl⟩ | exact⟨rfl,rfl⟩ | rfl)));exact hK _ rfl));(case' k=>simp only[Act.put,List.setIfInBounds_toArray,List.set_cons_succ,List.set_cons_zero,List.cons_append,List.nil_append]))
 refine wpO_nil ?_
 intro w3 hS hF hB
 (try simp[allF] at hF)
 (try simp[List.pairwise_cons] at hB)
 have hb:=hS.blk HS2.out.2
 have HS3:=Lib.hid (HS2.out.1.trans hS)
 have r0:w3.cell? ⟨w.heap.size,0,none⟩=some (.int .i64 0):=hb.cell 0
 have r1:w3.cell? ⟨w.heap.size,1,none⟩=some (.int .i64 0):=hb.cell 1
 have f0:=hb.frozen 0
 have f1:=hb.frozen 1
 clear hb hS
 go_wp2_with fail
 refine bodyPost_ret (v:=.tuple #[.agg #[.int .i64 p,.int .i64 q],.int .i64 0]) (by simp[results,Tryz.results153,go_sem,cSetS,cSetO,cellDrew,r0,r1]) rfl ⟨rfl,?_⟩
 exact(HS3.out.setCell (Nat.le_refl _) _).setCell (Nat.le_refl _) _
structure FracOk(n d:Int):Prop where
 n1 : -9223372036854775808<n
 n2:n≤9223372036854775807
 d1:0<d
 d2:d≤9223372036854775807
 g:Nat.gcd n.natAbs d.toNat=1
theorem Good_f(n d:Int)(h:FracOk n d)(w:World) :
  Calls Tryz.prog 173 #[fracV n d] w fun e w' => e=.returned (.bool true)∧Since w w' := by
 obtain⟨n1,n2,d1,d2,hg⟩:=h
 have HG:=Lib.hid (fun w=>gcd_n (n.natAbs:Int) d 1 (by omega) (by omega) (by rw[show((n.natAbs:Int)).toNat=n.natAbs by omega,hg];rfl) w)
 have HS1:=Lib.hid (fun w=>size_f n (by omega) w)
 obtain⟨a,HA⟩:∃ a:Int,Hid (a=(n.natAbs:Int)):=⟨_,rfl⟩
 rw[← HA.out] at HG HS1
 have HS2:=Lib.hid (fun w=>size_n d (by omega) w)
 have l1:decide (0<d)=true:=by rw[decide_eq_true_eq];omega
 have l2:decide (-9223372036854775808<n)=true:=by rw[decide_eq_true_eq];omega
 clear hg
 unfold fracV
 go_enter Tryz.func173,Tryz.ntmps173
 go_upto_region 1 with fail
 have hb:=Blk.new w 122 #[.int .i64 n,.int .i64 d]
 have c0:(w.alloc (.cells #[.int .i64 n,.int .i64 d] 122)).cell? ⟨w.heap.size,0,none⟩=some (.int .i64 n):=hb.cell 0
 have c1:(w.alloc (.cells #[.int .i64 n,.int .i64 d] 122)).cell? ⟨w.heap.size,1,none⟩=some (.int .i64 d):=hb.cell 1
 apply region_facts 19 (fun w' => w'.cell? ⟨w.heap.size,0,none⟩=some (.int .i64 n)∧w'.cell? ⟨w.heap.size,1,none⟩=some (.int .i64 d)∧Since w w')
 case hm=>kernel_rfl
 case hB=>kernel_rfl
 case hS=>exact⟨c0,c1,((Since.rfl_ w).alloc _).drew⟩
 case h =>
 simp only[List.take_succ_cons,List.take_zero,List.drop_succ_cons,List.drop_zero]
 iterate 11 (apply wpO_det;(case hw=>rfl);(case h=>intro hFm wx hS_ hF_ K hK;go_big_quiet_op;first | exact hK _ rfl | (apply Exists.intro;refine⟨fun _=>?_,?_⟩;(focus (first | (intro hC;have hC:=hC.out;(try simp only[hC,Result.andThen]);first | exact⟨True.intro,rfl⟩ | exact⟨rfl,rfl⟩ | rfl)));exact hK _ rfl));(case' k=>simp only[Act.put,List.setIfInBounds_toArray,List.set_cons_succ,List.set_cons_zero,List.cons_append,List.nil_append]))
 (apply wpO_det;(case hw=>rfl);(case h=>intro hFm wx hS_ hF_ K hK;go_big_quiet_op;first | exact hK _ rfl | (apply Exists.intro;refine⟨fun _=>?_,?_⟩;(focus (first | (intro hC;go_at_call 168;refine(HS1.out _).mono ?_;rintro e w' ⟨rfl,rfl⟩;exact⟨rfl,hC⟩)));exact hK _ rfl));(case' k=>simp only[Act.put,List.setIfInBounds_toArray,List.set_cons_succ,List.set_cons_zero,List.cons_append,List.nil_append]))
 iterate 2 (apply wpO_det;(case hw=>rfl);(case h=>intro hFm wx hS_ hF_ K hK;go_big_quiet_op;first | exact hK _ rfl | (apply Exists.intro;refine⟨fun _=>?_,?_⟩;(focus (first | (intro hC;have hC:=hC.out;(try simp only[hC,Result.andThen]);first | exact⟨True.intro,rfl⟩ | exact⟨rfl,rfl⟩ | rfl)));exact hK _ rfl));(case' k=>simp only[Act.put,List.setIfInBounds_toArray,List.set_cons_succ,List.set_cons_zero,List.cons_append,List.nil_append]))
 (apply wpO_det;(case hw=>rfl);(case h=>intro hFm wx hS_ hF_ K hK;go_big_quiet_op;first | exact hK _ rfl | (apply Exists.intro;refine⟨fun _=>?_,?_⟩;(focus (first | (intro hC;go_at_call 168;refine(HS2.out _).mono ?_;rintro e w' ⟨rfl,rfl⟩;exact⟨rfl,hC⟩)));exact hK _ rfl));(case' k=>simp only[Act.put,List.setIfInBounds_toArray,List.set_cons_succ,List.set_cons_zero,List.cons_append,List.nil_append]))
 (apply wpO_det;(case hw=>rfl);(case h=>intro hFm wx hS_ hF_ K hK;go_big_quiet_op;first | exact hK _ rfl | (apply Exists.intro;refine⟨fun _=>?_,?_⟩;(focus (first | (intro hC;go_at_call 169;refine(HG.out _).mono ?_;rintro e w' ⟨rfl,hb⟩;refine⟨rfl,?_⟩;exact cls_call hFm hC hb)));exact hK _ rfl));(case' k=>simp only[Act.put,List.setIfInBounds_toArray,List.set_cons_succ,List.set_cons_zero,List.cons_append,List.nil_append]))
 iterate 3 (apply wpO_det;(case hw=>rfl);(case h=>intro hFm wx hS_ hF_ K hK;go_big_quiet_op;first | exact hK _ rfl | (apply Exists.intro;refine⟨fun _=>?_,?_⟩;(focus (first | (intro hC;have hC:=hC.out;(try simp only[hC,Result.andThen]);first | exact⟨True.intro,rfl⟩ | exact⟨rfl,rfl⟩ | rfl)));exact hK _ rfl));(case' k=>simp only[Act.put,List.setIfInBounds_toArray,List.set_cons_succ,List.set_cons_zero,List.cons_append,List.nil_append]))
 refine wpO_nil ?_
 intro w3 hS hF hB
 (try simp[allF] at hF)
 (try simp[List.pairwise_cons] at hB)
 have HS3:=Lib.hid hS.2.2
 clear hS
 go_wp2_with fail
 go_ret
 exact⟨rfl,HS3.out⟩
theorem fit_f(n d:Int)(h:FracOk n d)(w:World) :
  Calls Tryz.prog 155 #[fracV n d] w fun e w' => e=.returned (fracV n d)∧Since w w' := by
 have HG:=Lib.hid (fun w=>Good_f n d h w)
 have HF:Hid (fracV n d=.agg #[.int .i64 n,.int .i64 d]):=rfl
 rw[HF.out] at HG ⊢
 clear h
 go_enter Tryz.func155,Tryz.ntmps155
 go_wp2_with fail
 refine(HG.out _).mono ?_
 rintro e w1 ⟨rfl,hs⟩
 have hs0:=Since.trans (((Since.rfl_ w).alloc (.cells #[.int .i64 n,.int .i64 d] 122)).alloc (.cells #[.int .i64 0,.int .i64 0] 122)) hs
 have hb:=hs.blk ((Blk.new w 122 #[.int .i64 n,.int .i64 d]).alloc (.cells #[.int .i64 0,.int .i64 0] 122))
 have hb2:=hs.blk (Blk.new' (w:=w.alloc (.cells #[.int .i64 n,.int .i64 d] 122)) (g:=w.heap.size+1) (t:=122) (cs := #[.int .i64 0,.int .i64 0]) (by simp))
 have c0:w1.cell? ⟨w.heap.size,0,none⟩=some (.int .i64 n):=hb.cell 0
 have c1:w1.cell? ⟨w.heap.size,1,none⟩=some (.int .i64 d):=hb.cell 1
 have r0:w1.cell? ⟨w.heap.size+1,0,none⟩=some (.int .i64 0):=hb2.cell 0
 have r1:w1.cell? ⟨w.heap.size+1,1,none⟩=some (.int .i64 0):=hb2.cell 1
 have f0:=hb2.frozen 0
 have f1:=hb2.frozen 1
 have HS:=Lib.hid hs0
 clear hs hs0 hb hb2
 go_wp2_with fail
 refine bodyPost_ret (v:=.agg #[.int .i64 n,.int .i64 d]) (by simp[results,Tryz.results155,go_sem,cSetS,cSetO,cellDrew,r0,r1]) rfl ⟨rfl,?_⟩
 exact(HS.out.setCell (by dsimp only;omega) _).setCell (by dsimp only;omega) _
end
section
open Go.RowKit Go.BigFrame
theorem divide_w(z n:Int)(hz : -18446744073709551616≤z∧z<18446744073709551616)(hn:1≤n∧n≤9223372036854775807)(w:World) :
  Calls Tryz.prog 172 #[wideV z,.int .i64 n] w fun e w' => e=.returned (.tuple #[wideV (z/n),.int .i64 (z % n),.int .i64 0])∧Since w w' := by
 have HD:=Lib.hid (fun w=>Div_w z n hz hn w)
 unfold wideV at HD ⊢
 obtain⟨a,HA⟩:∃ a,Hid (a=wHi z):=⟨_,rfl⟩
 obtain⟨b,HB⟩:∃ b,Hid (b=wLo z):=⟨_,rfl⟩
 obtain⟨c,HC⟩:∃ c,Hid (c=wHi (z/n)):=⟨_,rfl⟩
 obtain⟨d,HDD⟩:∃ d,Hid (d=wLo (z/n)):=⟨_,rfl⟩
 obtain⟨r,HR⟩:∃ r,Hid (r=z % n):=⟨_,rfl⟩
 rw[← HA.out,← HB.out,← HC.out,← HDD.out,← HR.out] at HD
 rw[← HA.out,← HB.out,← HC.out,← HDD.out,← HR.out]
 clear hz hn
 go_enter Tryz.func172,Tryz.ntmps172
 go_wp2_with fail
 refine(HD.out _).mono ?_
 rintro e w1 ⟨rfl,hs⟩
 have hs0:=Since.trans (((Since.rfl_ w).alloc (.cells #[.int .i64 a,.int .u64 b] 177)).alloc (.cells #[.int .i64 0,.int .u64 0] 177)) hs
 have hb2:=hs.blk (Blk.new' (w:=w.alloc (.cells #[.int .i64 a,.int .u64 b] 177)) (g:=w.heap.size+1) (t:=177) (cs := #[.int .i64 0,.int .u64 0]) (by simp))
 have r0:w1.cell? ⟨w.heap.size+1,0,none⟩=some (.int .i64 0):=hb2.cell 0
 have r1:w1.cell? ⟨w.heap.size+1,1,none⟩=some (.int .u64 0):=hb2.cell 1
 have f0:=hb2.frozen 0
 have f1:=hb2.frozen 1
 have HS:=Lib.hid hs0
 clear hs hs0 hb2
 go_wp2_with fail
 refine bodyPost_ret (v:=.tuple #[.agg #[.int .i64 c,.int .u64 d],.int .i64 r,.int .i64 0]) (by simp[results,Tryz.results172,go_sem,cSetS,cSetO,cellDrew,r0,r1]) rfl ⟨rfl,?_⟩
 exact(HS.out.setCell (by dsimp only;omega) _).setCell (by dsimp only;omega) _
theorem parts_f(n d:Int)(hn : -9223372036854775808<n∧n≤9223372036854775807)(hd:0<d∧d≤9223372036854775807)(w:World) :
  Calls Tryz.prog 156 #[.agg #[.int .i64 n,.int .i64 d]] w fun e w' => e=.returned (.tuple #[.int .i64 (n/d),.int .i64 (n % d)])∧Since w w' := by
 have hz:(d == 0)=false:=by rw[beq_eq_false_iff_ne];omega
 have m0:=Int.emod_nonneg n (show d≠0 by omega)
 have m1:=Int.emod_lt_of_pos n hd.1
 have dm:=Int.mul_ediv_add_emod n d
 obtain⟨Q,HQ⟩:∃ Q,Hid (Q=n.tdiv d):=⟨_,rfl⟩
 obtain⟨R,HR⟩:∃ R,Hid (R=n.tmod d):=⟨_,rfl⟩
 have q1:n.tdiv d=Q:=HQ.out.symm
 have r1:n.tmod d=R:=HR.out.symm
 have key:(0≤R→n/d=Q∧n % d=R)∧(R<0→n/d=Q-1∧n % d=R+d) ∧ -9223372036854775808<Q∧Q≤9223372036854775807 ∧ -d<R∧R<d:=by
  have e1:=Int.mul_tdiv_add_tmod n d
  rw[q1,r1] at e1
  have rb : -d<R∧R<d:=by
   rw[HR.out]
   exact⟨Int.lt_tmod_of_pos n hd.1,Int.tmod_lt_of_pos n hd.1⟩
  have uniq:∀ q r:Int,d*q+r=n→0≤r→r<d→n/d=q∧n % d=r:=by
   intro q r e h0 h1
   rw[← e]
   exact⟨by rw[Int.add_comm,Int.add_mul_ediv_left _ _ (by omega),Int.ediv_eq_zero_of_lt h0 h1];omega,by rw[Int.add_comm,Int.add_mul_emod_self_left,Int.emod_eq_of_lt h0 h1]⟩
  refine⟨fun h=>uniq Q R e1 h rb.2,fun h=>uniq (Q-1) (R+d) (by rw[← e1];grind) (by omega) (by omega),?_,?_,rb⟩
  ·have:=Int.natAbs_tdiv_le_natAbs n d
   rw[q1] at this;omega
  ·have:=Int.natAbs_tdiv_le_natAbs n d
   rw[q1] at this;omega
 obtain⟨k1,k2,k3,k4,k5,k6⟩:=key
 have K1:=Lib.hid k1
 have K2:=Lib.hid k2
 have w1:wrap64 Q=Q:=w64_id (by omega)
 have w2:IntKind.i64.wrap Q=Q:=by rw[IntKind.wrap_i64];omega
 clear k1 k2 dm m0 m1
 have c0:(w.alloc (.cells #[.int .i64 n,.int .i64 d] 122)).cell? ⟨w.heap.size,0,none⟩=some (.int .i64 n):=(Blk.new w 122 #[.int .i64 n,.int .i64 d]).cell 0
 have c1:(w.alloc (.cells #[.int .i64 n,.int .i64 d] 122)).cell? ⟨w.heap.size,1,none⟩=some (.int .i64 d):=(Blk.new w 122 #[.int .i64 n,.int .i64 d]).cell 1
 rcases Int.lt_or_le R 0 with h | h
 ·go_enter Tryz.func156,Tryz.ntmps156
  go_upto_region 1 with fail
  go_quiet (fail)
  go_wp2_with fail
  go_quiet (fail)
  go_wp2_with fail
  go_ret2
  obtain⟨e1,e2⟩:=K2.out h
  exact⟨by rw[e1,e2];rfl,(((Since.rfl_ w).alloc _).drewN _).drewN _⟩
 ·go_enter Tryz.func156,Tryz.ntmps156
  go_upto_region 1 with fail
  go_quiet (fail)
  go_wp2_with fail
  go_ret2
  obtain⟨e1,e2⟩:=K1.out h
  exact⟨by rw[e1,e2];rfl,((Since.rfl_ w).alloc _).drewN _⟩
def rndF(n d:Int):Int:=(2*n+d)/(2*d)
theorem rndF_parts{n d:Int}(hd:0<d):rndF n d=n/d+(if d-n % d≤n % d then 1 else 0):=by
 have m0:=Int.emod_nonneg n (show d≠0 by omega)
 have m1:=Int.emod_lt_of_pos n hd
 have dm:=Int.mul_ediv_add_emod n d
 obtain⟨q,hq⟩:∃ q,q=n/d:=⟨_,rfl⟩
 obtain⟨r,hr⟩:∃ r,r=n % d:=⟨_,rfl⟩
 rw[← hq,← hr] at dm ⊢
 rw[← hr] at m0 m1
 unfold rndF
 split
 ·rw[show 2*n+d=(2*r-d)+(2*d)*(q+1) by rw[← dm];grind,Int.add_mul_ediv_left _ _ (by omega),Int.ediv_eq_zero_of_lt (by omega) (by omega)];omega
 ·rw[show 2*n+d=(2*r+d)+(2*d)*q by rw[← dm];grind,Int.add_mul_ediv_left _ _ (by omega),Int.ediv_eq_zero_of_lt (by omega) (by omega)];omega
theorem Round_f(n d:Int)(h:FracOk n d)(w:World) :
  Calls Tryz.prog 122 #[.agg #[.int .i64 n,.int .i64 d]] w fun e w' => e=.returned (.int .i64 (rndF n d))∧Since w w' := by
 have hd:=h.d1
 have hd2:=h.d2
 have hn:=h.n1
 have hn2:=h.n2
 have HF:Hid (∀ w,Calls Tryz.prog 155 #[.agg #[.int .i64 n,.int .i64 d]] w fun e w' => e=.returned (.agg #[.int .i64 n,.int .i64 d])∧Since w w'):=fun w=>fit_f n d h w
 have HP:=Lib.hid (fun w=>parts_f n d ⟨hn,hn2⟩ ⟨hd,hd2⟩ w)
 have HV:=Lib.hid (rndF_parts (n:=n) hd)
 have m0:=Int.emod_nonneg n (show d≠0 by omega)
 have m1:=Int.emod_lt_of_pos n hd
 have dm:=Int.mul_ediv_add_emod n d
 have q0 : -9223372036854775808<n/d∧n/d≤9223372036854775807∧(d-n % d≤n % d→n/d<9223372036854775807):=by
  have:=Int.natAbs_ediv_le_natAbs n d
  refine⟨by omega,by omega,fun hk=>?_⟩
  rcases Int.lt_or_le (n/d) 0 with h0 | h0
  ·omega
  ·have h1:=Int.mul_nonneg (show 0≤d-2 by omega) h0
   rw[Int.sub_mul] at h1
   omega
 obtain⟨q,HQ⟩:∃ q,Hid (q=n/d):=⟨_,rfl⟩
 obtain⟨r,HR⟩:∃ r,Hid (r=n % d):=⟨_,rfl⟩
 rw[← HQ.out,← HR.out] at HP HV
 rw[← HR.out] at m0 m1
 rw[← HQ.out,← HR.out] at q0
 have Q0:=Lib.hid q0.2.2
 have q1:=q0.1
 have q2:=q0.2.1
 clear q0
 clear dm h
 go_enter Tryz.func122,Tryz.ntmps122
 go_wp2_with fail
 refine(HF.out _).mono ?_
 rintro e w1 ⟨rfl,hs⟩
 have hb1:=hs.blk (Blk.new w 122 #[.int .i64 n,.int .i64 d])
 have HS1:=Lib.hid (Since.trans ((Since.rfl_ w).alloc (.cells #[.int .i64 n,.int .i64 d] 122)) hs)
 have c0:w1.cell? ⟨w.heap.size,0,none⟩=some (.int .i64 n):=hb1.cell 0
 have c1:w1.cell? ⟨w.heap.size,1,none⟩=some (.int .i64 d):=hb1.cell 1
 have f0:=hb1.frozen 0
 have f1:=hb1.frozen 1
 have HB1:=Lib.hid hb1
 clear hs hb1
 go_upto_region 2 with fail
 refine atW (fun w' => Since w w' ∧ Blk w' w.heap.size 122 #[.int .i64 n,.int .i64 d]) ⟨(HS1.out.setCell (Nat.le_refl _) _).setCell (Nat.le_refl _) _,((HB1.out.set_ 0 (.int .i64 n)).set_ 1 (.int .i64 d))⟩ ?_
 clear HS1 HB1 c0 c1 f0 f1
 rintro w2 ⟨hs,hb2⟩
 have c0:w2.cell? ⟨w.heap.size,0,none⟩=some (.int .i64 n):=hb2.cell 0
 have c1:w2.cell? ⟨w.heap.size,1,none⟩=some (.int .i64 d):=hb2.cell 1
 have HS2:=Lib.hid (And.intro hs hb2)
 clear hs hb2
 go_wp2_with fail
 refine(HP.out _).mono ?_
 rintro e w3 ⟨rfl,hs⟩
 have hb3:=hs.blk HS2.out.2
 have HS3:=Lib.hid (HS2.out.1.trans hs)
 clear hs c0 c1 HS2
 have c1:w3.cell? ⟨w.heap.size,1,none⟩=some (.int .i64 d):=hb3.cell 1
 clear hb3
 by_cases hk:d-r≤r
 ·have HK:=Lib.hid hk
  have q3:=Q0.out hk
  go_wp2_with fail
  go_ret
  exact⟨ret_int (by rw[HV.out,if_pos HK.out]),HS3.out⟩
 ·have HK:=Lib.hid hk
  have hk2:r<d-r:=by omega
  go_wp2_with fail
  go_ret
  exact⟨ret_int (by rw[HV.out,if_neg (by omega)];omega),HS3.out⟩
end
section
open Go.RowKit Go.BigFrame
theorem sumOk{m p q:Int}(h:FracOk p q)(hs : -9223372036854775808<m*q+p∧m*q+p≤9223372036854775807):FracOk (m*q+p) q:=by
 refine⟨hs.1,hs.2,h.d1,h.d2,?_⟩
 have hg:=h.g
 have e1:Nat.gcd (m*q+p).natAbs q.toNat=Int.gcd (m*q+p) q:=by unfold Int.gcd;congr 1;have:=h.d1;omega
 have e2:Nat.gcd p.natAbs q.toNat=Int.gcd p q:=by unfold Int.gcd;congr 1;have:=h.d1;omega
 rw[e1]
 rw[e2] at hg
 rw[Int.add_comm,Int.gcd_add_mul_right_left]
 exact hg
set_option maxRecDepth 100000 in
set_option maxHeartbeats 2000000 in
theorem Add_f(m p q:Int)(h:FracOk p q)(hm : -1048577≤m∧m≤1048577)(hp:0≤p∧p<q)(hq:q≤8796093022208)(hs : -9223372036854775808<m*q+p∧m*q+p≤9223372036854775807)(w:World) :
  Calls Tryz.prog 154 #[.agg #[.int .i64 m,.int .i64 1],.agg #[.int .i64 p,.int .i64 q]] w fun e w' => e=.returned (.tuple #[.agg #[.int .i64 (m*q+p),.int .i64 q],.int .i64 0])∧Since w w' := by
 have hm1:FracOk m 1:=⟨by omega,by omega,by omega,by omega,by simp⟩
 have d1:=h.d1
 have HF1:Hid (∀ w,Calls Tryz.prog 155 #[.agg #[.int .i64 m,.int .i64 1]] w fun e w' => e=.returned (.agg #[.int .i64 m,.int .i64 1])∧Since w w'):=fun w=>fit_f m 1 hm1 w
 have HF2:Hid (∀ w,Calls Tryz.prog 155 #[.agg #[.int .i64 p,.int .i64 q]] w fun e w' => e=.returned (.agg #[.int .i64 p,.int .i64 q])∧Since w w'):=fun w=>fit_f p q h w
 have HZ1:=Lib.hid (fun w=>size_n 1 (by omega) w)
 have HZ2:=Lib.hid (fun w=>size_n q (by omega) w)
 have HZ0:=Lib.hid (fun w=>size_n 0 (by omega) w)
 have HG1:=Lib.hid (fun w=>gcd_n 1 q 1 (by omega) (by omega) (by simp) w)
 have HG2:=Lib.hid (fun w=>gcd_n 0 1 1 (by omega) (by omega) (by simp) w)
 have b1 : -(1048577*q)≤m*q:=by
  have:=Int.mul_le_mul_of_nonneg_right (show -1048577≤m by omega) (show 0≤q by omega);omega
 have b2:m*q≤1048577*q:=Int.mul_le_mul_of_nonneg_right (show m≤1048577 by omega) (show 0≤q by omega)
 obtain⟨s,HSS⟩:∃ s,Hid (s=m*q+p):=⟨_,rfl⟩
 obtain⟨h1,H1⟩:∃ a,Hid (a=wHi (m*q)):=⟨_,rfl⟩
 obtain⟨l1,L1⟩:∃ a,Hid (a=wLo (m*q)):=⟨_,rfl⟩
 obtain⟨h2,H2⟩:∃ a,Hid (a=wHi (p*1)):=⟨_,rfl⟩
 obtain⟨l2,L2⟩:∃ a,Hid (a=wLo (p*1)):=⟨_,rfl⟩
 obtain⟨h3,H3⟩:∃ a,Hid (a=wHi s):=⟨_,rfl⟩
 obtain⟨l3,L3⟩:∃ a,Hid (a=wLo s):=⟨_,rfl⟩
 obtain⟨h4,H4⟩:∃ a,Hid (a=wHi (1*q)):=⟨_,rfl⟩
 obtain⟨l4,L4⟩:∃ a,Hid (a=wLo (1*q)):=⟨_,rfl⟩
 have HM1:=Lib.hid (fun w=>Mul_w m q (by omega) (by omega) (by omega) w)
 have HM2:=Lib.hid (fun w=>Mul_w p 1 (by omega) (by omega) (by omega) w)
 have HM3:=Lib.hid (fun w=>Mul_w 1 q (by omega) (by omega) (by omega) w)
 have HA:=Lib.hid (fun w=>Add_w (m*q) (p*1) (by omega) (by omega) w)
 have HD:=Lib.hid (fun w=>Div_w s 1 (by rw[HSS.out];omega) (by omega) w)
 have HDD:=Lib.hid (fun w=>divide_w s 1 (by rw[HSS.out];omega) (by omega) w)
 have HS1:=Lib.hid (fun w=>Short_w s (by rw[HSS.out];omega) w)
 have HS2:=Lib.hid (fun w=>Short_w (1*q) (by omega) w)
 have e0:m*q+p*1=s:=by rw[HSS.out];omega
 have e1:s/1=s:=Int.ediv_one s
 have e2:s % 1=0:=Int.emod_one s
 rw[e0] at HA
 rw[e1,e2] at HD HDD
 unfold wideV at HM1 HM2 HM3 HA HD HDD HS1 HS2
 rw[← H1.out,← L1.out] at HM1 HA
 rw[← H2.out,← L2.out] at HM2 HA
 rw[← H4.out,← L4.out] at HM3 HS2
 rw[← H3.out,← L3.out] at HA HD HDD HS1
 rw[Int.one_mul] at HS2
 rw[← HSS.out]
 have hsb : -9223372036854775808<s∧s≤9223372036854775807:=by rw[HSS.out];omega
 have hsn:(s == -9223372036854775808)=false:=by rw[beq_eq_false_iff_ne];omega
 have hqp:=hp
 clear e0 e1 e2 b1 b2 hm1 h hs
 go_enter Tryz.func154,Tryz.ntmps154
 go_upto_region 1 with fail
 obtain⟨G,HG⟩:∃ G,G=w.heap.size:=⟨_,rfl⟩
 rw[← HG]
 refine atW (fun w' => Since w w' ∧ Blk w' G 122 #[.int .i64 m,.int .i64 1]∧Blk w' (G+1) 122 #[.int .i64 p,.int .i64 q]∧Blk w' (G+1+1) 122 #[.int .i64 0,.int .i64 0]) ⟨(((Since.rfl_ w).alloc _).alloc _).alloc _,((Blk.new' HG).alloc _).alloc _,(Blk.new' (by simp[HG])).alloc _,Blk.new' (by simp[HG])⟩ ?_
 rintro w1 ⟨hs,ba,bb,bc⟩
 go_cut [] from 6 to 17 (fun w' => Since w w' ∧ Blk w' G 122 #[.int .i64 m,.int .i64 1]∧Blk w' (G+1) 122 #[.int .i64 p,.int .i64 q]∧Blk w' (G+1+1) 122 #[.int .i64 0,.int .i64 0])
 case first =>
  have hw1:=hs.size
  have HGG:=Lib.hid HG
  letI TT:Tgt:=⟨fun g=>if g=G then some (.cells #[.int .i64 m,.int .i64 1] 122) else if g=G+1 then some (.cells #[.int .i64 p,.int .i64 q] 122) else none⟩
  have KT:∀ g,g<G→Tgt.T g=none:=fun g h=>by
   show(if _ then _ else if _ then _ else _)=_
   rw[if_neg (by omega),if_neg (by omega)]
  have KU:∀ g,G+1<g→Tgt.T g=none:=fun g h=>by
   show(if _ then _ else if _ then _ else _)=_
   rw[if_neg (by omega),if_neg (by omega)]
  have K0:Tgt.T G=some (.cells #[.int .i64 m,.int .i64 1] 122 (0,0)):=if_pos rfl
  have K1:Tgt.T (G+1)=some (.cells #[.int .i64 p,.int .i64 q] 122 (0,0)):=(if_neg (by omega)).trans (if_pos rfl)
  have KB:=Lib.hid (fun w' (h:SinceT w1 w')=>(show Blk w' G 122 #[.int .i64 m,.int .i64 1]∧Blk w' (G+1) 122 #[.int .i64 p,.int .i64 q]∧Blk w' (G+1+1) 122 #[.int .i64 0,.int .i64 0] from⟨h.blkT K0 ba,h.blkT K1 bb,h.blk (KU _ (by omega)) bc⟩))
  have KF:=Lib.hid (fun w' (h:SinceT w1 w')=>(show w'.cell? ⟨G,0,none⟩=some (.int .i64 m)∧w'.cell? ⟨G,1,none⟩=some (.int .i64 1)∧w'.cell? ⟨G+1,0,none⟩=some (.int .i64 p)∧w'.cell? ⟨G+1,1,none⟩=some (.int .i64 q) from
   ⟨(KB.out w' h).1.cell 0,(KB.out w' h).1.cell 1,(KB.out w' h).2.1.cell 0,(KB.out w' h).2.1.cell 1⟩))
  have hl4:=bc.lt
  have HW1:=Lib.hid hs
  clear ba bb bc hs HG
  apply region_factsT 6 (fun w' => SinceT w1 w')
  case hm=>kernel_rfl
  case hB=>kernel_rfl
  case hS=>exact(SinceT.rfl_ w1).drew
  case hmono=>exact(fun _ _ h k=>h.trans k)
  case hTb=>exact(fun g hg=>KU g (by omega))
  case h =>
  simp only[List.take_succ_cons,List.take_zero,List.drop_succ_cons,List.drop_zero]
  (apply wpO_detT;(case hw=>rfl);(case h=>intro hFm wx hS_ hF_ K hK;go_big_quiet_op;first | exact hK _ rfl | (apply Exists.intro;refine⟨fun _=>?_,?_⟩;(focus (first | (intro hC;have hC:=KF.out _ hC.out.1;(try simp only[hC,Result.andThen]);first | exact⟨True.intro,rfl⟩ | exact⟨rfl,rfl⟩ | rfl)));exact hK _ rfl));(case' k=>simp only[Act.put,List.setIfInBounds_toArray,List.set_cons_succ,List.set_cons_zero,List.cons_append,List.nil_append]))
  (apply wpO_detT;(case hw=>rfl);(case h=>intro hFm wx hS_ hF_ K hK;go_big_quiet_op;first | exact hK _ rfl | (apply Exists.intro;refine⟨fun _=>?_,?_⟩;(focus (first | (intro hC;go_at_call 155;refine(HF1.out _).mono ?_;rintro e w' ⟨rfl,hb⟩;refine⟨rfl,?_⟩;exact cls_callT (fun _ _ h k=>h.trans k) hFm hC hb)));exact hK _ rfl));(case' k=>simp only[Act.put,List.setIfInBounds_toArray,List.set_cons_succ,List.set_cons_zero,List.cons_append,List.nil_append]))
  (apply wpO_detT;(case hw=>rfl);(case h=>intro hFm wx hS_ hF_ K hK;go_big_quiet_op;first | exact hK _ rfl | (apply Exists.intro;refine⟨fun _=>?_,?_⟩;(focus (first | (intro hC;have hC:=KF.out _ hC.out.1;(try simp only[hC,Result.andThen]);first | exact⟨True.intro,rfl⟩ | exact⟨rfl,rfl⟩ | rfl)));exact hK _ rfl));(case' k=>simp only[Act.put,List.setIfInBounds_toArray,List.set_cons_succ,List.set_cons_zero,List.cons_append,List.nil_append]))
  (apply wpO_detT;(case hw=>rfl);(case h=>intro hFm wx hS_ hF_ K hK;go_big_quiet_op;first | exact hK _ rfl | (apply Exists.intro;refine⟨fun _=>?_,?_⟩;(focus (first | (intro hC;go_at_call 155;refine(HF2.out _).mono ?_;rintro e w' ⟨rfl,hb⟩;refine⟨rfl,?_⟩;exact cls_callT (fun _ _ h k=>h.trans k) hFm hC hb)));exact hK _ rfl));(case' k=>simp only[Act.put,List.setIfInBounds_toArray,List.set_cons_succ,List.set_cons_zero,List.cons_append,List.nil_append]))
  apply wpO_anyT (R:=(fun _ _=>True))
  case hR=>exact(fun _ _ _ h _=>h)
  case hw=>rfl
  case h =>
   intro wx hS_ hF_
   unfold runVT
   (have hb:=(KB.out _ hS_).1;have c0:=hb.cell 0;have c1:=hb.cell 1;have f0:=hb.frozen 0;have f1:=hb.frozen 1;simp only[List.getElem?_toArray,List.getElem?_cons_zero,List.getElem?_cons_succ] at c0 c1;have hr:=Lib.hid (store2_T hb K0).2;simp[go_sem,c0,c1,f0,f1,cSetS,cSetO];exact hr.out)
  case k =>
  intro v0
  simp only[Act.put,List.setIfInBounds_toArray,List.set_cons_succ,List.set_cons_zero,List.cons_append,List.nil_append]
  apply wpO_anyT (R:=(fun _ _=>True))
  case hR=>exact(fun _ _ _ h _=>h)
  case hw=>rfl
  case h =>
   intro wx hS_ hF_
   unfold runVT
   (have hb:=(KB.out _ hS_).2.1;have c0:=hb.cell 0;have c1:=hb.cell 1;have f0:=hb.frozen 0;have f1:=hb.frozen 1;simp only[List.getElem?_toArray,List.getElem?_cons_zero,List.getElem?_cons_succ] at c0 c1;have hr:=Lib.hid (store2_T hb K1).2;simp[go_sem,c0,c1,f0,f1,cSetS,cSetO];exact hr.out)
  case k =>
  intro v1
  simp only[Act.put,List.setIfInBounds_toArray,List.set_cons_succ,List.set_cons_zero,List.cons_append,List.nil_append]
  refine wpO_nilT ?_
  intro w5 hS hF hB
  (try simp[allF] at hF)
  (try simp[List.pairwise_cons] at hB)
  go_wp2_with fail
  go_meet
  exact⟨hS.since HW1.out (fun g hg=>KT g (by have:=HGG.out;omega)),KB.out _ hS⟩
 case rest =>
  obtain⟨hs5,ba5,bb5,bc5⟩:=hcut
  obtain⟨w5,rfl⟩:∃ w5,w5=wc:=⟨_,rfl⟩
  have HW5:=Lib.hid (And.intro hs5 (And.intro ba5 (And.intro bb5 bc5)))
  have HGG:=Lib.hid HG
  clear hs ba bb bc hs5 ba5 bb5 bc5 HG
  have KF:=Lib.hid (fun w' (h:Since w5 w')=>(show w'.cell? ⟨G,0,none⟩=some (.int .i64 m)∧w'.cell? ⟨G,1,none⟩=some (.int .i64 1)∧w'.cell? ⟨G+1,0,none⟩=some (.int .i64 p)∧w'.cell? ⟨G+1,1,none⟩=some (.int .i64 q) from
   ⟨(h.blk HW5.out.2.1).cell 0,(h.blk HW5.out.2.1).cell 1,(h.blk HW5.out.2.2.1).cell 0,(h.blk HW5.out.2.2.1).cell 1⟩))
  go_upto_region 2 with fail
  apply region_facts 9 (fun w' => Since w5 w')
  case hm=>kernel_rfl
  case hB=>kernel_rfl
  case hS=>exact(Since.rfl_ w5).drew
  case h =>
  simp only[List.take_succ_cons,List.take_zero,List.drop_succ_cons,List.drop_zero]
  iterate 2 (apply wpO_det;(case hw=>rfl);(case h=>intro hFm wx hS_ hF_ K hK;go_big_quiet_op;first | exact hK _ rfl | (apply Exists.intro;refine⟨fun _=>?_,?_⟩;(focus (first | (intro hC;have hC:=KF.out _ hC.out.1;(try simp only[hC,Result.andThen]);first | exact⟨True.intro,rfl⟩ | exact⟨rfl,rfl⟩ | rfl)));exact hK _ rfl));(case' k=>simp only[Act.put,List.setIfInBounds_toArray,List.set_cons_succ,List.set_cons_zero,List.cons_append,List.nil_append]))
  (apply wpO_det;(case hw=>rfl);(case h=>intro hFm wx hS_ hF_ K hK;go_big_quiet_op;first | exact hK _ rfl | (apply Exists.intro;refine⟨fun _=>?_,?_⟩;(focus (first | (intro hC;go_at_call 168;refine(HZ1.out _).mono ?_;rintro e w' ⟨rfl,rfl⟩;exact⟨rfl,hC⟩)));exact hK _ rfl));(case' k=>simp only[Act.put,List.setIfInBounds_toArray,List.set_cons_succ,List.set_cons_zero,List.cons_append,List.nil_append]))
  iterate 2 (apply wpO_det;(case hw=>rfl);(case h=>intro hFm wx hS_ hF_ K hK;go_big_quiet_op;first | exact hK _ rfl | (apply Exists.intro;refine⟨fun _=>?_,?_⟩;(focus (first | (intro hC;have hC:=KF.out _ hC.out.1;(try simp only[hC,Result.andThen]);first | exact⟨True.intro,rfl⟩ | exact⟨rfl,rfl⟩ | rfl)));exact hK _ rfl));(case' k=>simp only[Act.put,List.setIfInBounds_toArray,List.set_cons_succ,List.set_cons_zero,List.cons_append,List.nil_append]))
  (apply wpO_det;(case hw=>rfl);(case h=>intro hFm wx hS_ hF_ K hK;go_big_quiet_op;first | exact hK _ rfl | (apply Exists.intro;refine⟨fun _=>?_,?_⟩;(focus (first | (intro hC;go_at_call 168;refine(HZ2.out _).mono ?_;rintro e w' ⟨rfl,rfl⟩;exact⟨rfl,hC⟩)));exact hK _ rfl));(case' k=>simp only[Act.put,List.setIfInBounds_toArray,List.set_cons_succ,List.set_cons_zero,List.cons_append,List.nil_append]))
  (apply wpO_det;(case hw=>rfl);(case h=>intro hFm wx hS_ hF_ K hK;go_big_quiet_op;first | exact hK _ rfl | (apply Exists.intro;refine⟨fun _=>?_,?_⟩;(focus (first | (intro hC;go_at_call 169;refine(HG1.out _).mono ?_;rintro e w' ⟨rfl,hb⟩;refine⟨rfl,?_⟩;exact cls_call hFm hC hb)));exact hK _ rfl));(case' k=>simp only[Act.put,List.setIfInBounds_toArray,List.set_cons_succ,List.set_cons_zero,List.cons_append,List.nil_append]))
  iterate 2 (apply wpO_det;(case hw=>rfl);(case h=>intro hFm wx hS_ hF_ K hK;go_big_quiet_op;first | exact hK _ rfl | (apply Exists.intro;refine⟨fun _=>?_,?_⟩;(focus (first | (intro hC;have hC:=KF.out _ hC.out.1;(try simp only[hC,Result.andThen]);first | exact⟨True.intro,rfl⟩ | exact⟨rfl,rfl⟩ | rfl)));exact hK _ rfl));(case' k=>simp only[Act.put,List.setIfInBounds_toArray,List.set_cons_succ,List.set_cons_zero,List.cons_append,List.nil_append]))
  refine wpO_nil ?_
  intro w6 hS hF hB
  (try simp[allF] at hF)
  (try simp[List.pairwise_cons] at hB)
  have HW6:=Lib.hid hS
  clear hS
  go_upto_region 3 with fail
  have KF6:=Lib.hid (fun w' (h:Since w6 w')=>KF.out w' (HW6.out.trans h))
  clear KF
  have KF:=KF6
  clear KF6
  apply region_facts 16 (fun w' => Since w6 w')
  case hm=>kernel_rfl
  case hB=>kernel_rfl
  case hS=>exact(Since.rfl_ w6).drew
  case h =>
  simp only[List.take_succ_cons,List.take_zero,List.drop_succ_cons,List.drop_zero]
  iterate 6 (apply wpO_det;(case hw=>rfl);(case h=>intro hFm wx hS_ hF_ K hK;go_big_quiet_op;first | exact hK _ rfl | (apply Exists.intro;refine⟨fun _=>?_,?_⟩;(focus (first | (intro hC;have hC:=KF.out _ hC.out.1;(try simp only[hC,Result.andThen]);first | exact⟨True.intro,rfl⟩ | exact⟨rfl,rfl⟩ | rfl)));exact hK _ rfl));(case' k=>simp only[Act.put,List.setIfInBounds_toArray,List.set_cons_succ,List.set_cons_zero,List.cons_append,List.nil_append]))
  (apply wpO_det;(case hw=>rfl);(case h=>intro hFm wx hS_ hF_ K hK;go_big_quiet_op;first | exact hK _ rfl | (apply Exists.intro;refine⟨fun _=>?_,?_⟩;(focus (first | (intro hC;go_at_call 151;refine(HM1.out _).mono ?_;rintro e w' ⟨rfl,hb⟩;refine⟨rfl,?_⟩;exact cls_call hFm hC hb)));exact hK _ rfl));(case' k=>simp only[Act.put,List.setIfInBounds_toArray,List.set_cons_succ,List.set_cons_zero,List.cons_append,List.nil_append]))
  iterate 6 (apply wpO_det;(case hw=>rfl);(case h=>intro hFm wx hS_ hF_ K hK;go_big_quiet_op;first | exact hK _ rfl | (apply Exists.intro;refine⟨fun _=>?_,?_⟩;(focus (first | (intro hC;have hC:=KF.out _ hC.out.1;(try simp only[hC,Result.andThen]);first | exact⟨True.intro,rfl⟩ | exact⟨rfl,rfl⟩ | rfl)));exact hK _ rfl));(case' k=>simp only[Act.put,List.setIfInBounds_toArray,List.set_cons_succ,List.set_cons_zero,List.cons_append,List.nil_append]))
  (apply wpO_det;(case hw=>rfl);(case h=>intro hFm wx hS_ hF_ K hK;go_big_quiet_op;first | exact hK _ rfl | (apply Exists.intro;refine⟨fun _=>?_,?_⟩;(focus (first | (intro hC;go_at_call 151;refine(HM2.out _).mono ?_;rintro e w' ⟨rfl,hb⟩;refine⟨rfl,?_⟩;exact cls_call hFm hC hb)));exact hK _ rfl));(case' k=>simp only[Act.put,List.setIfInBounds_toArray,List.set_cons_succ,List.set_cons_zero,List.cons_append,List.nil_append]))
  (apply wpO_det;(case hw=>rfl);(case h=>intro hFm wx hS_ hF_ K hK;go_big_quiet_op;first | exact hK _ rfl | (apply Exists.intro;refine⟨fun _=>?_,?_⟩;(focus (first | (intro hC;go_at_call 171;refine(HA.out _).mono ?_;rintro e w' ⟨rfl,hb⟩;refine⟨rfl,?_⟩;exact cls_call hFm hC hb)));exact hK _ rfl));(case' k=>simp only[Act.put,List.setIfInBounds_toArray,List.set_cons_succ,List.set_cons_zero,List.cons_append,List.nil_append]))
  apply wpO_mk (f:=fun g=>.pointer (some ⟨g,0,none⟩)) (t:=177) (cs := #[.int .i64 0,.int .u64 0])
  case hi=>(intro g g' h;simpa using h)
  case hw=>rfl
  case h=>(intro w;simp[go_sem])
  case k =>
  intro g7
  simp only[Act.put,List.setIfInBounds_toArray,List.set_cons_succ,List.set_cons_zero,List.cons_append,List.nil_append]
  refine wpO_nil ?_
  intro w7 hS hF hB
  (try simp[allF] at hF)
  (try simp[List.pairwise_cons] at hB)
  have lg:=hF.2
  have hg6:=HW5.out.2.2.2.lt
  have hg7:=HW6.out.size
  have z0:w7.cell? ⟨g7,0,none⟩=some (.int .i64 0):=hF.1.cell 0
  have z1:w7.cell? ⟨g7,1,none⟩=some (.int .u64 0):=hF.1.cell 1
  have f0:=hF.1.frozen 0
  have f1:=hF.1.frozen 1
  have HF7:=Lib.hid (And.intro hF.1 hS)
  clear hF hS hB
  go_upto_region 4 with fail
  refine atW (fun w' => Since w5 w' ∧ Blk w' g7 177 #[.int .i64 h3,.int .u64 l3]) ⟨HW6.out.trans ((HF7.out.2.setCell lg _).setCell lg _),(HF7.out.1.set_ 0 (.int .i64 h3)).set_ 1 (.int .u64 l3)⟩ ?_
  clear HF7 z0 z1 f0 f1
  rintro w8 ⟨hs,hb⟩
  have z0:w8.cell? ⟨g7,0,none⟩=some (.int .i64 h3):=hb.cell 0
  have z1:w8.cell? ⟨g7,1,none⟩=some (.int .u64 l3):=hb.cell 1
  have HF8:=Lib.hid (And.intro hs hb)
  clear hs hb
  go_wp2_with fail
  refine(HD.out _).mono ?_
  rintro e w9 ⟨rfl,hs⟩
  have HF9:=Lib.hid (And.intro (HF8.out.1.trans hs) (hs.blk HF8.out.2))
  clear hs HF8 z0 z1
  go_upto_region 5 with fail
  refine atW (fun w' => Since w5 w' ∧ Blk w' g7 177 #[.int .i64 h3,.int .u64 l3]) ⟨HF9.out.1.alloc _,HF9.out.2.alloc _⟩ ?_
  clear HF9
  rintro wa ⟨hs,hb⟩
  have HFa:=Lib.hid (And.intro hs hb)
  clear hs hb
  go_wp2_with fail
  refine(HZ0.out _).mono ?_
  rintro e wb ⟨rfl,rfl⟩
  go_wp2_with fail
  refine(HZ1.out _).mono ?_
  rintro e wb ⟨rfl,rfl⟩
  go_wp2_with fail
  refine(HG2.out _).mono ?_
  rintro e wb ⟨rfl,hs⟩
  have HFb:=Lib.hid (And.intro (HFa.out.1.trans hs) (hs.blk HFa.out.2))
  clear hs HFa
  go_upto_region 6 with fail
  have z0:wb.cell? ⟨g7,0,none⟩=some (.int .i64 h3):=HFb.out.2.cell 0
  have z1:wb.cell? ⟨g7,1,none⟩=some (.int .u64 l3):=HFb.out.2.cell 1
  go_wp2_with fail
  refine(HDD.out _).mono ?_
  rintro e wc ⟨rfl,hs⟩
  have HFc:=Lib.hid (HFb.out.1.trans hs)
  clear hs HFb z0 z1
  go_upto_region 7 with fail
  obtain⟨gc,HGC⟩:∃ gc,gc=wc.heap.size:=⟨_,rfl⟩
  rw[← HGC]
  refine atW (fun w' => Since w5 w' ∧ Blk w' gc 177 #[.int .i64 h3,.int .u64 l3]) ⟨HFc.out.alloc _,Blk.new' HGC⟩ ?_
  clear HFc HGC
  rintro wd ⟨hs,hb⟩
  have z0:wd.cell? ⟨gc,0,none⟩=some (.int .i64 h3):=hb.cell 0
  have z1:wd.cell? ⟨gc,1,none⟩=some (.int .u64 l3):=hb.cell 1
  have HFd:=Lib.hid hs
  clear hs hb
  go_wp2_with fail
  refine(HS1.out _).mono ?_
  rintro e we ⟨rfl,hs⟩
  have HFe:=Lib.hid (HFd.out.trans hs)
  clear hs HFd z0 z1
  go_upto_region 8 with fail
  have KFe:=Lib.hid (fun w' (h:Since we w')=>(show w'.cell? ⟨G,0,none⟩=some (.int .i64 m)∧w'.cell? ⟨G,1,none⟩=some (.int .i64 1)∧w'.cell? ⟨G+1,0,none⟩=some (.int .i64 p)∧w'.cell? ⟨G+1,1,none⟩=some (.int .i64 q) from
   ⟨((HFe.out.trans h).blk HW5.out.2.1).cell 0,((HFe.out.trans h).blk HW5.out.2.1).cell 1,((HFe.out.trans h).blk HW5.out.2.2.1).cell 0,((HFe.out.trans h).blk HW5.out.2.2.1).cell 1⟩))
  clear KF
  have KF:=KFe
  clear KFe
  apply region_facts 15 (fun w' => Since we w')
  case hm=>kernel_rfl
  case hB=>kernel_rfl
  case hS=>exact(Since.rfl_ we).drew
  case h =>
  simp only[List.take_succ_cons,List.take_zero,List.drop_succ_cons,List.drop_zero]
  iterate 8 (apply wpO_det;(case hw=>rfl);(case h=>intro hFm wx hS_ hF_ K hK;go_big_quiet_op;first | exact hK _ rfl | (apply Exists.intro;refine⟨fun _=>?_,?_⟩;(focus (first | (intro hC;have hC:=KF.out _ hC.out.1;(try simp only[hC,Result.andThen]);first | exact⟨True.intro,rfl⟩ | exact⟨rfl,rfl⟩ | rfl)));exact hK _ rfl));(case' k=>simp only[Act.put,List.setIfInBounds_toArray,List.set_cons_succ,List.set_cons_zero,List.cons_append,List.nil_append]))
  (apply wpO_det;(case hw=>rfl);(case h=>intro hFm wx hS_ hF_ K hK;go_big_quiet_op;first | exact hK _ rfl | (apply Exists.intro;refine⟨fun _=>?_,?_⟩;(focus (first | (intro hC;go_at_call 151;refine(HM3.out _).mono ?_;rintro e w' ⟨rfl,hb⟩;refine⟨rfl,?_⟩;exact cls_call hFm hC hb)));exact hK _ rfl));(case' k=>simp only[Act.put,List.setIfInBounds_toArray,List.set_cons_succ,List.set_cons_zero,List.cons_append,List.nil_append]))
  (apply wpO_det;(case hw=>rfl);(case h=>intro hFm wx hS_ hF_ K hK;go_big_quiet_op;first | exact hK _ rfl | (apply Exists.intro;refine⟨fun _=>?_,?_⟩;(focus (first | (intro hC;go_at_call 152;refine(HS2.out _).mono ?_;rintro e w' ⟨rfl,hb⟩;refine⟨rfl,?_⟩;exact cls_call hFm hC hb)));exact hK _ rfl));(case' k=>simp only[Act.put,List.setIfInBounds_toArray,List.set_cons_succ,List.set_cons_zero,List.cons_append,List.nil_append]))
  iterate 5 (apply wpO_det;(case hw=>rfl);(case h=>intro hFm wx hS_ hF_ K hK;go_big_quiet_op;first | exact hK _ rfl | (apply Exists.intro;refine⟨fun _=>?_,?_⟩;(focus (first | (intro hC;have hC:=KF.out _ hC.out.1;(try simp only[hC,Result.andThen]);first | exact⟨True.intro,rfl⟩ | exact⟨rfl,rfl⟩ | rfl)));exact hK _ rfl));(case' k=>simp only[Act.put,List.setIfInBounds_toArray,List.set_cons_succ,List.set_cons_zero,List.cons_append,List.nil_append]))
  refine wpO_nil ?_
  intro wf hS hF hB
  (try simp[allF] at hF)
  (try simp[List.pairwise_cons] at hB)
  have HWf:=Lib.hid (HFe.out.trans hS)
  have hb3:=HWf.out.blk HW5.out.2.2.2
  have r0:wf.cell? ⟨G+1+1,0,none⟩=some (.int .i64 0):=hb3.cell 0
  have r1:wf.cell? ⟨G+1+1,1,none⟩=some (.int .i64 0):=hb3.cell 1
  have f0:=hb3.frozen 0
  have f1:=hb3.frozen 1
  clear hS hF hB hb3 HFe
  go_wp2_with fail
  refine bodyPost_ret (v:=.tuple #[.agg #[.int .i64 s,.int .i64 q],.int .i64 0]) (by simp[results,Tryz.results154,go_sem,cSetS,cSetO,cellDrew,r0,r1]) rfl ⟨rfl,?_⟩
  have hG:=HGG.out
  exact((HW5.out.1.trans HWf.out).setCell (by dsimp only;omega) _).setCell (by dsimp only;omega) _
end
end Go.Proofs.YtdnccjdlmepafaaGreat
