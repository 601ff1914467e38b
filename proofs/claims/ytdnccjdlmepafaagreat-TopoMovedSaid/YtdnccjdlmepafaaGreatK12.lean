/-
  The walk of hot.points; The walk of hot.Meets; Walks of hot.sign and of the closure of hot.through; Equality of segments, as the model has it; slices.Compact over segments: as a plain function, and its walk. Conditions: those that each lemma names.
-/
import Derived.Test.YtdnccjdlmepafaaGreatK10
import Derived.Test.YtdnccjdlmepafaaGreatK11
import Derived.Test.YtdnccjdlmepafaaGreatK05
import Derived.Test.YtdnccjdlmepafaaGreatK02
import Derived.Test.YtdnccjdlmepafaaGreatK04
set_option linter.unusedSimpArgs false
set_option linter.unusedVariables false
set_option linter.constructorNameAsVariable false
namespace Go.Proofs.YtdnccjdlmepafaaGreat
section
open Go.RowKit Go.BigFrame
attribute [local go_sem ↓] eqPt neqPt
def pairS(s t:Sg):List Pt2:=if smeetV s.1 s.2 t.1 t.2=1 then [snapV s.1 s.2 t.1 t.2] else []
def innS(l:List Sg)(s:Sg)(j:Nat):List Pt2:=(List.range j).flatMap fun i=>pairS s (sgAt l i)
def outS(l:List Sg)(k:Nat):List Pt2:=(List.range k).flatMap fun i=>(sgAt l i).1 :: (sgAt l i).2 :: innS l (sgAt l i) i
def hotL(l:List Sg):List Pt2:=hullS (outS l l.length)
theorem innS_succ(l:List Sg)(s:Sg)(j:Nat):innS l s (j+1)=innS l s j++pairS s (sgAt l j):=by
 unfold innS;rw[List.range_succ,List.flatMap_append];simp
theorem outS_succ(l:List Sg)(k:Nat):outS l (k+1)=outS l k++([(sgAt l k).1]++[(sgAt l k).2]++innS l (sgAt l k) k):=by
 unfold outS;rw[List.range_succ,List.flatMap_append];simp
theorem innS_len(l:List Sg)(s:Sg)(j:Nat):(innS l s j).length≤j:=by
 induction j with
 | zero=>simp[innS]
 | succ j ih =>
  rw[innS_succ,List.length_append]
  have:(pairS s (sgAt l j)).length≤1:=by unfold pairS;split <;> simp
  omega
theorem outS_len(l:List Sg)(N:Nat):∀ k,k≤N→(outS l k).length≤k*(N+2)
 | 0,_=>by simp[outS]
 | k+1,h=>by
  rw[outS_succ,List.length_append,List.length_append,Nat.succ_mul]
  have:=outS_len l N k (by omega)
  have:=innS_len l (sgAt l k) k
  simp only[List.length_append,List.length_cons,List.length_nil];omega
theorem outS_sub(l:List Sg){k j:Nat}(h:k≤j){p:Pt2}(hp:p∈outS l k):p∈outS l j:=by
 unfold outS at *
 obtain⟨i,hi,hp⟩:=List.mem_flatMap.1 hp
 exact List.mem_flatMap.2 ⟨i,List.mem_range.2 (by have:=List.mem_range.1 hi;omega),hp⟩
theorem innS_sub(l:List Sg)(s:Sg){k j:Nat}(h:k≤j){p:Pt2}(hp:p∈innS l s k):p∈innS l s j:=by
 unfold innS at *
 obtain⟨i,hi,hp⟩:=List.mem_flatMap.1 hp
 exact List.mem_flatMap.2 ⟨i,List.mem_range.2 (by have:=List.mem_range.1 hi;omega),hp⟩
theorem hull_le_of_sub{S T:List Pt2}(h:∀ p∈S,p∈T):(hullS S).length≤(hullS T).length :=
 len_le_of_sub (srt_nodup (hullS_srt S)) fun p hp=>hullS_mem.2 (h p (hullS_mem.1 hp))
theorem clampI_ok(x y:Int):okP (clampI x) (clampI y)=true:=by rw[okP_iff];unfold clampI;omega
theorem snapV_ok{a b c d:Pt2}(ha:okP a.1 a.2=true)(hb:okP b.1 b.2=true)(hc:okP c.1 c.2=true)(hd:okP d.1 d.2=true):okP (snapV a b c d).1 (snapV a b c d).2=true:=by
 unfold snapV
 split
 ·rename_i h
  have hm:pAt (sharedL a b c d) 0∈sharedL a b c d:=pAt_mem (by omega)
  rcases sharedL_mem hm with h | h | h | h <;> rw[h.1] <;> assumption
 ·exact clampI_ok _ _
theorem srt_len(L:List Pt2):(srtL L).length=L.length:=by unfold srtL;simp
set_option maxRecDepth 100000 in
set_option maxHeartbeats 8000000 in
theorem points_any(v:Value)(l:List Sg)(w:World)(hv:SegsS w v l)(hl:l.length≤100000)(hne:l≠[])(hok:∀ s∈l,SgOk s)(hcap:(hotL l).length≤1000) :
  Calls Tryz.prog 80 #[v] w fun e w' => ∃ x,e=.returned (.tuple #[x,.bool true])∧w'.ownsRow w.heap.size 36 2 x (hotL l).length ((hotL l).flatMap ptV)∧Since w w' := by
 have HVS:=Lib.hid hv
 obtain⟨a,c,rfl,hcap0,hv⟩:=hv
 have HV:=Lib.hid hv
 have HOK:=Lib.hid (fun k (hk:k<l.length)=>hok _ (sgAt_mem hk))
 have HCAP:=Lib.hid hcap
 obtain⟨n,hn⟩:∃ n,n=l.length:=⟨_,rfl⟩
 have HN:=Lib.hid hn
 have hpos:0<n:=by rw[hn];exact List.length_pos_iff.2 hne
 rw[← hn] at HV hl HOK hcap0 ⊢
 clear hv hok hn hcap hne
 go_enter Tryz.func80,Tryz.ntmps80
 have hmm := @run_makeMap Tryz.prog
 go_upto_region 3 with fail
 clear hmm
 obtain⟨G,HG⟩:∃ G,G=w.heap.size:=⟨_,rfl⟩
 rw[← HG]
 refine atW (fun w' => Since w w' ∧ SetP w' G (outS l 0)) ⟨(Since.rfl_ w).alloc _,by rw[HG];exact SetP.made w⟩ ?_
 rintro w0 ⟨hs,hset⟩
 have HGG:=Lib.hid HG
 have HS0:=Lib.hid (And.intro hs hset)
 clear HG hs hset
 go_loopw [16] (fun v wr=>∃ k:Nat,k≤n∧v=.int .i64 k∧Hid (Since w wr∧SetP wr G (outS l k))) (fun v _=>n-(intOf v).toNat)
 case atStart=>exact⟨0,by omega,rfl,HS0⟩
 case round =>
  clear HS0
  obtain⟨k,hk,rfl,HR⟩:=hrel
  rcases Nat.lt_or_ge k n with hlt | hge
  ·have hz : decide ((k:Int)<(n:Int))=true:=by rw[decide_eq_true_eq];omega
   obtain⟨g,o,rfl,h1,h2,h3,h4⟩:=HV.out k hlt
   obtain⟨s,hs⟩:∃ s,s=sgAt l k:=⟨_,rfl⟩
   have HS:Hid (SgOk s):=by show SgOk s;rw[hs];exact HOK.out k hlt
   rw[← hs] at h1 h2 h3 h4
   have h1:=keepC HR.out.1 _ _ h1
   have h2:=keepC HR.out.1 _ _ h2
   have h3:=keepC HR.out.1 _ _ h3
   have h4:=keepC HR.out.1 _ _ h4
   have HSE:=Lib.hid hs
   have i1:(0:Int)≤(k:Int):=by omega
   have i2:(k:Int)<(n:Int):=by omega
   clear hs
   go_upto_region 5 with fail
   obtain⟨G6,HG6⟩:∃ G6,G6=wr.heap.size:=⟨_,rfl⟩
   rw[← HG6]
   refine atW (fun w' => (Since w w' ∧ SetP w' G (outS l k))∧Blk w' G6 37 #[.int .i64 s.1.1,.int .i64 s.1.2,.int .i64 s.2.1,.int .i64 s.2.2]) ⟨⟨HR.out.1.alloc _,HR.out.2.since ((Since.rfl_ wr).alloc _)⟩,Blk.new' HG6⟩ ?_
   rintro w1 ⟨hs,hb⟩
   have hgg:G6≠G:=by have:=HR.out.2.lt;omega
   have hgz:w.heap.size≤G6:=by have:=HR.out.1.size;omega
   clear HG6 HR h1 h2 h3 h4
   letI RG:RegG:=laysG G [s.1,s.2]
   have KF:=Lib.hid (fun w' (h:SinceG w1 w')=>(show w'.cell? ⟨G6,0,none⟩=some (.int .i64 s.1.1)∧w'.cell? ⟨G6,1,none⟩=some (.int .i64 s.1.2)∧w'.cell? ⟨G6,2,none⟩=some (.int .i64 s.2.1)∧w'.cell? ⟨G6,3,none⟩=some (.int .i64 s.2.2) from
    (fun(k:Blk w' G6 37 #[.int .i64 s.1.1,.int .i64 s.1.2,.int .i64 s.2.1,.int .i64 s.2.2])=>⟨k.cell 0,k.cell 1,k.cell 2,k.cell 3⟩) (Only.blk h.1 hb hgg)))
   have HW1:=Lib.hid (And.intro hs hb)
   have HB1:=hb.lt
   have HLN:Hid ((outS l k++[s.1,s.2]).length<maxLen):=by
    show _<_
    have h1:=outS_len l n k (by omega)
    have h2:=Nat.mul_le_mul (show k≤100000 by omega) (show n+2≤100002 by omega)
    rw[List.length_append];simp only[List.length_cons,List.length_nil];unfold maxLen;omega
   clear hs hb
   apply region_factsG 8 (fun w' => SinceG w1 w')
   case hm=>kernel_rfl
   case hB=>kernel_rfl
   case hS=>exact(SinceG.rfl_ w1).drew
   case hmono=>exact(fun _ _ h k=>h.trans k)
   case hTb=>exact(fun g hg=>by show G+1≤g;have:=HGG.out;omega)
   case h =>
   simp only[List.take_succ_cons,List.take_zero,List.drop_succ_cons,List.drop_zero]
   iterate 6 (apply wpO_detG;(case hw=>rfl);(case h=>intro hFm wx hS_ hF_ K hK;go_big_quiet_op;first | exact hK _ rfl | (apply Exists.intro;refine⟨fun _=>?_,?_⟩;(focus (first | (intro hC;have hC:=KF.out _ hC.out.1;(try simp only[hC,Result.andThen]);first | exact⟨True.intro,rfl⟩ | exact⟨rfl,rfl⟩ | rfl)));exact hK _ rfl));(case' k=>simp only[Act.put,List.setIfInBounds_toArray,List.set_cons_succ,List.set_cons_zero,List.cons_append,List.nil_append]))
   apply wpO_anyG (R:=(fun _ w' => ∃ T,SetP w' G (outS l k++T)∧(∀ t∈T,t∈[s.1,s.2])∧s.1∈T))
   case hR => exact(fun _ a c h k=>by
           obtain⟨T,h1,h2,h3⟩:=h
           obtain⟨U,k1,k2⟩:=k.2 _ h1
           refine⟨T++U,by rw[← List.append_assoc];exact k1,fun t ht=>?_,List.mem_append_left _ h3⟩
           rcases List.mem_append.1 ht with ht | ht
           ·exact h2 t ht
           ·exact k2 t ht)
   case hw=>rfl
   case h =>
    intro wx hS_ hF_
    unfold runVG
    (
       obtain⟨T,h1,h2⟩:=hS_.2 _ HW1.out.1.2
       obtain⟨w',k1,k2,k3,k4⟩:=lay_one (p:=s.1) h1 h2 HLN.out HS.out.1 (by simp)
       simp[execOp,go_sem,k1,Result.andThen]
       exact⟨⟨T++[s.1],k2,(by simpa using k3),by simp⟩,k4⟩)
   case k =>
   intro v0
   simp only[Act.put,List.setIfInBounds_toArray,List.set_cons_succ,List.set_cons_zero,List.cons_append,List.nil_append]
   apply wpO_anyG (R:=(fun _ w' => ∃ T,SetP w' G (outS l k++T)∧(∀ t∈T,t∈[s.1,s.2])∧s.1∈T∧s.2∈T))
   case hR => exact(fun _ a c h k=>by
           obtain⟨T,h1,h2,h3,h4⟩:=h
           obtain⟨U,k1,k2⟩:=k.2 _ h1
           refine⟨T++U,by rw[← List.append_assoc];exact k1,fun t ht=>?_,List.mem_append_left _ h3,List.mem_append_left _ h4⟩
           rcases List.mem_append.1 ht with ht | ht
           ·exact h2 t ht
           ·exact k2 t ht)
   case hw=>rfl
   case h =>
    intro wx hS_ hF_
    unfold runVG
    (
       obtain⟨T,h1,h2,h3⟩:=factsOf_at (j:=6) (by decide) hF_
       obtain⟨w',k1,k2,k3,k4⟩:=lay_one (p:=s.2) h1 h2 HLN.out HS.out.2.1 (by simp)
       simp[execOp,go_sem,k1,Result.andThen]
       exact⟨⟨T++[s.2],k2,(by simpa using k3),List.mem_append_left _ h3,by simp⟩,k4⟩)
   case k =>
   intro v1
   simp only[Act.put,List.setIfInBounds_toArray,List.set_cons_succ,List.set_cons_zero,List.cons_append,List.nil_append]
   refine wpO_nilG ?_
   intro w2 hS hF hB
   (try simp[allF] at hF)
   (try simp[List.pairwise_cons] at hB)
   obtain⟨T,h1,h2,h3,h4⟩:=hF.2
   have HSG:=Lib.hid (And.intro (Only.since HW1.out.1.1 hS.1 (by have:=HGG.out;omega)) (h1.congr (T:=outS l k++([s.1]++[s.2]++innS l s 0)) fun q=>by
    rw[List.mem_append,List.mem_append]
    constructor
    ·rintro(h | h)
     ·exact .inl h
     ·exact .inr (by have:=h2 q.1 q.2 h;simpa[innS] using this)
    ·rintro(h | h)
     ·exact .inl h
     ·refine .inr ?_
      simp[innS] at h
      rcases h with rfl | rfl <;> assumption))
   have HB6:=Lib.hid (Only.blk hS.1 HW1.out.2 hgg)
   clear hS hF hB h1 h2 h3 h4 HW1 HB1 HLN KF RG
   go_upto_region 7 with fail
   go_loopw [31] (fun v wr=>∃ j:Nat,j≤k∧v=.int .i64 j∧Hid (Since w wr∧SetP wr G (outS l k++([s.1]++[s.2]++innS l s j)))∧Hid (Blk wr G6 37 #[.int .i64 s.1.1,.int .i64 s.1.2,.int .i64 s.2.1,.int .i64 s.2.2])) (fun v _=>k-(intOf v).toNat)
   case atStart=>exact⟨0,by omega,rfl,HSG,HB6⟩
   case round =>
    clear HSG HB6
    obtain⟨j,hj,rfl,HR,HB⟩:=hrel
    rcases Nat.lt_or_ge j k with hlt2 | hge2
    ·have hz2:decide ((j:Int)<(k:Int))=true:=by rw[decide_eq_true_eq];omega
     obtain⟨g',o',hgo,h1,h2,h3,h4⟩:=HV.out j (by omega)
     injection hgo with hgo
     injection hgo with hg1 hg2
     subst hg1 hg2
     have HLB:Hid ((outS l k++([s.1]++[s.2]++innS l s j)).length<maxLen):=by
      show _<_
      have h1:=outS_len l n k (by omega)
      have h2:=Nat.mul_le_mul (show k≤100000 by omega) (show n+2≤100002 by omega)
      have h3:=innS_len l s j
      rw[List.length_append,List.length_append];simp only[List.length_append,List.length_cons,List.length_nil];unfold maxLen;omega
     have HSUB:Hid (∀ i,i≤k→∀ p∈outS l k++([s.1]++[s.2]++innS l s i),p∈outS l l.length):=by
      intro i hi p hp
      refine outS_sub l (show k+1≤l.length by rw[← HN.out];omega) ?_
      rw[outS_succ,← HSE.out]
      rcases List.mem_append.1 hp with hp | hp
      ·exact List.mem_append_left _ hp
      ·rcases List.mem_append.1 hp with hp | hp
       ·exact List.mem_append_right _ (List.mem_append_left _ hp)
       ·exact List.mem_append_right _ (List.mem_append_right _ (innS_sub l s hi hp))
     obtain⟨t,ht⟩:∃ t,t=sgAt l j:=⟨_,rfl⟩
     have HT:Hid (SgOk t):=by show SgOk t;rw[ht];exact HOK.out j (by omega)
     rw[← ht] at h1 h2 h3 h4
     have h1:=keepC HR.out.1 _ _ h1
     have h2:=keepC HR.out.1 _ _ h2
     have h3:=keepC HR.out.1 _ _ h3
     have h4:=keepC HR.out.1 _ _ h4
     have HTE:=Lib.hid ht
     have j1:(0:Int)≤(j:Int):=by omega
     have j2:(j:Int)<(k:Int):=by omega
     clear ht
     go_upto_region 9 with fail
     obtain⟨G8,HG8⟩:∃ G8,G8=wr.heap.size:=⟨_,rfl⟩
     rw[← HG8]
     refine atW (fun w' => Hid (Since w w' ∧ SetP w' G (outS l k++([s.1]++[s.2]++innS l s j)))∧Blk w' G6 37 #[.int .i64 s.1.1,.int .i64 s.1.2,.int .i64 s.2.1,.int .i64 s.2.2]∧Blk w' G8 37 #[.int .i64 t.1.1,.int .i64 t.1.2,.int .i64 t.2.1,.int .i64 t.2.2]) ⟨⟨HR.out.1.alloc _,HR.out.2.since ((Since.rfl_ wr).alloc _)⟩,HB.out.alloc _,Blk.new' HG8⟩ ?_
     rintro w3 ⟨HR3,hb6,hb8⟩
     have hgg8:G8≠G:=by have:=HR.out.2.lt;omega
     clear HG8 HR HB h1 h2 h3 h4
     have HM:=Lib.hid (fun w=>SMeetG_any HS.out.1 HS.out.2.1 HT.out.1 HT.out.2.1 w)
     have HA:=Lib.hid (fun h w=>At_any HS.out.1 HS.out.2.1 HT.out.1 HT.out.2.1 h w)
     have HSO:=Lib.hid (snapV_ok HS.out.1 HS.out.2.1 HT.out.1 HT.out.2.1)
     have HPS:Hid (innS l s (j+1)=innS l s j++pairS s t):=by show _=_;rw[innS_succ,HTE.out]
     obtain⟨mv,HMV⟩:∃ mv,Hid (mv=smeetV s.1 s.2 t.1 t.2):=⟨_,rfl⟩
     rw[← HMV.out] at HM HA
     have a_0:=hb6.cell 0
     have a_1:=hb6.cell 1
     have a_2:=hb6.cell 2
     have a_3:=hb6.cell 3
     simp only[List.getElem?_toArray,List.getElem?_cons_zero,List.getElem?_cons_succ] at a_0 a_1 a_2 a_3
     have b_0:=hb8.cell 0
     have b_1:=hb8.cell 1
     have b_2:=hb8.cell 2
     have b_3:=hb8.cell 3
     simp only[List.getElem?_toArray,List.getElem?_cons_zero,List.getElem?_cons_succ] at b_0 b_1 b_2 b_3
     have HBB:=Lib.hid (And.intro hb6 hb8)
     clear hb6 hb8
     go_wp2_with fail
     refine(HM.out _).mono ?_
     rintro e w4 ⟨rfl,hs⟩
     have HR4:=Lib.hid (And.intro (HR3.out.1.trans hs) (HR3.out.2.since hs))
     have HB4:=Lib.hid (And.intro (hs.blk HBB.out.1) (hs.blk HBB.out.2))
     have a_0:=keepC hs _ _ a_0
     have a_1:=keepC hs _ _ a_1
     have a_2:=keepC hs _ _ a_2
     have a_3:=keepC hs _ _ a_3
     have b_0:=keepC hs _ _ b_0
     have b_1:=keepC hs _ _ b_1
     have b_2:=keepC hs _ _ b_2
     have b_3:=keepC hs _ _ b_3
     clear hs HR3 HBB HM
     by_cases hm:mv=1
     ·subst hm
      have HP1:Hid (pairS s t=[snapV s.1 s.2 t.1 t.2]):=by show _=_;unfold pairS;rw[if_pos HMV.out.symm]
      obtain⟨sv,HSV⟩:∃ sv,Hid (sv=snapV s.1 s.2 t.1 t.2):=⟨_,rfl⟩
      rw[← HSV.out] at HP1 HA HSO
      go_wp2_with fail
      refine(HA.out True.intro _).mono ?_
      rintro e w5 ⟨⟨xn,xd,yn,yd,rfl,o1,o2,hsv⟩,hs⟩
      have HSN:Hid (∀ w,Calls Tryz.prog 101 #[.agg #[.int .i64 xn,.int .i64 xd,.int .i64 yn,.int .i64 yd]] w fun e w' => e=.returned (.agg #[.int .i64 sv.1,.int .i64 sv.2])∧Since w w'):=fun w=>by
       have h:=Snap_s xn xd yn yd o1 o2 w
       have h1:=congrArg Prod.fst hsv
       have h2:=congrArg Prod.snd hsv
       simp only at h1 h2
       rw[h1,h2] at h;exact h
      have HR5:=Lib.hid (And.intro (HR4.out.1.trans hs) (HR4.out.2.since hs))
      have HB5:=Lib.hid (And.intro (hs.blk HB4.out.1) (hs.blk HB4.out.2))
      clear hs HR4 HB4 HA a_0 a_1 a_2 a_3 b_0 b_1 b_2 b_3 o1 o2 hsv
      go_upto_region 11 with fail
      obtain⟨G9,HG9⟩:∃ G9,G9=w5.heap.size:=⟨_,rfl⟩
      rw[← HG9]
      refine atW (fun w' => Hid (Since w w' ∧ SetP w' G (outS l k++([s.1]++[s.2]++innS l s j)))∧Hid (Blk w' G6 37 #[.int .i64 s.1.1,.int .i64 s.1.2,.int .i64 s.2.1,.int .i64 s.2.2])∧Blk w' G9 124 #[.int .i64 xn,.int .i64 xd,.int .i64 yn,.int .i64 yd]) ⟨⟨HR5.out.1.alloc _,HR5.out.2.since ((Since.rfl_ w5).alloc _)⟩,HB5.out.1.alloc _,Blk.new' HG9⟩ ?_
      rintro w6 ⟨HR6,HB6,hb9⟩
      have c_0:=hb9.cell 0
      have c_1:=hb9.cell 1
      have c_2:=hb9.cell 2
      have c_3:=hb9.cell 3
      simp only[List.getElem?_toArray,List.getElem?_cons_zero,List.getElem?_cons_succ] at c_0 c_1 c_2 c_3
      clear HG9 HR5 HB5 hb9
      go_wp2_with fail
      refine(HSN.out _).mono ?_
      rintro e w7 ⟨rfl,hs⟩
      have HR7:=Lib.hid (And.intro (HR6.out.1.trans hs) (HR6.out.2.since hs))
      have HB7:=Lib.hid (hs.blk HB6.out)
      clear hs HR6 HB6 c_0 c_1 c_2 c_3
      obtain⟨w8,k1,k2,k3⟩:=HR7.out.2.store (p:=sv) (Nat.lt_of_le_of_lt (hull_len_le fun _ h=>h) HLB.out) HSO.out
      unfold ptA at k1
      have HR8:Hid (Since w w8∧SetP w8 G (outS l k++([s.1]++[s.2]++innS l s (j+1)))):=⟨Only.since HR7.out.1 k3 (by have:=HGG.out;omega),by rw[HPS.out,HP1.out];simpa[List.append_assoc] using k2⟩
      have HB8:=Lib.hid (Only.blk k3 HB7.out hgg)
      have kl:=HR8.out.2.len_run
      have hcp:(hullS (outS l k++([s.1]++[s.2]++innS l s (j+1)))).length≤1000:=Nat.le_trans (hull_le_of_sub (HSUB.out (j+1) (by omega))) HCAP.out
      obtain⟨hc,HHC⟩:∃ hc,Hid (hc=(hullS (outS l k++([s.1]++[s.2]++innS l s (j+1)))).length):=⟨_,rfl⟩
      rw[← HHC.out] at kl hcp
      have g9:decide ((1000:Int)<(hc:Int))=false:=by rw[decide_eq_false_iff_not];omega
      clear HR7 HB7 k2 k3
      go_wp2_with fail
      go_roundw
      case rel=>exact⟨j+1,by omega,by go_num,HR8,HB8⟩
      case measure=>simp[intOf];omega
     ·have HP0:Hid (innS l s (j+1)=innS l s j):=by show _=_;rw[HPS.out];unfold pairS;rw[if_neg (fun h=>hm (HMV.out.trans h)),List.append_nil]
      have hm2:(mv == 1)=false:=by rw[beq_eq_false_iff_ne];exact hm
      clear hm HA a_0 a_1 a_2 a_3 b_0 b_1 b_2 b_3
      rw[← HP0.out] at HR4
      have HB4:=Lib.hid HB4.out.1
      go_wp2_with fail
      go_roundw
      case rel=>exact⟨j+1,by omega,by go_num,HR4,HB4⟩
      case measure=>simp[intOf];omega
    ·obtain rfl:j=k:=by omega
     have hz2:decide ((j:Int)<(j:Int))=false:=by rw[decide_eq_false_iff_not];omega
     have HR9:Hid (Since w wr∧SetP wr G (outS l (j+1))):=by
      refine⟨HR.out.1,?_⟩
      rw[outS_succ,← HSE.out];exact HR.out.2
     clear HR HB
     go_wp2_with fail
     go_roundw
     case rel=>exact⟨j+1,by omega,by go_num,HR9⟩
     case measure=>simp[intOf];omega
  ·obtain rfl:k=n:=by omega
   have hz:decide ((k:Int)<(k:Int))=false:=by rw[decide_eq_false_iff_not];omega
   obtain⟨S,HSS⟩:∃ S,Hid (S=outS l k):=⟨_,rfl⟩
   rw[← HSS.out] at HR
   have HSL:Hid (S.length≤100000*100002):=by
    show _≤_
    have h1:=outS_len l k k (by omega)
    have h2:=Nat.mul_le_mul (show k≤100000 by omega) (show k+2≤100002 by omega)
    rw[HSS.out];omega
   have HHL:Hid (hullS S=hotL l):=by show _=_;rw[HSS.out,HN.out];rfl
   have HSN:Hid ((sgAt l 0).1∈S):=by
    show _∈_
    rw[HSS.out]
    refine outS_sub l (show 1≤k by omega) ?_
    rw[outS_succ];simp
   clear HSS HV HOK HVS
   have hrz:=HR.out.1.size
   have hrg:=HR.out.2.lt
   go_wp2_with (first | (at_range;refine wpList_setrange rfl _ rfl rfl HR.out.2 ?_;intro w0 hr0 hg0 hs0) | go_in)
   go_frame
   obtain⟨r,Hr⟩:∃ r,r=wr.heap.size:=⟨_,rfl⟩
   rw[← Hr] at hr0 hs0 ⊢
   have hsw:Since w w0:=HR.out.1.trans ⟨hg0.os,hg0.tape,hg0.output,hg0.size,fun i hi=>hg0.block i hi (by simp)⟩
   have HW0:=Lib.hid (And.intro hr0 (And.intro hsw (show r+1≤w0.heap.size by omega)))
   have hGr:G≠r:=by omega
   have hwr:w.heap.size≤r:=by omega
   have hGl:G<r:=by omega
   clear HR hr0 hsw hg0 hs0 hrz hrg Hr hz
   go_loopw [11] (fun v wr=>∃ L:List Pt2,Hid (SetR wr G r S L)∧Hid (wr.ownsRow (r+1) 36 2 v L.length (L.flatMap ptV))∧Hid (Since w wr)) (fun _ wr=>wr.rangeLeft G r)
   case atStart=>exact⟨[],HW0.out.1,World.ownsRow_nil _ _ _ _,HW0.out.2.1⟩
   case round =>
    clear HW0
    obtain⟨L,HSR,HO,HS⟩:=hrel
    have hLS:L.length≤100000*100002:=Nat.le_trans (len_le_of_sub HSR.out.2.1 HSR.out.2.2.1) HSL.out
    obtain⟨ar,cr,rfl⟩:=own_slice HO.out
    go_wp2_with (first | (at_next;refine wpList_setnext rfl _ rfl rfl HSR.out ?_ ?_) | go_in)
    ·intro hall
     have hne:0<L.length:=by
      have hall:∀ p∈S,p∈L:=fun p hp=>by first | exact hall p hp | exact hall p.1 p.2 hp
      exact List.length_pos_iff.2 (fun e=>by have:=hall _ HSN.out;rw[e] at this;cases this)
     have hall:∀ p∈S,p∈L:=fun p hp=>by first | exact hall p hp | exact hall p.1 p.2 hp
     have HE:Hid (srtL L=hotL l):=by show _=_;rw[← HHL.out];exact srt_all HSR.out.2.1 HSR.out.2.2.1 hall
     have HLN:Hid ((hotL l).length=L.length):=by show _=_;rw[← HE.out,srt_len]
     obtain⟨gg,cc,hgc⟩:=own_some HO.out hne
     injection hgc with h1 _ h2
     subst h1 h2
     have hB:=(HO.out.lt gg rfl).1
     obtain⟨m,HM⟩:∃ m,Hid (m=L.length):=⟨_,rfl⟩
     have hlen:m≤1000:=by rw[HM.out,← HLN.out];exact HCAP.out
     have HSO:=Lib.hid (sort_spec gg cr L.length (r+1) L wr HO.out rfl (by omega))
     rw[← HM.out] at HSO HLN ⊢
     have hd:decide ((m:Int)≤1000)=true:=by rw[decide_eq_true_eq];omega
     clear hall HO HSR hne hLS
     go_wp2_with fail
     refine(HSO.out).mono ?_
     rintro e w3 ⟨rfl,ho,hs⟩
     have HS3:=Lib.hid (Only.since HS.out hs (by omega))
     have HO3:=Lib.hid ho
     clear ho hs HSO HS
     go_wp2_with fail
     refine bodyPost_ret (v:=.tuple #[.slice (some ⟨gg,0,none⟩) m cr,.bool true]) (by simp[results,Tryz.results80,go_sem,cSetS,cSetO,cellDrew,go_sem]) rfl ⟨_,rfl,?_,HS3.out⟩
     rw[HLN.out,← HE.out]
     exact HO3.out.mono (by omega)
    ·intro px py pc w1 hset hlt ho hsz hp hen
     unfold ptA at hen ⊢
     have HS1:=Lib.hid (Only.since HS.out ho hwr)
     have HO1:=Lib.hid (HO.out.kept ho (by right;intro h;exact absurd (HO.out.lt r h).1 (by omega)))
     have HR1:=Lib.hid (And.intro hset hlt)
     have hrs:=hset.lt
     clear hset hlt ho hsz hp HS HO HSR
     go_upto_region 21 with fail
     obtain⟨gp,HG⟩:∃ gp,gp=w1.heap.size:=⟨_,rfl⟩
     rw[← HG]
     refine atW (fun w' => Hid (Since w w')∧Hid (w'.ownsRow (r+1) 36 2 (.slice ar L.length cr) L.length (L.flatMap ptV))∧Hid (SetR w' G r S (L++[(px,py)])∧w'.rangeLeft G r<wr.rangeLeft G r)∧Blk w' gp 36 #[.int .i64 px,.int .i64 py]∧r+1≤w'.heap.size) ⟨HS1.out.alloc _,HO1.out.alloc _,?_,Blk.new' HG,by simp only[World.size_alloc];omega⟩ ?_
     ·have h:=HR1.out.1.kept (World.grownBy_alloc w1 (.cells #[.int .i64 px,.int .i64 py] 36) none) (by simp) (by simp)
      exact⟨h.1,by rw[h.2];exact HR1.out.2⟩
     clear HS1 HO1 HR1 HG hrs
     rintro w2 ⟨HS2,HO2,HR2,hb,hrs⟩
     have c0:w2.cell? ⟨gp,0,none⟩=some (.int .i64 px):=hb.cell 0
     have c1:w2.cell? ⟨gp,1,none⟩=some (.int .i64 py):=hb.cell 1
     clear hb
     obtain⟨i0,hi0,hz0,hz1,hz3⟩:=info_parts infoPt
     have HI:=Lib.hid hi0
     have HZ:=Lib.hid (And.intro hz0 (And.intro hz1 hz3))
     clear hi0 hz0 hz1 hz3
     go_wp2_with (at_builtin;refine wpList_append_own _ rfl _ _ 23 rfl (r+1) 36 i0 _ 2 16 Tryz.underlying23 HI.out HZ.out.1 HZ.out.2.1 HZ.out.2.2 rfl (by decide) _ _ _ rfl (own_since ((Since.rfl_ w2).alloc _) HO2.out) _ _ _ [.int .i64 px,.int .i64 py] rfl rfl (cell2_new _ _ _ _) (one2 _ _ _ _) (by unfold maxLen;omega) (by omega) (by simp only[World.size_alloc];omega) ?_)
     intro v' w' hown hgrow _
     obtain⟨ao',co',rfl⟩:=own_slice hown
     have hA:=(Since.rfl_ w2).alloc (.cells #[.int .i64 px,.int .i64 py] 36)
     have hoA:=own_since hA HO2.out
     have HS4:Hid (Since w w'):=((HS2.out.alloc (.cells #[.int .i64 px,.int .i64 py] 36))).grown hgrow (by simp only[World.size_alloc];have:=HS2.out.size;omega) fun k hk=>by have:=(hoA.lt k hk).1;omega
     have HO4:Hid (w'.ownsRow (r+1) 36 2 (.slice ao' (L.length+1) co') (L++[(px,py)]).length ((L++[(px,py)]).flatMap ptV)):=by
      show World.ownsRow _ _ _ _ _ _ _
      rw[List.flatMap_append,List.length_append]
      exact hown
     have HR4:Hid (SetR w' G r S (L++[(px,py)])∧w'.rangeLeft G r<wr.rangeLeft G r):=by
      have h:=HR2.out.1.kept (World.grownBy_alloc w2 (.cells #[.int .i64 px,.int .i64 py] 36) none) (by simp) (by simp)
      have h2:=h.1.kept hgrow (fun e=>by have:=(hoA.lt G e.symm).1;omega) (fun e=>by have:=(hoA.lt r e.symm).1;omega)
      exact⟨h2.1,by rw[h2.2,h.2];exact HR2.out.2⟩
     have HLE:(L++[(px,py)]).length=L.length+1:=by simp
     rw[HLE] at HO4
     clear hown hgrow hA hoA HS2 HO2 HR2 c0 c1 HI HZ
     go_wp2_with fail
     go_roundw
     case rel=>exact⟨L++[(px,py)],HR4.out.1,by rw[HLE];exact HO4,HS4⟩
     case measure=>exact HR4.out.2
end
section
open Go.RowKit Go.BigFrame
set_option maxRecDepth 100000 in
theorem Meets_any(ax ay bx by_ px py:Int)(w:World) :
  Calls Tryz.prog 102 #[.agg #[.int .i64 ax,.int .i64 ay],.agg #[.int .i64 bx,.int .i64 by_],.agg #[.int .i64 px,.int .i64 py]] w fun e w' =>
   e=.returned (.bool (meetsV (clampI ax) (clampI ay) (clampI bx) (clampI by_) (clampI px) (clampI py)))∧Since w w' := by
 have q1:=clampI_bd ax
 have q2:=clampI_bd ay
 have q3:=clampI_bd bx
 have q4:=clampI_bd by_
 have q5:=clampI_bd px
 have q6:=clampI_bd py
 go_enter Tryz.func102,Tryz.ntmps102
 go_wp2
 refine region_tail 6 (fun w' => w'.cell? ⟨w.heap.size,0,none⟩=some (.int .i64 ax)∧w'.cell? ⟨w.heap.size,1,none⟩=some (.int .i64 ay)∧w'.cell? ⟨w.heap.size+1,0,none⟩=some (.int .i64 bx)∧w'.cell? ⟨w.heap.size+1,1,none⟩=some (.int .i64 by_)∧w'.cell? ⟨w.heap.size+1+1,0,none⟩=some (.int .i64 px)∧w'.cell? ⟨w.heap.size+1+1,1,none⟩=some (.int .i64 py)∧Since (((w.alloc (.cells #[.int .i64 ax,.int .i64 ay] 36)).alloc (.cells #[.int .i64 bx,.int .i64 by_] 36)).alloc (.cells #[.int .i64 px,.int .i64 py] 36)) w') (by kernel_rfl) (by kernel_rfl) (by(repeat' refine And.intro ?_ ?_) <;> first | (simp (maxDischargeDepth:=9) [ cSetS,cSetO,cellNew,World.cell?_alloc_some,cellDrew];done) | (repeat (first | with_reducible assumption | with_reducible exact Since.rfl_ _ | refine Since.setCell ?_ (by(try dsimp only);omega) _ | refine Since.alloc ?_ _ | refine Since.drew ?_))) ?_
 simp only[List.take_succ_cons,List.take_zero,List.drop_succ_cons,List.drop_zero]
 repeat (go_big_quiet_step ((first | (intro hC;go_at_call 69;refine(Clamp_any _ _ _).mono ?_;rintro e w' ⟨rfl,hb⟩;refine⟨rfl,?_⟩;have k1:=keepC hb;have k2:=keepS hb;have hC:=hC.out;(try dsimp only at hC);simp[Cls,hC,k1,k2]) | (intro hC;have hC:=hC.out;(try simp only[hC,Result.andThen]);first | exact⟨True.intro,rfl⟩ | exact⟨rfl,rfl⟩ | rfl))))
 refine tail_end ?_
 rintro w1 ⟨-,-,-,-,-,-,hs⟩
 have hA:=hs.blk (((Blk.new w _ _).alloc _).alloc _)
 have hB:=hs.blk ((Blk.new (w.alloc _) _ _).alloc _)
 have hP:=hs.blk (Blk.new ((w.alloc _).alloc _) _ _)
 simp only[World.size_alloc] at hB hP
 have hsw:Since w w1:=((((Since.rfl_ w).alloc _).alloc _).alloc _).trans hs
 have a0:=hA.cell 0
 have a1:=hA.cell 1
 have b0:=hB.cell 0
 have b1:=hB.cell 1
 have p0:=hP.cell 0
 have p1:=hP.cell 1
 have fa0:=hA.frozen 0
 have fa1:=hA.frozen 1
 have fb0:=hB.frozen 0
 have fb1:=hB.frozen 1
 have fp0:=hP.frozen 0
 have fp1:=hP.frozen 1
 simp only[List.getElem?_toArray,List.getElem?_cons_zero,List.getElem?_cons_succ] at a0 a1 b0 b1 p0 p1
 have hsz:=hsw.size
 have hlP:=hP.lt
 have HSW:=Lib.hid hsw
 clear hs hsw hA hB hP
 have hsw0:=HSW.out
 iterate 5 (go_step;go_simp)
 generalize hW:World.setCell _ _ _=w2
 have hF:w2.cell? ⟨w.heap.size,0,none⟩=some (.int .i64 (clampI ax))∧w2.cell? ⟨w.heap.size,1,none⟩=some (.int .i64 (clampI ay))∧w2.cell? ⟨w.heap.size+1,0,none⟩=some (.int .i64 (clampI bx))∧w2.cell? ⟨w.heap.size+1,1,none⟩=some (.int .i64 (clampI by_))∧w2.cell? ⟨w.heap.size+1+1,0,none⟩=some (.int .i64 (clampI px))∧w2.cell? ⟨w.heap.size+1+1,1,none⟩=some (.int .i64 (clampI py))∧w.heap.size+1+1<w2.heap.size∧Since w w2:=by
  subst hW
  exact(by(repeat' refine And.intro ?_ ?_) <;> first | (simp (maxDischargeDepth:=9) [a0,a1,b0,b1,p0,p1,hlP,hsw0,  cSetS,cSetO,cellNew,World.cell?_alloc_some,cellDrew];done) | (repeat (first | with_reducible assumption | with_reducible exact Since.rfl_ _ | refine Since.setCell ?_ (by(try dsimp only);omega) _ | refine Since.alloc ?_ _ | refine Since.drew ?_)))
 clear hW
 clear a0 a1 b0 b1 p0 p1 fa0 fa1 fb0 fb1 fp0 fp1 hsw0 HSW
 obtain⟨a0,a1,b0,b1,p0,p1,hl2,hs2⟩:=hF
 have la:w.heap.size<w2.heap.size:=by omega
 have lb:w.heap.size+1<w2.heap.size:=by omega
 go_wp2_with fail
 have F1:(2*(clampI ax-clampI px)+1)=2*(clampI ax-clampI px)+1:=rfl
 refine(cut_any _ (0,1,true) (1,1,true) _ _ _ (Blk.new _ _ _) (by omega) (by omega)).mono ?_
 rintro e w3 ⟨rfl,hb3,ho3⟩
 have k3:=newC ho3
 have HS3:=Lib.hid (hs2.trans (newS ho3))
 replace a0:=k3 _ _ a0
 replace a1:=k3 _ _ a1
 replace b0:=k3 _ _ b0
 replace b1:=k3 _ _ b1
 replace p0:=k3 _ _ p0
 replace p1:=k3 _ _ p1
 have HB3:=Lib.hid hb3
 clear k3 ho3 hs2 hb3 F1
 cases hk1:cutOk (2*(clampI ax-clampI px)+1) (2*(clampI bx-clampI ax))
 ·go_wp2
  go_ret
  exact⟨ret_bool (by unfold meetsV;rw[hk1];rfl),HS3.out⟩
 ·have HK1:=Lib.hid hk1
  clear hk1
  go_wp2_with fail
  refine(cut_any _ _ _ _ _ _ HB3.out (by omega) (by omega)).mono ?_
  rintro e w4 ⟨rfl,hb4,ho4⟩
  have HS4:=Lib.hid (ho4.since HS3.out (by omega))
  have HB4:=Lib.hid hb4
  clear ho4 hb4 HB3 HS3 a0 a1 b0 b1 p0 p1
  cases hk2:cutOk (2*(clampI ay-clampI py)+1) (2*(clampI by_-clampI ay))
  ·go_wp2
   go_ret
   exact⟨ret_bool (by unfold meetsV;rw[HK1.out,hk2];rfl),HS4.out⟩
  ·have HK2:=Lib.hid hk2
   clear hk2
   obtain⟨lo,hlo⟩:∃ lo,lo=meetsLo (2*(clampI ax-clampI px)+1) (2*(clampI bx-clampI ax)) (2*(clampI ay-clampI py)+1) (2*(clampI by_-clampI ay)):=⟨_,rfl⟩
   obtain⟨hi,hhi⟩:∃ hi,hi=meetsHi (2*(clampI ax-clampI px)+1) (2*(clampI bx-clampI ax)) (2*(clampI ay-clampI py)+1) (2*(clampI by_-clampI ay)):=⟨_,rfl⟩
   have HM:Hid (meetsV (clampI ax) (clampI ay) (clampI bx) (clampI by_) (clampI px) (clampI py)=endE lo hi):=by
    show _=_
    unfold meetsV;rw[HK1.out,HK2.out,hlo,hhi];rfl
   have HB5:Hid (Blk w4 w2.heap.size 151 (partV lo hi)):=by rw[hlo,hhi];exact HB4.out
   clear hlo hhi HB4 HK1 HK2
   obtain⟨ln,ld,lc⟩:=lo
   obtain⟨hn,hd,hc⟩:=hi
   have c0:w4.cell? ⟨w2.heap.size,0,none⟩=some (.int .i64 ln):=HB5.out.cell 0
   have c1:w4.cell? ⟨w2.heap.size,1,none⟩=some (.int .i64 ld):=HB5.out.cell 1
   have c2:w4.cell? ⟨w2.heap.size,2,none⟩=some (.bool lc):=HB5.out.cell 2
   have c3:w4.cell? ⟨w2.heap.size,3,none⟩=some (.int .i64 hn):=HB5.out.cell 3
   have c4:w4.cell? ⟨w2.heap.size,4,none⟩=some (.int .i64 hd):=HB5.out.cell 4
   have c5:w4.cell? ⟨w2.heap.size,5,none⟩=some (.bool hc):=HB5.out.cell 5
   clear HB5
   go_wp2_with fail
   refine(cmp_any _ _ _ _ _ _ _).mono ?_
   rintro e w5 ⟨rfl,hb5⟩
   have k5:=keepC hb5
   replace c2:=k5 _ _ c2
   replace c5:=k5 _ _ c5
   have HS5:=Lib.hid (HS4.out.trans hb5)
   clear k5 hb5 c0 c1 c3 c4 HS4
   have HE:Hid (endE (ln,ld,lc) (hn,hd,hc)=if bndCmp ln ld hn hd<0 then true else if bndCmp ln ld hn hd=0 then lc && hc else false):=rfl
   generalize bndCmp ln ld hn hd=n at *
   rcases Int.lt_trichotomy n 0 with h | h | h
   ·have hz:(n == 0)=false:=by rw[beq_eq_false_iff_ne];omega
    go_wp2
    go_ret
    exact⟨ret_bool (by rw[HM.out,HE.out,if_pos h]),HS5.out⟩
   ·subst h
    cases lc <;> cases hc
    all_goals
     go_wp2
     go_ret
     exact⟨ret_bool (by rw[HM.out,HE.out];rfl),HS5.out⟩
   ·have hz:(n == 0)=false:=by rw[beq_eq_false_iff_ne];omega
    have hz1:decide (n<0)=false:=by rw[decide_eq_false_iff_not];omega
    go_wp2
    go_ret
    exact⟨ret_bool (by rw[HM.out,HE.out,if_neg (by omega),if_neg (by omega)]),HS5.out⟩
end
section
open Go.RowKit Go.BigFrame
attribute [local go_sem ↓] eqPt neqPt
def sgnI(n:Int):Int:=max (-1) (min 1 n)
theorem Sign_any(n:Int)(w:World):Calls Tryz.prog 104 #[.int .i64 n] w fun e w' => e=.returned (.int .i64 (sgnI n))∧w' = w:=by
 go_enter Tryz.func104,Tryz.ntmps104
 go_wp2
 all_goals (go_ret;refine⟨?_,rfl⟩;unfold sgnI;first | rfl | (congr 1;congr 1;omega))
def dirV(a b p q:Pt2):Int:=if sgnI (b.1-a.1)*(p.1-q.1)=0 then sgnI (b.2-a.2)*(p.2-q.2) else sgnI (b.1-a.1)*(p.1-q.1)
theorem sgnI_mul{n x:Int}(hx : -2097152≤x∧x≤2097152) : -2097152≤sgnI n*x∧sgnI n*x≤2097152:=by
 have:sgnI n = -1∨sgnI n=0∨sgnI n=1:=by unfold sgnI;omega
 rcases this with h | h | h <;> rw[h] <;> omega
set_option maxRecDepth 100000 in
set_option maxHeartbeats 2000000 in
theorem Dir_any{a b p q:Pt2}(ha:okP a.1 a.2=true)(hb:okP b.1 b.2=true)(hp:okP p.1 p.2=true)(hq:okP q.1 q.2=true)(ga gb:Nat)(w:World)
  (ka:Blk w ga 36 #[.int .i64 a.1,.int .i64 a.2]) (kb:Blk w gb 36 #[.int .i64 b.1,.int .i64 b.2]) :
  Calls Tryz.prog 103 #[.agg #[.int .i64 p.1,.int .i64 p.2],.agg #[.int .i64 q.1,.int .i64 q.2],.pointer (some ⟨gb,0,none⟩),.pointer (some ⟨ga,0,none⟩)] w fun e w' => e=.returned (.int .i64 (dirV a b p q))∧∃ n os,w' = Go.Sort.grow (w.drewN n) os:=by
 rw[okP_iff] at ha hb hp hq
 have wx:wrap64 (b.1-a.1)=b.1-a.1:=wrap_id (by omega)
 have wy:wrap64 (b.2-a.2)=b.2-a.2:=wrap_id (by omega)
 have vx:wrap64 (p.1-q.1)=p.1-q.1:=wrap_id (by omega)
 have vy:wrap64 (p.2-q.2)=p.2-q.2:=wrap_id (by omega)
 have bx:=sgnI_mul (n:=b.1-a.1) (x:=p.1-q.1) (by omega)
 have by_:=sgnI_mul (n:=b.2-a.2) (x:=p.2-q.2) (by omega)
 have HS1:=Lib.hid (fun w=>Sign_any (b.1-a.1) w)
 have HS2:=Lib.hid (fun w=>Sign_any (b.2-a.2) w)
 have HD:Hid (dirV a b p q=if sgnI (b.1-a.1)*(p.1-q.1)=0 then sgnI (b.2-a.2)*(p.2-q.2) else sgnI (b.1-a.1)*(p.1-q.1)):=rfl
 obtain⟨sx,HX⟩:∃ s,Hid (s=sgnI (b.1-a.1)):=⟨_,rfl⟩
 obtain⟨sy,HY⟩:∃ s,Hid (s=sgnI (b.2-a.2)):=⟨_,rfl⟩
 rw[← HX.out] at bx HS1 HD
 rw[← HY.out] at by_ HS2 HD
 have mx:wrap64 (sx*(p.1-q.1))=sx*(p.1-q.1):=wrap_id (by omega)
 have my:wrap64 (sy*(p.2-q.2))=sy*(p.2-q.2):=wrap_id (by omega)
 clear ha hb hp hq bx by_
 go_enter Tryz.func103,Tryz.ntmps103
 go_upto_region 1 with fail
 obtain⟨G,HG⟩:∃ G,G=w.heap.size:=⟨_,rfl⟩
 rw[← HG]
 refine atW (fun w' => (∃ os,w' = Go.Sort.grow w os)∧Blk w' ga 36 #[.int .i64 a.1,.int .i64 a.2]∧Blk w' gb 36 #[.int .i64 b.1,.int .i64 b.2]∧Blk w' G 36 #[.int .i64 p.1,.int .i64 p.2]∧Blk w' (G+1) 36 #[.int .i64 q.1,.int .i64 q.2]) ⟨⟨_,by rw[Go.Sort.alloc_eq_grow,Go.Sort.alloc_eq_grow,Go.Sort.grow_grow]⟩,(ka.alloc _).alloc _,(kb.alloc _).alloc _,(Blk.new' HG).alloc _,Blk.new' (by simp[HG])⟩ ?_
 rintro w1 ⟨⟨os,hw⟩,ha,hb,hp,hq⟩
 have HW:=Lib.hid hw
 clear hw ka kb HG
 have a0:w1.cell? ⟨ga,0,none⟩=some (.int .i64 a.1):=ha.cell 0
 have a1:w1.cell? ⟨ga,1,none⟩=some (.int .i64 a.2):=ha.cell 1
 have b0:w1.cell? ⟨gb,0,none⟩=some (.int .i64 b.1):=hb.cell 0
 have b1:w1.cell? ⟨gb,1,none⟩=some (.int .i64 b.2):=hb.cell 1
 have p0:w1.cell? ⟨G,0,none⟩=some (.int .i64 p.1):=hp.cell 0
 have p1:w1.cell? ⟨G,1,none⟩=some (.int .i64 p.2):=hp.cell 1
 have q0:w1.cell? ⟨G+1,0,none⟩=some (.int .i64 q.1):=hq.cell 0
 have q1:w1.cell? ⟨G+1,1,none⟩=some (.int .i64 q.2):=hq.cell 1
 clear ha hb hp hq
 by_cases hz:sx*(p.1-q.1)=0
 ·have hb0:(sx*(p.1-q.1) == 0)=true:=by rw[beq_iff_eq];exact hz
  have HE:Hid (dirV a b p q=sy*(p.2-q.2)):=by show _=_;rw[HD.out,if_pos hz]
  clear hz HD
  go_quiet ((go_at_call 104;exact Calls.quiet_of_same (HS1.out _)))
  go_upto_region 4 with fail
  refine atW (fun w' => Hid (∃ n,w' = w1.drewN n)∧w'.cell? ⟨ga,1,none⟩=some (.int .i64 a.2)∧w'.cell? ⟨gb,1,none⟩=some (.int .i64 b.2)∧w'.cell? ⟨G,1,none⟩=some (.int .i64 p.2)∧w'.cell? ⟨G+1,1,none⟩=some (.int .i64 q.2)) ⟨⟨_,rfl⟩,a1,b1,p1,q1⟩ ?_
  clear a0 a1 b0 b1 p0 p1 q0 q1
  rintro w2 ⟨HW2,a1,b1,p1,q1⟩
  go_quiet ((go_at_call 104;exact Calls.quiet_of_same (HS2.out _)))
  go_wp2_with fail
  go_ret
  refine⟨ret_int (my.trans HE.out.symm),?_⟩
  obtain⟨n,rfl⟩:=HW2.out
  exact⟨n+nq,os,by rw[HW.out];simp[World.drewN,Go.Sort.grow,Nat.add_assoc]⟩
 ·have hb0:(sx*(p.1-q.1) == 0)=false:=by rw[beq_eq_false_iff_ne];exact hz
  have HE:Hid (dirV a b p q=sx*(p.1-q.1)):=by show _=_;rw[HD.out,if_neg hz]
  clear hz HD
  go_quiet ((go_at_call 104;exact Calls.quiet_of_same (HS1.out _)))
  go_wp2_with fail
  go_ret
  exact⟨ret_int (mx.trans HE.out.symm),nq,os,by rw[HW.out];rfl⟩
abbrev OkPt:={p:Pt2 // okP p.1 p.2=true}
instance:Inhabited OkPt:=⟨⟨(0,0),by decide⟩⟩
def encO(p:OkPt):List Value:=ptV p.1
theorem flatK_ok(d:Array OkPt):Go.Sort.flatK encO 2 d=Go.Sort.flatK ptV 2 (d.map (·.1)):=by
 refine Go.Sort.ext_get! (by simp) fun t ht=>?_
 rw[Go.Sort.size_flatK] at ht
 rw[Go.Sort.get_flatK _ _ _ _ ht,Go.Sort.get_flatK _ _ _ _ (by simpa using ht)]
 have hi:t/2<d.size:=by omega
 rw[getElem!_pos d (t/2) hi,getElem!_pos (d.map (·.1)) (t/2) (by simpa using hi),Array.getElem_map]
 rfl
theorem dir_lex(a b p q:Pt2):dirV a b p q<0↔sgnI (b.1-a.1)*p.1<sgnI (b.1-a.1)*q.1∨(sgnI (b.1-a.1)*p.1=sgnI (b.1-a.1)*q.1∧sgnI (b.2-a.2)*p.2<sgnI (b.2-a.2)*q.2):=by
 unfold dirV
 have e1:sgnI (b.1-a.1)*(p.1-q.1)=sgnI (b.1-a.1)*p.1-sgnI (b.1-a.1)*q.1:=by grind
 have e2:sgnI (b.2-a.2)*(p.2-q.2)=sgnI (b.2-a.2)*p.2-sgnI (b.2-a.2)*q.2:=by grind
 rw[e1,e2]
 split <;> omega
theorem dir_swo(a b:Pt2):Go.Sort.SWO (Go.Proofs.ltOf fun(p q:OkPt)=>dirV a b p.1 q.1) where
 irrefl x:=by unfold Go.Proofs.ltOf;rw[decide_eq_false_iff_not,dir_lex];omega
 trans x y z h1 h2:=by unfold Go.Proofs.ltOf at *;rw[decide_eq_true_eq,dir_lex] at *;omega
 ntrans x y z h1 h2:=by unfold Go.Proofs.ltOf at *;rw[decide_eq_false_iff_not,dir_lex] at *;omega
theorem encO_one(x:OkPt):∀ v∈encO x,v.oneCell' = true:=ptV_one x.1
set_option maxHeartbeats 1000000 in
theorem dir_sort{a b:Pt2}(ha:okP a.1 a.2=true)(hb:okP b.1 b.2=true)(ga gb g c n B:Nat)(l:List Pt2)(w:World)(ho:w.ownsRow B 36 2 (.slice (some ⟨g,0,none⟩) n c) n (l.flatMap ptV))(hn:n=l.length)(hl:n≤1000000000000)
  (hok:∀ p∈l,okP p.1 p.2=true) (ka:Blk w ga 36 #[.int .i64 a.1,.int .i64 a.2]) (kb:Blk w gb 36 #[.int .i64 b.1,.int .i64 b.2]) (na:ga≠g) (nb:gb≠g) :
  Calls Tryz.prog 86 #[.slice (some ⟨g,0,none⟩) n c,.func (.func 103) #[] #[.pointer (some ⟨gb,0,none⟩),.pointer (some ⟨ga,0,none⟩)]] w fun e w' => e=.returned (.tuple #[])∧Only g w w' ∧
   ∃ l' : List Pt2,l'.Perm l∧(l'.Pairwise fun x y=>¬ dirV a b y x<0)∧w'.ownsRow B 36 2 (.slice (some ⟨g,0,none⟩) n c) n (l'.flatMap ptV):=by
 have eg:∀ args w,(callFunc 103 args).run Tryz.prog w=.ok (.enter 103 args) w:=enters_of Tryz.func103 (by kernel_rfl) rfl
 have hlt:=(ho.lt g rfl).2
 obtain⟨d,hd⟩:∃ d:Array OkPt,d.map (·.1)=l.toArray:=⟨(l.attach.map fun p=>⟨p.1,hok p.1 p.2⟩).toArray,by simp only[List.map_toArray,List.map_map];exact congrArg _ (List.attach_map_subtype_val l)⟩
 have hds:d.size=n:=by have:=congrArg Array.size hd;simpa[hn] using this
 have hcmp:Go.Proofs.CmpLays Tryz.prog 103 #[.pointer (some ⟨gb,0,none⟩),.pointer (some ⟨ga,0,none⟩)] encO 2 (fun p q=>dirV a b p.1 q.1) g 0 d.size w:=by
  intro m os dk hs x y
  have hO:Only g w (Go.Proofs.sortWorldK encO 2 w g 0 m dk os):=by
   unfold Go.Proofs.sortWorldK Go.Sort.putRowK
   rw[flatK_ok]
   exact only_sort _ hlt
  exact Dir_any ha hb x.2 y.2 ga gb _ (Only.blk hO ka na) (Only.blk hO kb nb)
 have hH:Go.Sort.HoldsK encO 2 w g 0 d:=by
  unfold Go.Sort.HoldsK
  rw[flatK_ok,hd]
  exact own_holds ho hn
 have hcon:=Go.Proofs.AnyQ.slices_SortFunc sortPt 2 Tryz.isAgg36 Tryz.sizeOf36 encO (fun x=>ptV_len x.1) encO_one (fun(p q:OkPt)=>dirV a b p.1 q.1) (dir_swo a b) 103 #[.pointer (some ⟨gb,0,none⟩),.pointer (some ⟨ga,0,none⟩)] g 0 c d w eg hcmp hH hlt (by omega)
 change Calls Tryz.prog 86 _ _ _ at hcon
 rw[hds] at hcon
 refine hcon.mono ?_
 rintro e w' ⟨rfl,d',m,os,hp,hs,rfl⟩
 unfold Go.Proofs.sortWorldK Go.Sort.putRowK
 rw[flatK_ok]
 obtain⟨hsz,-,hperm⟩:=hp
 rw[← hds,Array.extract_size,← hsz,Array.extract_size] at hperm
 obtain⟨l',hl'⟩:∃ l' : List Pt2,l' = (d'.map (·.1)).toList:=⟨_,rfl⟩
 have e1:(d'.map (·.1))=l'.toArray:=by rw[hl']
 have e2:l=(d.map (·.1)).toList:=by rw[hd]
 have hpl:l'.Perm l:=by
  rw[hl',e2,Array.toList_map,Array.toList_map]
  exact hperm.map _
 rw[e1]
 refine⟨rfl,only_sort _ hlt,l',hpl,?_,own_sort ho hn hpl.length_eq⟩
 rw[hl',Array.toList_map,List.pairwise_map,List.pairwise_iff_getElem]
 intro i j hi hj hij
 have h:=hs i j (Nat.zero_le _) hij (by simp at hj;omega)
 have hi' : i<d'.size:=by simpa using hi
 have hj' : j<d'.size:=by simpa using hj
 rw[getElem!_pos d' i hi',getElem!_pos d' j hj'] at h
 unfold Go.Proofs.ltOf at h
 rw[decide_eq_false_iff_not] at h
 simpa using h
end
section
open Go.RowKit Go.BigFrame
theorem sizeOfPt(w:World):(Go.sizeOf 36).run Tryz.prog w=.ok 2 w:=Tryz.sizeOf36 w
theorem partS(a b c d:Int)(w:World):(part 36 #[.int .i64 a,.int .i64 b,.int .i64 c,.int .i64 d] 0).run Tryz.prog w=.ok (.agg #[.int .i64 a,.int .i64 b]) w:=by
 simp[go_sem]
theorem partS2(a b c d:Int)(w:World):(part 36 #[.int .i64 a,.int .i64 b,.int .i64 c,.int .i64 d] 2).run Tryz.prog w=.ok (.agg #[.int .i64 c,.int .i64 d]) w:=by
 simp[go_sem]
theorem eqSgS(x y z u x' y' z' u' : Int)(d:Nat)(H:∀ (a b c e:Int) (w:World),(Op.equalIn d 36 (.agg #[.int .i64 a,.int .i64 b]) (.agg #[.int .i64 c,.int .i64 e])).run Tryz.prog w=.ok (a == c && b == e) w)(w:World) :
  (Op.equalIn (d+1) 37 (.agg #[.int .i64 x,.int .i64 y,.int .i64 z,.int .i64 u]) (.agg #[.int .i64 x',.int .i64 y',.int .i64 z',.int .i64 u'])).run Tryz.prog w=.ok ((x == x' && y == y') && (z == z' && u == u')) w:=by
 simp only[Op.equalIn,Sem.run_bind,run_underlying Tryz.underlying37,Result.andThen_ok,sizeOfPt]
 rw[Std.Legacy.Range.forIn_eq_forIn_range']
 simp only[Std.Legacy.Range.size,List.range',List.forIn_cons,List.forIn_nil,Sem.run_bind,Sem.run_ite,partS,partS2,Result.andThen_ok,H]
 cases e1:(x == x' && y == y') <;> cases e2:(z == z' && u == u') <;> simp[go_sem,partS,partS2,H,e1,e2,Result.andThen]
theorem eqSg(x y z u x' y' z' u' : Int)(w:World):(binOp .eql 37 (.agg #[.int .i64 x,.int .i64 y,.int .i64 z,.int .i64 u]) (.agg #[.int .i64 x',.int .i64 y',.int .i64 z',.int .i64 u'])).run Tryz.prog w=.ok (.bool ((x == x' && y == y') && (z == z' && u == u'))) w:=by
 have h:(Op.equal 37 (.agg #[.int .i64 x,.int .i64 y,.int .i64 z,.int .i64 u]) (.agg #[.int .i64 x',.int .i64 y',.int .i64 z',.int .i64 u'])).run Tryz.prog w=.ok ((x == x' && y == y') && (z == z' && u == u')) w:=eqSgS x y z u x' y' z' u' 9999 (fun a b c e w=>eqPtS a b c e 9997 w) w
 simp only[binOp]
 simp[h]
theorem neqSg(x y z u x' y' z' u' : Int)(w:World):(binOp .neq 37 (.agg #[.int .i64 x,.int .i64 y,.int .i64 z,.int .i64 u]) (.agg #[.int .i64 x',.int .i64 y',.int .i64 z',.int .i64 u'])).run Tryz.prog w=.ok (.bool (!((x == x' && y == y') && (z == z' && u == u')))) w:=by
 have h:(Op.equal 37 (.agg #[.int .i64 x,.int .i64 y,.int .i64 z,.int .i64 u]) (.agg #[.int .i64 x',.int .i64 y',.int .i64 z',.int .i64 u'])).run Tryz.prog w=.ok ((x == x' && y == y') && (z == z' && u == u')) w:=eqSgS x y z u x' y' z' u' 9999 (fun a b c e w=>eqPtS a b c e 9997 w) w
 simp only[binOp]
 simp[h]
theorem infoSg:(Tryz.prog.info? 37).map (fun i=>(i.zero,i.size,i.bytes))=some (some (.agg #[.int .i64 0,.int .i64 0,.int .i64 0,.int .i64 0]),4,32):=by kernel_rfl
end
section
open Go.RowKit Go.BigFrame
def eqG(s t:Sg):Bool:=decide (s=t)
theorem eqG_b(s t:Sg):((s.1.1 == t.1.1 && s.1.2 == t.1.2) && (s.2.1 == t.2.1 && s.2.2 == t.2.2))=eqG s t:=by
 unfold eqG
 rw[Bool.eq_iff_iff]
 simp only[Bool.and_eq_true,beq_iff_eq,decide_eq_true_eq]
 constructor
 ·rintro⟨⟨a,b⟩,c,d⟩;exact Prod.ext (Prod.ext a b) (Prod.ext c d)
 ·rintro rfl;simp
theorem eqSgP(s t:Sg)(w:World):(binOp .eql 37 (.agg #[.int .i64 s.1.1,.int .i64 s.1.2,.int .i64 s.2.1,.int .i64 s.2.2]) (.agg #[.int .i64 t.1.1,.int .i64 t.1.2,.int .i64 t.2.1,.int .i64 t.2.2])).run Tryz.prog w=.ok (.bool (eqG s t)) w:=by rw[eqSg,eqG_b]
theorem neqSgP(s t:Sg)(w:World):(binOp .neq 37 (.agg #[.int .i64 s.1.1,.int .i64 s.1.2,.int .i64 s.2.1,.int .i64 s.2.2]) (.agg #[.int .i64 t.1.1,.int .i64 t.1.2,.int .i64 t.2.1,.int .i64 t.2.2])).run Tryz.prog w=.ok (.bool (!(eqG s t))) w:=by rw[neqSg,eqG_b]
attribute [local go_sem ↓] eqSgP neqSgP
def RowG(w:World)(g n N:Nat)(f:Nat→Sg):Prop :=
 ∃ cs,Blk w g 37 cs∧cs.size=N∧4*n≤N∧∀ i,i<n→cs[4*i]? = some (.int .i64 (f i).1.1)∧cs[4*i+1]? = some (.int .i64 (f i).1.2)∧cs[4*i+2]? = some (.int .i64 (f i).2.1)∧cs[4*i+3]? = some (.int .i64 (f i).2.2)
section
variable {w w' : World} {g n m N : Nat} {f f' : Nat → Sg}
theorem RowG.since(h:RowG w g n N f)(k:Since w w'):RowG w' g n N f:=by
 obtain⟨cs,hb,hc⟩:=h
 exact⟨cs,k.blk hb,hc⟩
theorem RowG.drew(h:RowG w g n N f):RowG w.drew g n N f:=h
theorem RowG.lt(h:RowG w g n N f):g<w.heap.size:=by obtain⟨cs,hb,-⟩:=h;exact hb.lt
theorem RowG.cells(h:RowG w g n N f){i:Nat}(hi:i<n) :
  w.cell? ⟨g,i*4,none⟩=some (.int .i64 (f i).1.1)∧w.cell? ⟨g,i*4+1,none⟩=some (.int .i64 (f i).1.2)∧w.cell? ⟨g,i*4+2,none⟩=some (.int .i64 (f i).2.1)∧w.cell? ⟨g,i*4+3,none⟩=some (.int .i64 (f i).2.2):=by
 obtain⟨cs,hb,-,-,hc⟩:=h
 obtain⟨h1,h2,h3,h4⟩:=hc i hi
 rw[Nat.mul_comm 4 i] at h1 h2 h3 h4
 exact⟨(hb.cell _).trans h1,(hb.cell _).trans h2,(hb.cell _).trans h3,(hb.cell _).trans h4⟩
theorem RowG.frozen(h:RowG w g n N f)(j:Nat):w.frozen? ⟨g,j,none⟩=false:=by obtain⟨cs,hb,-⟩:=h;exact hb.frozen _
theorem RowG.is(h:RowG w g n N f){j:Nat}(hj:j<N):(w.cell? ⟨g,j,none⟩).isSome=true:=by
 obtain⟨cs,hb,hs,-⟩:=h
 rw[hb.cell,Array.getElem?_eq_getElem (by omega)];rfl
theorem RowG.sub(h:RowG w g n N f)(hm:m≤n)(hf:∀ i,i<m→f' i=f i):RowG w g m N f' := by
 obtain⟨cs,hb,hs,hn,hc⟩:=h
 exact⟨cs,hb,hs,by omega,fun i hi=>by rw[hf i hi];exact hc i (by omega)⟩
theorem RowG.set(h:RowG w g n N f){j:Nat}(hj:j<n)(p:Sg):RowG ((((w.setCell ⟨g,j*4,none⟩ (.int .i64 p.1.1)).setCell ⟨g,j*4+1,none⟩ (.int .i64 p.1.2)).setCell ⟨g,j*4+2,none⟩ (.int .i64 p.2.1)).setCell ⟨g,j*4+3,none⟩ (.int .i64 p.2.2)) g n N (fun i=>if i=j then p else f i):=by
 obtain⟨cs,hb,hs,hn,hc⟩:=h
 refine⟨_,(((hb.set_ _ _).set_ _ _).set_ _ _).set_ _ _,by simpa using hs,hn,fun i hi=>?_⟩
 have h:=hc i hi
 by_cases e:i=j
 ·subst e
  simp only[Array.getElem?_setIfInBounds,Array.size_setIfInBounds,if_true]
  refine⟨?_,?_,?_,?_⟩ <;> (repeat' split) <;> first | (exfalso;omega) | rfl
 ·simp only[if_neg e]
  refine⟨?_,?_,?_,?_⟩ <;> (rw[Array.getElem?_setIfInBounds_ne (by omega),Array.getElem?_setIfInBounds_ne (by omega),Array.getElem?_setIfInBounds_ne (by omega),Array.getElem?_setIfInBounds_ne (by omega)]) <;> first | exact h.1 | exact h.2.1 | exact h.2.2.1 | exact h.2.2.2
theorem RowG.high(h:RowG w g n N f){j:Nat}(hj:4*n≤j)(u:Value):RowG (w.setCell ⟨g,j,none⟩ u) g n N f:=by
 obtain⟨cs,hb,hs,hn,hc⟩:=h
 refine⟨_,hb.set_ _ _,by simpa using hs,hn,fun i hi=>?_⟩
 rw[Array.getElem?_setIfInBounds_ne (by omega),Array.getElem?_setIfInBounds_ne (by omega),Array.getElem?_setIfInBounds_ne (by omega),Array.getElem?_setIfInBounds_ne (by omega)]
 exact hc i hi
theorem RowG.highs:∀ (l:List Value) (j:Nat) (w:World),RowG w g n N f→4*n≤j→RowG (w.setCells g j l) g n N f
 | [],_,_,h,_=>h
 | v :: r,j,w,h,hj=>RowG.highs r (j+1) _ (h.high hj v) (by omega)
end
def lastG(l:List Sg):Sg:=sgAt l (l.length-1)
def snocG(acc:List Sg)(q:Sg):List Sg:=if acc.length=0 then [q] else if q=lastG acc then acc else acc++[q]
def cmpG(l:List Sg):List Sg:=l.foldl snocG []
theorem cmpG_snoc(l:List Sg)(q:Sg):cmpG (l++[q])=snocG (cmpG l) q:=by unfold cmpG;rw[List.foldl_append];rfl
theorem cmpG_take{l:List Sg}{j:Nat}(hj:j<l.length):cmpG (l.take (j+1))=snocG (cmpG (l.take j)) (sgAt l j):=by
 rw[List.take_succ_eq_append_getElem hj,cmpG_snoc]
 simp[sgAt,List.getD,hj]
theorem lastG_snoc(l:List Sg)(q:Sg):lastG (l++[q])=q:=by unfold lastG sgAt;simp[List.getD]
theorem snocG_last(l:List Sg)(q:Sg):lastG (snocG l q)=q∧1≤(snocG l q).length∧(snocG l q).length≤l.length+1:=by
 unfold snocG
 split
 ·exact⟨by simp[lastG,sgAt,List.getD],by simp,by simp⟩
 ·split
  ·rename_i h;exact⟨h.symm,by omega,by omega⟩
  ·exact⟨lastG_snoc _ _,by simp,by simp⟩
theorem cmpG_law{l:List Sg}:∀ {j:Nat},j<l.length→lastG (cmpG (l.take (j+1)))=sgAt l j∧1≤(cmpG (l.take (j+1))).length∧(cmpG (l.take (j+1))).length≤j+1
 | 0,hj=>by
  rw[cmpG_take hj]
  have:=snocG_last (cmpG (l.take 0)) (sgAt l 0)
  exact⟨this.1,this.2.1,by simpa[cmpG] using this.2.2⟩
 | j+1,hj=>by
  rw[cmpG_take hj]
  have:=snocG_last (cmpG (l.take (j+1))) (sgAt l (j+1))
  have h2:=(cmpG_law (l:=l) (j:=j) (by omega)).2.2
  exact⟨this.1,this.2.1,by omega⟩
theorem cmpG_same{l:List Sg}{j:Nat}(hj:j+1<l.length)(h:sgAt l (j+1)=sgAt l j):cmpG (l.take (j+1+1))=cmpG (l.take (j+1)):=by
 have h1:=cmpG_law (l:=l) (j:=j) (by omega)
 rw[cmpG_take hj,snocG,if_neg (by omega),if_pos (by rw[h1.1,h])]
theorem cmpG_new{l:List Sg}{j:Nat}(hj:j+1<l.length)(h:¬ sgAt l (j+1)=sgAt l j):cmpG (l.take (j+1+1))=cmpG (l.take (j+1))++[sgAt l (j+1)]:=by
 have h1:=cmpG_law (l:=l) (j:=j) (by omega)
 rw[cmpG_take hj,snocG,if_neg (by omega),if_neg (by rw[h1.1];exact h)]
theorem cmpG_le(l:List Sg):(cmpG l).length≤l.length:=by
 rcases hl:l.length with _ | n
 ·rw[List.length_eq_zero_iff.1 hl];simp[cmpG]
 ·have:=(cmpG_law (l:=l) (j:=n) (by omega)).2.2
  rw[List.take_of_length_le (by omega)] at this
  omega
theorem sgAt_app_lt{l m:List Sg}{i:Nat}(h:i<l.length):sgAt (l++m) i=sgAt l i:=by unfold sgAt;simp[List.getD,List.getElem?_append_left h]
theorem sgAt_app_at(l:List Sg)(q:Sg):sgAt (l++[q]) l.length=q:=by unfold sgAt;simp[List.getD]
theorem sgAt_take{l:List Sg}{i j:Nat}(h:i<j):sgAt (l.take j) i=sgAt l i:=by unfold sgAt;simp[List.getD,List.getElem?_take,h]
theorem zeroSg(n:Nat):∀ u∈(Builtin.zeroCells #[Value.int .i64 0,Value.int .i64 0,Value.int .i64 0,Value.int .i64 0] n).toList,u.oneCell' = true:=by
 intro u hu
 simp only[Builtin.zeroCells,Array.toList_map,List.mem_map] at hu
 obtain⟨i,-,rfl⟩:=hu
 have:i % 4=0∨i % 4=1∨i % 4=2∨i % 4=3:=by omega
 simp only[List.size_toArray,List.length_cons,List.length_nil]
 rcases this with h | h | h | h <;> rw[h] <;> rfl
theorem zeroSg_len(n:Nat):(Builtin.zeroCells #[Value.int .i64 0,Value.int .i64 0,Value.int .i64 0,Value.int .i64 0] n).toList.length=n*4:=by simp[Builtin.zeroCells]
theorem clear_sg(w:World)(g m n c N:Nat)(f:Nat→Sg)(ty:TypeId)(h:RowG w g m N f)(hn:0<n)(hN:4*(m+n)≤N) :
  (Builtin.clear_ #[27] ty #[.slice (some ⟨g,m*4,none⟩) n c]).run Tryz.prog w=.ok (.tuple #[]) (w.setCells g (m*4) (Builtin.zeroCells #[Value.int .i64 0,Value.int .i64 0,Value.int .i64 0,Value.int .i64 0] n).toList):=by
 obtain⟨k,rfl⟩:∃ k,n=k+1:=⟨n-1,by omega⟩
 have hst:=run_storeCells_cells (P:=Tryz.prog) g (m*4) (Builtin.zeroCells #[Value.int .i64 0,Value.int .i64 0,Value.int .i64 0,Value.int .i64 0] (k+1)).toList 0 w
  (fun j hj=>h.is (by rw[zeroSg_len] at hj;omega)) (fun j hj=>h.frozen _) (zeroSg (k+1))
 simp only[Nat.add_zero] at hst
 obtain⟨i0,hi,hz0,hz1,hz2⟩:=info_parts infoSg
 unfold Builtin.clear_
 simp[go_sem,Tryz.underlying27]
 rw[hst];rfl
def CmpG(l:List Sg)(f:Nat→Sg)(j kk:Nat):Prop :=
 kk=(cmpG (l.take j)).length∧kk<j∧(∀ i,i<kk→f i=sgAt (cmpG (l.take j)) i)∧∀ i,j≤i+1→f i=sgAt l i
theorem CmpG.same{l:List Sg}{f:Nat→Sg}{j kk:Nat}(h:CmpG l f j kk)(hj:j<l.length)(h1:1≤j)(e:sgAt l j=sgAt l (j-1)):CmpG l f (j+1) kk:=by
 obtain⟨a,b,c,d⟩:=h
 obtain⟨j,rfl⟩:∃ i,j=i+1:=⟨j-1,by omega⟩
 have:=cmpG_same hj e
 exact⟨by rw[this];exact a,by omega,by rw[this];exact c,fun i hi=>d i (by omega)⟩
theorem CmpG.new{l:List Sg}{f:Nat→Sg}{j kk:Nat}(h:CmpG l f j kk)(hj:j<l.length)(h1:1≤j)(e:¬ sgAt l j=sgAt l (j-1)):CmpG l (fun i=>if i=kk then sgAt l j else f i) (j+1) (kk+1):=by
 obtain⟨a,b,c,d⟩:=h
 obtain⟨j,rfl⟩:∃ i,j=i+1:=⟨j-1,by omega⟩
 have:=cmpG_new hj e
 refine⟨by rw[this,List.length_append,← a];rfl,by omega,fun i hi=>?_,fun i hi=>?_⟩
 ·rw[this]
  dsimp only
  by_cases g:i=kk
  ·rw[if_pos g,g,a,sgAt_app_at]
  ·rw[if_neg g,c i (by omega),sgAt_app_lt (by omega)]
 ·dsimp only;rw[if_neg (by omega)];exact d i (by omega)
theorem CmpG.start{l:List Sg}{k:Nat}(hk:k+1<l.length)(hall:∀ i,1≤i→i<k+1→sgAt l i≠sgAt l (i-1))(e:sgAt l (k+1)=sgAt l k):CmpG l (sgAt l) (k+1+1) (k+1):=by
 have key:∀ j,j<k+1→cmpG (l.take (j+1))=l.take (j+1):=by
  intro j
  induction j with
  | zero=>intro _;rw[cmpG_take (by omega)];simp[cmpG,snocG,sgAt,List.take_one,List.getD];cases l <;> simp_all
  | succ j ih =>
   intro hj
   rw[cmpG_new (by omega) (by have:=hall (j+1) (by omega) hj;simpa using this),ih (by omega),List.take_succ_eq_append_getElem (show j+1<l.length by omega)]
   simp[sgAt,List.getD,show j+1<l.length by omega]
 have h2:=cmpG_same hk e
 rw[key k (by omega)] at h2
 refine⟨by rw[h2];simp;omega,by omega,fun i hi=>?_,fun i hi=>rfl⟩
 rw[h2,sgAt_take hi]
theorem cmpG_id{l:List Sg}(hall:∀ i,1≤i→i<l.length→sgAt l i≠sgAt l (i-1)):cmpG l=l:=by
 rcases hl:l.length with _ | n
 ·rw[List.length_eq_zero_iff.1 hl];rfl
 ·have key:∀ j,j<l.length→cmpG (l.take (j+1))=l.take (j+1):=by
   intro j
   induction j with
   | zero=>intro _;rw[cmpG_take (by omega)];simp[cmpG,snocG,sgAt,List.take_one,List.getD];cases l <;> simp_all
   | succ j ih =>
    intro hj
    rw[cmpG_new (by omega) (by have:=hall (j+1) (by omega) hj;simpa using this),ih (by omega),List.take_succ_eq_append_getElem (show j+1<l.length by omega)]
    simp[sgAt,List.getD,show j+1<l.length by omega]
  have:=key n (by omega)
  rwa[List.take_of_length_le (by omega)] at this
end
end Go.Proofs.YtdnccjdlmepafaaGreat
