/-
  The walk of arr's Build for no segments; half.Check of what Build makes: OK; What is known of the half-edges that Build makes: ends, twins, next ones, faces; Plain: how often each number is the next one of another: once; The walk of half.Walk: the half-edges of a boundary; Plain: half-edges that have been seen, boundary by boundary; A row of marks ([]bool) beside a subdivision, in memory; Plain: the faces beside a face: marks and their list. Conditions: those that each lemma names.
-/
import Derived.Test.YtdnccjdlmepafaaGreatK27
set_option linter.unusedSimpArgs false
set_option linter.unusedVariables false
set_option linter.constructorNameAsVariable false
namespace Go.Proofs.YtdnccjdlmepafaaGreat
section
open Go.RowKit Go.BigFrame Go.Shelf Go.Lib Go.Proofs Go.Maps
attribute [local go_sem ↓] eqPt neqPt
theorem pts_none (p:Option Addr) (cap:Nat) (fv:Value) (w:World):Calls Tryz.prog 86 #[.slice p 0 cap,fv] w fun e w' => e=.returned (.tuple #[])∧w' = w :=
 AnyF.slices_SortFunc_none (P:=Tryz.prog) (ρ:=sortPt_ren) { sortPt with } p cap fv w
set_option maxRecDepth 100000 in
theorem compact_none (w:World):Calls Tryz.prog 87 #[.slice none 0 0] w fun e w' => e=.returned (.slice none 0 0)∧w' = w:=by
 go_enter Tryz.func87,Tryz.ntmps87
 go_wp2_with fail
 go_ret
 exact ⟨rfl,rfl⟩
set_option maxRecDepth 100000 in
set_option maxHeartbeats 1000000 in
theorem repeat_none {w:World} {g:Nat} {x:Int} (hg:Blk w g 3 #[.int .i64 x]) :
  Calls Tryz.prog 93 #[.slice (some ⟨g,0,none⟩) 1 1,.int .i64 0] w fun e w' => ∃ g',e=.returned (.slice (some ⟨g',0,none⟩) 0 0)∧Since w w' := by
 have HG:=Lib.hid hg
 have HM:=Lib.hid (fun w=>MulB 1 0 (by omega) (by omega) (by omega) w)
 rw [Nat.mul_zero] at HM
 obtain ⟨i2,hi2,hy0,hy1,hy3⟩:=info_parts infoI
 have HI2:=Lib.hid (And.intro hi2 (And.intro hy0 (And.intro hy1 hy3)))
 have HSZ:Hid ((Tryz.prog.info? 3).map (·.size)=some 1):=by show _=_;rw [hi2];show some i2.size=_;rw [hy1]
 clear hi2 hy0 hy1 hy3
 obtain ⟨B,HB⟩:∃ B,Hid (B=w.heap.size):=⟨_,rfl⟩
 clear hg
 go_enter Tryz.func93,Tryz.ntmps93
 go_upto_region 6 with (go_at_call 108;refine (HM.out _).mono ?_;rintro e w' ⟨rfl,rfl⟩)
 go_upto_region 7 with (at_make;refine wpList_make_full _ rfl _ _ 22 rfl w.heap.size 3 i2 _ 1 Tryz.underlying22 HI2.out.1 HI2.out.2.1 HI2.out.2.2.1 .i64 .i64 _ _ 0 rfl rfl rfl rfl (by rw [HI2.out.2.2.2];omega) (by unfold maxLen;omega) (Nat.le_refl _) ?_;intro w2 hown hgrow)
 rw [← HB.out] at hown ⊢
 have hs2:Since w w2:=⟨hgrow.os,hgrow.tape,hgrow.output,hgrow.size,fun i hi=>hgrow.block i hi (by simp)⟩
 have hcp0:=run_copy_cells (P:=Tryz.prog) w2 22 22 3 3 B 0 0 0 ⟨g,0,none⟩ 1 1 [] Tryz.underlying22 HSZ.out rfl (fun j v hv=>by simp at hv) (fun j hj=>by simp at hj) (fun j hj=>by simp at hj) (fun v hv=>by simp at hv)
 have hcp:(Builtin.copy_ #[22,22] 3 #[.slice (some ⟨B,0,none⟩) 0 0,.slice (some ⟨g,0,none⟩) 1 1]).run Tryz.prog w2=.ok (.int .i64 0) w2:=hcp0
 have HS2:=Lib.hid hs2
 clear hcp0 hown hgrow hs2
 go_wp2_with fail
 clear hcp
 go_loopw [8] (fun v wr=>v=.int .i64 0∧Hid (Since w wr)) (fun _ _=>0)
 case atStart=>exact ⟨by go_num,HS2⟩
 case round =>
  clear HS2
  obtain ⟨rfl,HS⟩:=hrel
  go_wp2_with fail
  go_ret
  exact ⟨B,rfl,HS.out⟩
def Mk0 (w:World) (G:Nat) (vF vC vA vO:Value):Prop:=Blk w G 94 #[nilV,nilV,vF,vC,nilV,nilV,vA,vO]
set_option maxRecDepth 100000 in
set_option maxHeartbeats 4000000 in
theorem Begin_nil (a:Option Addr) (c G:Nat) (w0 w:World) (hs0:Since w0 w) (hG:w0.heap.size≤G) (hM:Mk0 w G nilV nilV nilV nilV) :
  Calls Tryz.prog 64 #[.pointer (some ⟨G,0,none⟩),.slice a 0 c] w fun e w' => e=.returned (.tuple #[])∧Since w0 w' ∧ ∃ g,Mk0 w' G nilV nilV nilV (.slice (some ⟨g,0,none⟩) 0 0):=by
 obtain ⟨i2,hi2,hy0,hy1,hy3⟩:=info_parts infoIs
 have HI2:=Lib.hid (And.intro hi2 (And.intro hy0 (And.intro hy1 hy3)))
 clear hi2 hy0 hy1 hy3
 have hGw:G<w.heap.size:=Blk.lt hM
 go_enter Tryz.func64,Tryz.ntmps64
 go_upto_region 2 with fail
 obtain ⟨Gb,HGb⟩:∃ Gb,Gb=w.heap.size:=⟨_,rfl⟩
 rw [← HGb]
 refine atW (fun w' => Hid (Since w0 w')∧Hid (Blk w' Gb 91 #[.pointer (some ⟨G,0,none⟩)])∧Hid (Mk0 w' G nilV nilV nilV nilV)) ⟨hs0.alloc _,Blk.new' HGb,Blk.alloc hM _⟩ ?_
 have hGb:G<Gb:=by omega
 clear hs0 hM HGb hGw
 rintro w1 ⟨HS1,HB1,HM1⟩
 go_loopw [16] (fun v wr=>v=.int .i64 0∧Hid (Since w0 wr)∧Hid (Blk wr Gb 91 #[.pointer (some ⟨G,0,none⟩)])∧Hid (Mk0 wr G nilV nilV nilV nilV)) (fun _ _=>0)
 case atStart=>exact ⟨by go_num,HS1,HB1,HM1⟩
 case round =>
  clear HS1 HB1 HM1
  obtain ⟨rfl,HS,HB,HM⟩:=hrel
  obtain ⟨w2,rfl⟩:∃ w2,w2=wr:=⟨_,rfl⟩
  have b0:w2.cell? ⟨Gb,0,none⟩=some (.pointer (some ⟨G,0,none⟩)):=HB.out.cell 0
  have m0:w2.cell? ⟨G,0,none⟩=some (.slice none 0 0):=Blk.cell HM.out 0
  have f0:=Blk.frozen HM.out 0
  have HSP:=Lib.hid (fun fv w' => pts_none none 0 fv w')
  go_upto_region 7 with (go_at_call 86;refine (HSP.out _ _).mono ?_;rintro e w2' ⟨rfl,rfl⟩)
  clear HSP
  have KF:=Lib.hid (fun w' (k:Since w2' w')=>(show w'.cell? ⟨Gb,0,none⟩=some (.pointer (some ⟨G,0,none⟩))∧w'.cell? ⟨G,0,none⟩=some (.slice none 0 0) from ⟨keepC k _ _ b0,keepC k _ _ m0⟩))
  clear b0 m0
  apply region_facts 10 (fun w' => Since w2' w')
  case hm=>kernel_rfl
  case hB=>kernel_rfl
  case hS=>exact (Since.rfl_ w2').drew
  case h =>
  simp only [List.take_succ_cons,List.take_zero,List.drop_succ_cons,List.drop_zero]
  iterate 6 (apply wpO_det;(case hw=>rfl);(case h=>intro hFm wx hS_ hF_ K hK;go_big_quiet_op;first | exact hK _ rfl | (apply Exists.intro;refine ⟨fun _=>?_,?_⟩;(focus (first | (intro hC;have hC:=KF.out _ hC.out.1;(try simp only [hC,Result.andThen]);first | exact ⟨True.intro,rfl⟩ | exact ⟨rfl,rfl⟩ | rfl)));exact hK _ rfl));(case' k=>simp only [Act.put,List.setIfInBounds_toArray,List.set_cons_succ,List.set_cons_zero,List.cons_append,List.nil_append]))
  (apply wpO_det;(case hw=>rfl);(case h=>intro hFm wx hS_ hF_ K hK;go_big_quiet_op;first | exact hK _ rfl | (apply Exists.intro;refine ⟨fun _=>?_,?_⟩;(focus (first | (intro hC;go_at_call 87;refine (compact_none _).mono ?_;rintro e w' ⟨rfl,rfl⟩;exact ⟨rfl,hC⟩)));exact hK _ rfl));(case' k=>simp only [Act.put,List.setIfInBounds_toArray,List.set_cons_succ,List.set_cons_zero,List.cons_append,List.nil_append]))
  iterate 3 (apply wpO_det;(case hw=>rfl);(case h=>intro hFm wx hS_ hF_ K hK;go_big_quiet_op;first | exact hK _ rfl | (apply Exists.intro;refine ⟨fun _=>?_,?_⟩;(focus (first | (intro hC;have hC:=KF.out _ hC.out.1;(try simp only [hC,Result.andThen]);first | exact ⟨True.intro,rfl⟩ | exact ⟨rfl,rfl⟩ | rfl)));exact hK _ rfl));(case' k=>simp only [Act.put,List.setIfInBounds_toArray,List.set_cons_succ,List.set_cons_zero,List.cons_append,List.nil_append]))
  refine wpO_nil ?_
  intro w3 hS hF hB
  (try simp [allF] at hF)
  (try simp [List.pairwise_cons] at hB)
  clear hF hB KF
  have HS3:=HS.out.trans hS
  have HB3:=hS.blk HB.out
  have HM3:Mk0 w3 G nilV nilV nilV nilV:=hS.blk HM.out
  have m0:w3.cell? ⟨G,0,none⟩=some (.slice none 0 0):=Blk.cell HM3 0
  have f0:=Blk.frozen HM3 0
  have HW3:Hid (Since w0 (w3.setCell ⟨G,0,none⟩ nilV))∧Hid (Blk (w3.setCell ⟨G,0,none⟩ nilV) Gb 91 #[.pointer (some ⟨G,0,none⟩)])∧Hid (Mk0 (w3.setCell ⟨G,0,none⟩ nilV) G nilV nilV nilV nilV) :=
   ⟨HS3.setCell hG nilV,HB3.far (by dsimp only;omega) nilV,Blk.set_ HM3 0 nilV⟩
  clear HS HB HM hS HS3 HB3 HM3
  go_upto_region 8 with fail
  refine atW (fun w' => Hid (Since w0 w')∧Hid (Blk w' Gb 91 #[.pointer (some ⟨G,0,none⟩)])∧Hid (Mk0 w' G nilV nilV nilV nilV)) HW3 ?_
  clear HW3 m0 f0
  rintro w4 ⟨HS4,HB4,HM4⟩
  have hmm := @run_makeMap Tryz.prog
  go_upto_region 9 with fail
  clear hmm
  refine atW (fun w' => Hid (Since w0 w')∧Hid (Blk w' Gb 91 #[.pointer (some ⟨G,0,none⟩)])∧Hid (Mk0 w' G nilV nilV nilV nilV)) ⟨HS4.out.alloc _,HB4.out.alloc _,Blk.alloc HM4.out _⟩ ?_
  clear HS4 HB4 HM4
  rintro w5 ⟨HS5,HB5,HM5⟩
  have b0:w5.cell? ⟨Gb,0,none⟩=some (.pointer (some ⟨G,0,none⟩)):=HB5.out.cell 0
  have m0:w5.cell? ⟨G,0,none⟩=some (.slice none 0 0):=Blk.cell HM5.out 0
  go_wp2_with fail
  clear b0 m0
  go_loopw [59] (fun v wr=>v=.int .i64 0∧Hid (Since w0 wr)∧Hid (Blk wr Gb 91 #[.pointer (some ⟨G,0,none⟩)])∧Hid (Mk0 wr G nilV nilV nilV nilV)) (fun _ _=>0)
  case atStart=>exact ⟨by go_num,HS5,HB5,HM5⟩
  case round =>
   clear HS5 HB5 HM5
   obtain ⟨rfl,HS,HB,HM⟩:=hrel
   obtain ⟨w6,rfl⟩:∃ w6,w6=wr:=⟨_,rfl⟩
   go_upto_region 14 with fail
   letI RG:RegG:=sinceRG
   have KF:=Lib.hid (fun w' (h:SinceG w6 w')=>(show w'.cell? ⟨Gb,0,none⟩=some (.pointer (some ⟨G,0,none⟩))∧w'.cell? ⟨G,0,none⟩=some (.slice none 0 0) from ⟨keepC h _ _ (HB.out.cell 0),keepC h _ _ (Blk.cell HM.out 0)⟩))
   apply region_factsG 8 (fun w' => SinceG w6 w')
   case hm=>kernel_rfl
   case hB=>kernel_rfl
   case hS=>exact (SinceG.rfl_ w6).drew
   case hmono=>exact (fun _ _ h k=>h.trans k)
   case hTb=>exact (fun g hg=>Nat.zero_le _)
   case h =>
   simp only [List.take_succ_cons,List.take_zero,List.drop_succ_cons,List.drop_zero]
   iterate 7 (apply wpO_detG;(case hw=>rfl);(case h=>intro hFm wx hS_ hF_ K hK;go_big_quiet_op;first | exact hK _ rfl | (apply Exists.intro;refine ⟨fun _=>?_,?_⟩;(focus (first | (intro hC;have hC:=KF.out _ hC.out.1;(try simp only [hC,Result.andThen]);first | exact ⟨True.intro,rfl⟩ | exact ⟨rfl,rfl⟩ | rfl)));exact hK _ rfl));(case' k=>simp only [Act.put,List.setIfInBounds_toArray,List.set_cons_succ,List.set_cons_zero,List.cons_append,List.nil_append]))
   apply wpO_anyG (R:=(MadeR w6.heap.size 22 1 0 (madeCells (Value.slice none 0 0).cells (0*1)).toList))
   case hR=>exact (fun v' w' w'' h k=>by obtain ⟨g,e,ho⟩:=h;exact ⟨g,e,own_since k ho⟩)
   case hw=>rfl
   case h =>
    intro wx hS_ hF_
    obtain ⟨w',h1,h2,h3⟩:=run_make_full (P:=Tryz.prog) wx w6.heap.size 92 22 i2 _ 1 Tryz.underlying92 HI2.out.1 HI2.out.2.1 HI2.out.2.2.1 .i64 .i64 0 (by rw [HI2.out.2.2.2];omega) (by unfold maxLen;omega) (SinceG.size hS_)
    have h1:(Instr.makeSlice 92 (.int .i64 0) (.int .i64 0)).run Tryz.prog wx=.ok (.slice (some ⟨wx.heap.size,0,none⟩) 0 0) w' := h1
    exact runVG_make _ _ _ rfl rfl rfl ⟨w',h1,⟨_,rfl,h2⟩,⟨h3.os,h3.tape,h3.output,h3.size,fun i hi=>h3.block i hi (by simp)⟩⟩
   case k =>
   intro v0
   simp only [Act.put,List.setIfInBounds_toArray,List.set_cons_succ,List.set_cons_zero,List.cons_append,List.nil_append]
   refine wpO_nilG ?_
   intro w7 hS hF hB
   (try simp [allF] at hF)
   (try simp [List.pairwise_cons] at hB)
   obtain ⟨gO,rfl,ho⟩:=hF
   replace hS:Since w6 w7:=hS
   have HM7:Mk0 w7 G nilV nilV nilV nilV:=hS.blk HM.out
   have HMo:w7.cell? ⟨G,7,none⟩=some (.slice none 0 0):=Blk.cell HM7 7
   have HMf:=Blk.frozen HM7 7
   have HW7:Hid (Since w0 (w7.setCell ⟨G,7,none⟩ (.slice (some ⟨gO,0,none⟩) 0 0)))∧Hid (Blk (w7.setCell ⟨G,7,none⟩ (.slice (some ⟨gO,0,none⟩) 0 0)) Gb 91 #[.pointer (some ⟨G,0,none⟩)])∧Hid (Mk0 (w7.setCell ⟨G,7,none⟩ (.slice (some ⟨gO,0,none⟩) 0 0)) G nilV nilV nilV (.slice (some ⟨gO,0,none⟩) 0 0)) :=
    ⟨(HS.out.trans hS).setCell hG _,(hS.blk HB.out).far (by dsimp only;omega) _,Blk.set_ HM7 7 _⟩
   clear ho hS hB KF RG HS HB HM HM7
   go_upto_region 15 with fail
   refine atW (fun w' => Hid (Since w0 w')∧Hid (Blk w' Gb 91 #[.pointer (some ⟨G,0,none⟩)])∧Hid (Mk0 w' G nilV nilV nilV (.slice (some ⟨gO,0,none⟩) 0 0))) HW7 ?_
   clear HW7 HMo HMf
   rintro w8 ⟨HS8,HB8,HM8⟩
   go_upto_region 16 with fail
   go_loopw [80] (fun v wr=>v=.int .i64 0∧Hid (Since w0 wr)∧Hid (Blk wr Gb 91 #[.pointer (some ⟨G,0,none⟩)])∧Hid (Mk0 wr G nilV nilV nilV (.slice (some ⟨gO,0,none⟩) 0 0))) (fun _ _=>0)
   case atStart=>exact ⟨by go_num,HS8,HB8,HM8⟩
   case round =>
    clear HS8 HB8 HM8
    obtain ⟨rfl,HS,HB,HM⟩:=hrel
    obtain ⟨w9,rfl⟩:∃ w9,w9=wr:=⟨_,rfl⟩
    have b0:w9.cell? ⟨Gb,0,none⟩=some (.pointer (some ⟨G,0,none⟩)):=HB.out.cell 0
    have m7:w9.cell? ⟨G,7,none⟩=some (.slice (some ⟨gO,0,none⟩) 0 0):=Blk.cell HM.out 7
    go_wp2_with fail
    clear b0 m7
    go_loopw [137] (fun v wr=>v=.int .i64 0∧Hid (Since w0 wr)∧Hid (Blk wr Gb 91 #[.pointer (some ⟨G,0,none⟩)])∧Hid (Mk0 wr G nilV nilV nilV (.slice (some ⟨gO,0,none⟩) 0 0))) (fun _ _=>0)
    case atStart=>exact ⟨by go_num,HS,HB,HM⟩
    case round =>
     clear HS HB HM
     obtain ⟨rfl,HS,HB,HM⟩:=hrel
     go_wp2_with fail
     go_end0
     exact ⟨rfl,HS.out,gO,HM.out⟩
set_option maxRecDepth 100000 in
set_option maxHeartbeats 4000000 in
theorem Link_nil (G gO:Nat) (w0 w:World) (hs0:Since w0 w) (hG:w0.heap.size≤G) (hM:Mk0 w G nilV nilV nilV (.slice (some ⟨gO,0,none⟩) 0 0)) :
  Calls Tryz.prog 65 #[.pointer (some ⟨G,0,none⟩)] w fun e w' => e=.returned (.tuple #[])∧Since w0 w' ∧ ∃ gC,Mk0 w' G nilV (.slice (some ⟨gC,0,none⟩) 0 0) nilV (.slice (some ⟨gO,0,none⟩) 0 0):=by
 have HS0:=Lib.hid hs0
 have HM0:=Lib.hid hM
 have c1:w.cell? ⟨G,1,none⟩=some (.slice none 0 0):=Blk.cell hM 1
 clear hs0 hM
 go_enter Tryz.func65,Tryz.ntmps65
 go_wp2_with fail
 clear c1
 go_loopw [16] (fun v wr=>v=.int .i64 0∧Hid (Since w0 wr)∧Hid (Mk0 wr G nilV nilV nilV (.slice (some ⟨gO,0,none⟩) 0 0))) (fun _ _=>0)
 case atStart=>exact ⟨by go_num,HS0,HM0⟩
 case round =>
  clear HS0 HM0
  obtain ⟨rfl,HS,HM⟩:=hrel
  obtain ⟨w1,rfl⟩:∃ w1,w1=wr:=⟨_,rfl⟩
  have c1:w1.cell? ⟨G,1,none⟩=some (.slice none 0 0):=Blk.cell HM.out 1
  have c11:=keepC ((Since.rfl_ w1).alloc (.cells #[.int .i64 (-1)] 3)) _ _ c1
  have HRP:Hid (∀ w',Blk w' w1.heap.size 3 #[.int .i64 (-1)]→Calls Tryz.prog 93 #[.slice (some ⟨w1.heap.size,0,none⟩) 1 1,.int .i64 0] w' fun e w'' => ∃ g',e=.returned (.slice (some ⟨g',0,none⟩) 0 0)∧Since w' w''):=fun w' hb=>repeat_none hb
  have HBL:Hid (Blk (w1.alloc (.cells #[.int .i64 (-1)] 3)) w1.heap.size 3 #[.int .i64 (-1)]):=Blk.new w1 _ _
  have HM1:Hid (Mk0 (w1.alloc (.cells #[.int .i64 (-1)] 3)) G nilV nilV nilV (.slice (some ⟨gO,0,none⟩) 0 0)):=Blk.alloc HM.out _
  have HS1:Hid (Since w0 (w1.alloc (.cells #[.int .i64 (-1)] 3))):=HS.out.alloc _
  clear HS HM c1
  go_upto_region 8 with (go_at_call 93;refine (HRP.out _ HBL.out).mono ?_;rintro e w8 ⟨gC,rfl,hs8⟩;have HW8:=Lib.hid hs8;have hm8:=hs8.blk HM1.out;have HM8:=Lib.hid hm8;have c3:=hm8.cell 3;have f3:=hm8.frozen 3;simp only [List.getElem?_toArray,List.getElem?_cons_zero,List.getElem?_cons_succ] at c3;clear hs8 hm8 c11)
  have HW9:Hid (Since w0 (w8.setCell ⟨G,3,none⟩ (.slice (some ⟨gC,0,none⟩) 0 0)))∧Hid (Mk0 (w8.setCell ⟨G,3,none⟩ (.slice (some ⟨gC,0,none⟩) 0 0)) G nilV (.slice (some ⟨gC,0,none⟩) 0 0) nilV (.slice (some ⟨gO,0,none⟩) 0 0)):=⟨(HS1.out.trans HW8.out).setCell hG _,Blk.set_ HM8.out 3 _⟩
  refine atW (fun w' => Hid (Since w0 w')∧Hid (Mk0 w' G nilV (.slice (some ⟨gC,0,none⟩) 0 0) nilV (.slice (some ⟨gO,0,none⟩) 0 0))) HW9 ?_
  clear HW9 HW8 HM8 HS1 HM1 HRP HBL c3 f3
  rintro w9 ⟨HS9,HM9⟩
  have c1:w9.cell? ⟨G,1,none⟩=some (.slice none 0 0):=Blk.cell HM9.out 1
  go_wp2_with fail
  clear c1
  go_loopw [69] (fun v wr=>v=.int .i64 0∧Hid (Since w0 wr)∧Hid (Mk0 wr G nilV (.slice (some ⟨gC,0,none⟩) 0 0) nilV (.slice (some ⟨gO,0,none⟩) 0 0))) (fun _ _=>0)
  case atStart=>exact ⟨by go_num,HS9,HM9⟩
  case round =>
   clear HS9 HM9
   obtain ⟨rfl,HS,HM⟩:=hrel
   go_wp2_with fail
   go_end0
   exact ⟨rfl,HS.out,gC,HM.out⟩
set_option maxRecDepth 100000 in
set_option maxHeartbeats 4000000 in
theorem Parts_nil (G gO gC:Nat) (w0 w:World) (hs0:Since w0 w) (hG:w0.heap.size≤G) (hM:Mk0 w G nilV (.slice (some ⟨gC,0,none⟩) 0 0) nilV (.slice (some ⟨gO,0,none⟩) 0 0)) :
  Calls Tryz.prog 66 #[.pointer (some ⟨G,0,none⟩)] w fun e w' => e=.returned (.tuple #[])∧Since w0 w' ∧ ∃ gA,Mk0 w' G nilV (.slice (some ⟨gC,0,none⟩) 0 0) (.slice (some ⟨gA,0,none⟩) 0 0) (.slice (some ⟨gO,0,none⟩) 0 0):=by
 have c0:w.cell? ⟨G,0,none⟩=some (.slice none 0 0):=Blk.cell hM 0
 have c01:=keepC ((Since.rfl_ w).alloc (.cells #[.int .i64 (-1)] 3)) _ _ c0
 have HRP:Hid (∀ w',Blk w' w.heap.size 3 #[.int .i64 (-1)]→Calls Tryz.prog 93 #[.slice (some ⟨w.heap.size,0,none⟩) 1 1,.int .i64 0] w' fun e w'' => ∃ g',e=.returned (.slice (some ⟨g',0,none⟩) 0 0)∧Since w' w''):=fun w' hb=>repeat_none hb
 have HBL:Hid (Blk (w.alloc (.cells #[.int .i64 (-1)] 3)) w.heap.size 3 #[.int .i64 (-1)]):=Blk.new w _ _
 have HM1:Hid (Mk0 (w.alloc (.cells #[.int .i64 (-1)] 3)) G nilV (.slice (some ⟨gC,0,none⟩) 0 0) nilV (.slice (some ⟨gO,0,none⟩) 0 0)):=Blk.alloc hM _
 have HS1:Hid (Since w0 (w.alloc (.cells #[.int .i64 (-1)] 3))):=hs0.alloc _
 clear hs0 hM c0
 go_enter Tryz.func66,Tryz.ntmps66
 go_upto_region 1 with (go_at_call 93;refine (HRP.out _ HBL.out).mono ?_;rintro e w8 ⟨gA,rfl,hs8⟩;have HW8:=Lib.hid hs8;have hm8:=hs8.blk HM1.out;have HM8:=Lib.hid hm8;have c6:=hm8.cell 6;have f6:=hm8.frozen 6;simp only [List.getElem?_toArray,List.getElem?_cons_zero,List.getElem?_cons_succ] at c6;clear hs8 hm8 c01)
 have HW9:Hid (Since w0 (w8.setCell ⟨G,6,none⟩ (.slice (some ⟨gA,0,none⟩) 0 0)))∧Hid (Mk0 (w8.setCell ⟨G,6,none⟩ (.slice (some ⟨gA,0,none⟩) 0 0)) G nilV (.slice (some ⟨gC,0,none⟩) 0 0) (.slice (some ⟨gA,0,none⟩) 0 0) (.slice (some ⟨gO,0,none⟩) 0 0)):=⟨(HS1.out.trans HW8.out).setCell hG _,Blk.set_ HM8.out 6 _⟩
 refine atW (fun w' => Hid (Since w0 w')∧Hid (Mk0 w' G nilV (.slice (some ⟨gC,0,none⟩) 0 0) (.slice (some ⟨gA,0,none⟩) 0 0) (.slice (some ⟨gO,0,none⟩) 0 0))) HW9 ?_
 clear HW9 HW8 HM8 HS1 HM1 HRP HBL c6 f6
 rintro w9 ⟨HS9,HM9⟩
 have c6:w9.cell? ⟨G,6,none⟩=some (.slice (some ⟨gA,0,none⟩) 0 0):=Blk.cell HM9.out 6
 go_wp2_with fail
 clear c6
 go_loopw [23] (fun v wr=>v=.int .i64 0∧Hid (Since w0 wr)∧Hid (Mk0 wr G nilV (.slice (some ⟨gC,0,none⟩) 0 0) (.slice (some ⟨gA,0,none⟩) 0 0) (.slice (some ⟨gO,0,none⟩) 0 0))) (fun _ _=>0)
 case atStart=>exact ⟨by go_num,HS9,HM9⟩
 case round =>
  clear HS9 HM9
  obtain ⟨rfl,HS,HM⟩:=hrel
  go_wp2_with fail
  go_end0
  exact ⟨rfl,HS.out,gA,HM.out⟩
set_option maxRecDepth 100000 in
set_option maxHeartbeats 4000000 in
theorem Faces_nil (G gO gC gA:Nat) (w0 w:World) (hs0:Since w0 w) (hG:w0.heap.size≤G) (hM:Mk0 w G nilV (.slice (some ⟨gC,0,none⟩) 0 0) (.slice (some ⟨gA,0,none⟩) 0 0) (.slice (some ⟨gO,0,none⟩) 0 0)) :
  Calls Tryz.prog 67 #[.pointer (some ⟨G,0,none⟩)] w fun e w' => e=.returned (.tuple #[])∧Since w0 w' ∧ ∃ gF,Mk0 w' G (.slice (some ⟨gF,0,none⟩) 1 1) (.slice (some ⟨gC,0,none⟩) 0 0) (.slice (some ⟨gA,0,none⟩) 0 0) (.slice (some ⟨gO,0,none⟩) 0 0)∧G<gF∧Blk w' gF 3 #[.int .i64 (-1)]:=by
 obtain ⟨i2,hi2,hy0,hy1,hy3⟩:=info_parts infoI
 have HI2:=Lib.hid (And.intro hi2 (And.intro hy0 (And.intro hy1 hy3)))
 have hGw:G<w.heap.size:=Blk.lt hM
 have HM0:=Lib.hid hM
 have HS0:=Lib.hid hs0
 have c2:(w.alloc (.cells #[.int .i64 (-1)] 3)).cell? ⟨G,2,none⟩=some (.slice none 0 0):=Blk.cell (Blk.alloc hM _) 2
 have f2:=Blk.frozen (Blk.alloc hM (.cells #[.int .i64 (-1)] 3)) 2
 have c2w:w.cell? ⟨G,2,none⟩=some (.slice none 0 0):=Blk.cell hM 2
 have f2w:=Blk.frozen hM 2
 clear hi2 hy0 hy1 hy3 hs0 hM
 obtain ⟨gF,HGF⟩:∃ gF,Hid (gF=w.heap.size):=⟨_,rfl⟩
 go_enter Tryz.func67,Tryz.ntmps67
 go_upto_region 1 with fail
 rw [← HGF.out]
 have hGF:G<gF:=by rw [HGF.out];exact hGw
 refine atW (fun w' => Hid (Since w0 w')∧Hid (Mk0 w' G (.slice (some ⟨gF,0,none⟩) 1 1) (.slice (some ⟨gC,0,none⟩) 0 0) (.slice (some ⟨gA,0,none⟩) 0 0) (.slice (some ⟨gO,0,none⟩) 0 0))∧Hid (Blk w' gF 3 #[.int .i64 (-1)])) (by
  first
   | exact ⟨(HS0.out.setCell (p:=⟨G,2,none⟩) hG _).alloc _,Blk.alloc (Blk.set_ HM0.out 2 _) _,Blk.new' (by simp [HGF.out])⟩
   | exact ⟨(HS0.out.alloc _).setCell (p:=⟨G,2,none⟩) hG _,Blk.set_ (Blk.alloc HM0.out _) 2 _,(Blk.new' HGF.out).far (by dsimp only;omega) _⟩) ?_
 clear HM0 HS0 c2 f2 c2w f2w
 rintro w1 ⟨HS1,HM1,HF1⟩
 have c4:w1.cell? ⟨G,4,none⟩=some (.slice none 0 0):=Blk.cell HM1.out 4
 go_upto_region 2 with (at_make;refine wpList_make_full _ rfl _ _ 22 rfl w1.heap.size 3 i2 _ 1 Tryz.underlying22 HI2.out.1 HI2.out.2.1 HI2.out.2.2.1 .i64 .i64 _ _ 0 rfl rfl rfl rfl (by rw [HI2.out.2.2.2];omega) (by unfold maxLen;omega) (Nat.le_refl _) ?_;intro w2 hown hgrow)
 have hs12:Since w1 w2:=⟨hgrow.os,hgrow.tape,hgrow.output,hgrow.size,fun i hi=>hgrow.block i hi (by simp)⟩
 have HW2:Hid (Since w0 w2)∧Hid (Mk0 w2 G (.slice (some ⟨gF,0,none⟩) 1 1) (.slice (some ⟨gC,0,none⟩) 0 0) (.slice (some ⟨gA,0,none⟩) 0 0) (.slice (some ⟨gO,0,none⟩) 0 0))∧Hid (Blk w2 gF 3 #[.int .i64 (-1)]):=⟨HS1.out.trans hs12,hs12.blk HM1.out,hs12.blk HF1.out⟩
 obtain ⟨HS2,HM2,HF2⟩:=HW2
 have c4:w2.cell? ⟨G,4,none⟩=some (.slice none 0 0):=Blk.cell HM2.out 4
 clear hs12 hgrow hown HS1 HM1 HF1
 go_wp2_with fail
 clear c4
 go_loopw [27] (fun v wr=>v=.int .i64 0∧Hid (Since w0 wr)∧Hid (Mk0 wr G (.slice (some ⟨gF,0,none⟩) 1 1) (.slice (some ⟨gC,0,none⟩) 0 0) (.slice (some ⟨gA,0,none⟩) 0 0) (.slice (some ⟨gO,0,none⟩) 0 0))∧Hid (Blk wr gF 3 #[.int .i64 (-1)])) (fun _ _=>0)
 case atStart=>exact ⟨by go_num,HS2,HM2,HF2⟩
 case round =>
  clear HS2 HM2 HF2
  obtain ⟨rfl,HS,HM,HF⟩:=hrel
  obtain ⟨w3,rfl⟩:∃ w3,w3=wr:=⟨_,rfl⟩
  have c4:w3.cell? ⟨G,4,none⟩=some (.slice none 0 0):=Blk.cell HM.out 4
  go_wp2_with fail
  clear c4
  go_loopw [71] (fun v wr=>v=.int .i64 0∧Hid (Since w0 wr)∧Hid (Mk0 wr G (.slice (some ⟨gF,0,none⟩) 1 1) (.slice (some ⟨gC,0,none⟩) 0 0) (.slice (some ⟨gA,0,none⟩) 0 0) (.slice (some ⟨gO,0,none⟩) 0 0))∧Hid (Blk wr gF 3 #[.int .i64 (-1)])) (fun _ _=>0)
  case atStart=>exact ⟨by go_num,HS,HM,HF⟩
  case round =>
   clear HS HM HF
   obtain ⟨rfl,HS,HM,HF⟩:=hrel
   obtain ⟨w4,rfl⟩:∃ w4,w4=wr:=⟨_,rfl⟩
   have c1:w4.cell? ⟨G,1,none⟩=some (.slice none 0 0):=Blk.cell HM.out 1
   go_wp2_with fail
   clear c1
   go_loopw [197] (fun v wr=>v=.int .i64 0∧Hid (Since w0 wr)∧Hid (Mk0 wr G (.slice (some ⟨gF,0,none⟩) 1 1) (.slice (some ⟨gC,0,none⟩) 0 0) (.slice (some ⟨gA,0,none⟩) 0 0) (.slice (some ⟨gO,0,none⟩) 0 0))∧Hid (Blk wr gF 3 #[.int .i64 (-1)])) (fun _ _=>0)
   case atStart=>exact ⟨by go_num,HS,HM,HF⟩
   case round =>
    clear HS HM HF
    obtain ⟨rfl,HS,HM,HF⟩:=hrel
    go_wp2_with fail
    go_end0
    exact ⟨rfl,HS.out,gF,HM.out,hGF,HF.out⟩
theorem BldR.none:BldR [] [] [] [-1]:=by
 refine ⟨[],[],[],[],(List.eq_nil_iff_forall_not_mem.2 fun x hx=>by have:=hullS_mem.1 hx;simp [ptsK] at this).symm,rfl,fun v hv=>absurd hv (Nat.not_lt_zero _),⟨rfl,rfl,Nat.le_refl _,fun g hg=>absurd hg (Nat.not_lt_zero _),fun g hg=>absurd hg (Nat.not_lt_zero _),fun g hg=>absurd hg (Nat.not_lt_zero _),fun c hc=>absurd hc (Nat.not_lt_zero _),fun c d _ hd=>absurd hd (Nat.not_lt_zero _),fun c hc=>absurd hc (Nat.not_lt_zero _),fun g hg=>absurd hg (Nat.not_lt_zero _)⟩,rfl,rfl⟩
theorem Build_nil (a:Option Addr) (c:Nat) (w:World) (hv:SegsN w (.slice a 0 c) []) :
  Calls Tryz.prog 40 #[.slice a 0 c] w fun e w' => ∃ (vP vH vF:Value) (P:List Pt2) (H:List Hf) (F:List Int),e=.returned (.tuple #[.agg #[vP,vH,vF],.int .i64 0])∧Since w w' ∧ MapS w' w.heap.size vP vH vF P H F∧BldR [] P H F :=
 BuildS_any a c [] w hv ⟨by simp,by unfold SrtG;simp,by simp,by simp⟩ (by simp) fun G w0 w' hs hG hM hv' => by
  refine (Begin_nil a c G w0 w' hs hG hM.blk).mono ?_
  rintro e1 w1 ⟨rfl,hs1,gO,hM1⟩
  refine ⟨rfl,hs1,(Link_nil G gO w0 w1 hs1 hG hM1).mono ?_⟩
  rintro e2 w2 ⟨rfl,hs2,gC,hM2⟩
  refine ⟨rfl,hs2,(Parts_nil G gO gC w0 w2 hs2 hG hM2).mono ?_⟩
  rintro e3 w3 ⟨rfl,hs3,gA,hM3⟩
  refine ⟨rfl,hs3,(Faces_nil G gO gC gA w0 w3 hs3 hG hM3).mono ?_⟩
  rintro e4 w4 ⟨rfl,hs4,gF,hM4,hGF,hF4⟩
  refine ⟨rfl,hs4,nilV,nilV,.slice (some ⟨gF,0,none⟩) 1 1,[],[],[-1],_,hM4,?_,BldR.none⟩
  have h0:Rws w4 (G+1) [⟨nilV,36,2,0,[]⟩,⟨nilV,33,4,0,[]⟩,⟨nilV,3,1,0,[]⟩] :=
   Rws.more (L:=[]) ⟨fun i r hi=>(by simp at hi),fun i j r s _ hi=>(by simp at hi)⟩ _ (fun r hr=>by
    simp only [List.mem_cons,List.not_mem_nil,or_false] at hr
    rcases hr with rfl | rfl | rfl <;> exact ⟨rfl,rfl,rfl⟩)
  have ho:w4.ownsRow (G+1) 3 1 (.slice (some ⟨gF,0,none⟩) 1 1) 1 ([(-1:Int)].map iV):=⟨rfl,.inr ⟨gF,1,_,rfl,hGF,hF4,Nat.le_refl _,by unfold maxLen;omega,rfl,rfl⟩⟩
  refine ⟨fun i r hi=>?_,fun i j r s hij hi hj=>?_⟩
  ·rcases i with _ | _ | _ | i
   ·exact h0.ok 0 r hi
   ·exact h0.ok 1 r hi
   ·injection hi with hi;rw [← hi];exact ho
   ·simp at hi
  ·rcases i with _ | _ | _ | i <;> rcases j with _ | _ | _ | j <;> first
    | (simp at hij;done)
    | (simp at hi;done)
    | (simp at hj;done)
    | (injection hi with hi;rw [← hi];intro g h1 _;cases h1;done)
    | (injection hj with hj;rw [← hj];intro g _ h1;cases h1;done)
theorem Build_any (v:Value) (E:List Sg) (w:World) (hv:SegsN w v E) (hE:RndOk E) (hl:E.length≤3000) :
  Calls Tryz.prog 40 #[v] w fun e w' => ∃ (vP vH vF:Value) (P:List Pt2) (H:List Hf) (F:List Int),e=.returned (.tuple #[.agg #[vP,vH,vF],.int .i64 0])∧Since w w' ∧ MapS w' w.heap.size vP vH vF P H F∧BldR E P H F:=by
 obtain ⟨a,c,rfl⟩:=hv.slice
 rcases Nat.eq_zero_or_pos E.length with h | h
 ·have e:E=[]:=List.eq_nil_of_length_eq_zero h
  subst e
  exact Build_nil a c w hv
 ·exact Build_some a c E w hv hE hl h
end
section
open Go.RowKit Go.BigFrame
attribute [local go_sem ↓] eqPt neqPt
theorem BldR.hlen {E:List Sg} {P:List Pt2} {H:List Hf} {F:List Int} (h:BldR E P H F):H.length=2*E.length:=by
 obtain ⟨O,C,I,T,-,-,-,-,hH,-⟩:=h
 rw [hH,mkH_len]
theorem BldR.fr {E:List Sg} {P:List Pt2} {H:List Hf} {F:List Int} (h:BldR E P H F) {i:Nat} (hi:i<2*E.length):(hAt H i).1=(frH E P i:Int)∧frH E P i<P.length∧pAt P (frH E P i)=endH E i:=by
 obtain ⟨O,C,I,T,hP,-,-,-,hH,-⟩:=h
 have hm:endH E i∈P:=by rw [hP];exact end_pts rfl i hi
 refine ⟨?_,idP_at hm⟩
 rw [hH,mkH_at hi]
theorem BldR.lin {E:List Sg} {P:List Pt2} {H:List Hf} {F:List Int} (h:BldR E P H F):H.length/2=E.length∧(∀ i,i<H.length/2→linB P H i)∧linK P H (H.length/2)=E:=by
 have hl:H.length/2=E.length:=by rw [h.hlen];omega
 have key:∀ i,i<E.length→linB P H i∧linV P H i=sgAt E i:=fun i hi=>by
  obtain ⟨a1,a2,a3⟩:=h.fr (i:=2*i) (by omega)
  obtain ⟨b1,b2,b3⟩:=h.fr (i:=2*i+1) (by omega)
  refine ⟨⟨⟨by omega,by omega⟩,⟨by omega,by omega⟩⟩,?_⟩
  unfold linV
  rw [a1,b1,Int.toNat_natCast,Int.toNat_natCast,a3,b3]
  unfold endH
  rw [if_pos (by omega),if_neg (by omega),show 2*i/2=i by omega,show (2*i+1)/2=i by omega]
 refine ⟨hl,fun i hi=>(key i (by omega)).1,?_⟩
 rw [hl]
 refine List.ext_getElem (linK_len _ _ _) fun i h1 h2=>?_
 have e:sgAt E i=E[i]:=by simp [sgAt,List.getD,h2]
 rw [← e,← (key i h2).2]
 simp [linK]
theorem fac1_le (I T:List Int):∀ m,(fac1 I T m).2.length≤m+1
 | 0=>by simp [fac1]
 | m+1=>by
  have:=fac1_le I T m
  rw [fac1_succ]
  split
  ·simp;omega
  ·omega
theorem hullS_nil:hullS []=[]:=by unfold hullS srtL;simp [cmpL]
theorem BldR.bds {E:List Sg} {P:List Pt2} {H:List Hf} {F:List Int} (hE:RndOk E) (hl:E.length≤270) (h:BldR E P H F):P.length≤1000000000000000∧H.length≤1000000∧F.length≤1000000000000000:=by
 have h1:=h.hlen
 obtain ⟨O,C,I,T,hP,hOl,hO,hC,hH,hF⟩:=h
 refine ⟨?_,by omega,?_⟩
 ·rcases Nat.eq_zero_or_pos E.length with e0 | hpos
  ·have:P=[]:=by rw [hP,List.eq_nil_of_length_eq_zero e0];exact hullS_nil
   rw [this];simp
  ·have K:Net (2*E.length) P.length P (frH E P) (rowO O):=net_begin hE rfl (by omega) hpos hP rfl hO
   have:=K.vle
   have:=K.le
   omega
 ·rw [hF,fac3_len]
  have:=fac1_le I T I.length
  have:=hC.le
  omega
set_option maxRecDepth 100000 in
theorem Lines_nil (vP vH vF:Value) (P:List Pt2) (F:List Int) (w:World) (hm:MapR w vP vH vF P [] F) :
  Calls Tryz.prog 15 #[.agg #[vP,vH,vF]] w fun e w' => e=.returned (.tuple #[.slice none 0 0,.int .i64 0])∧Since w w' := by
 obtain ⟨aH,cH,hvH,-⟩:=hm.h
 subst hvH
 clear hm
 obtain ⟨B,HB⟩:∃ B,Hid (B=w.heap.size):=⟨_,rfl⟩
 go_enter Tryz.func15,Tryz.ntmps15
 go_upto_region 1 with fail
 rw [← HB.out]
 refine atW (fun w' => Hid (Since w w')∧Hid (Blk w' B 26 #[vP,.slice aH 0 cH,vF])) ⟨(Since.rfl_ w).alloc _,Blk.new' HB.out⟩ ?_
 rintro w1 ⟨HS1,HB1⟩
 have m1:w1.cell? ⟨B,1,none⟩=some (.slice aH 0 cH):=HB1.out.cell 1
 go_wp2_with fail
 go_loopw [4,5] (fun v4 v5 wr=>v4=.slice none 0 0∧v5=.int .i64 0∧Hid (Since w wr)∧Hid (Blk wr B 26 #[vP,.slice aH 0 cH,vF])) (fun _ _ _=>0)
 case atStart=>exact ⟨rfl,by go_num,HS1,HB1⟩
 case round =>
  obtain ⟨rfl,rfl,HS,HBM⟩:=hrel
  clear m1
  have m1:wr.cell? ⟨B,1,none⟩=some (.slice aH 0 cH):=HBM.out.cell 1
  go_wp2_with fail
  go_ret2
  exact ⟨rfl,HS.out⟩
theorem LinesB_any (vP vH vF:Value) (E:List Sg) (P:List Pt2) (H:List Hf) (F:List Int) (w:World) (hm:MapR w vP vH vF P H F) (hE:RndOk E) (hl:E.length≤270) (hb:BldR E P H F) :
  Calls Tryz.prog 15 #[.agg #[vP,vH,vF]] w fun e w' => ∃ x,e=.returned (.tuple #[x,.int .i64 0])∧SegsN w' x E∧Since w w' := by
 obtain ⟨b1,b2,b3⟩:=hb.bds hE hl
 obtain ⟨q1,q2,q3⟩:=hb.lin
 rcases Nat.eq_zero_or_pos E.length with e0 | hpos
 ·have eE:E=[]:=List.eq_nil_of_length_eq_zero e0
  have eH:H=[]:=List.eq_nil_of_length_eq_zero (by rw [hb.hlen,e0])
  subst eE eH
  exact (Lines_nil vP vH vF P F w hm).mono fun e w2 ⟨h1,h2⟩=>⟨_,h1,⟨fun _=>rfl,fun h=>absurd rfl h⟩,h2⟩
 ·refine (Lines_any vP vH vF P H F w hm (by omega) b1).mono ?_
  rintro e w2 ⟨⟨-,x,rfl,ho⟩ | ⟨hn,-⟩,hs⟩
  ·refine ⟨x,rfl,own_segsN (by rw [q3,q1] at ho;exact ho) (fun h=>?_),hs⟩
   rw [h] at hpos;cases hpos
  ·exact absurd q2 hn
set_option maxRecDepth 100000 in
set_option maxHeartbeats 4000000 in
theorem Check_any (vP vH vF:Value) (E:List Sg) (P:List Pt2) (H:List Hf) (F:List Int) (w:World) (hm:MapR w vP vH vF P H F) (hE:RndOk E) (hl:E.length≤270) (hb:BldR E P H F) :
  Calls Tryz.prog 17 #[.agg #[vP,vH,vF]] w fun e w' => e=.returned (.int .i64 0)∧Since w w' := by
 obtain ⟨b1,b2,b3⟩:=hb.bds hE hl
 have HL:Hid (∀ w',Since w w' → Calls Tryz.prog 15 #[.agg #[vP,vH,vF]] w' fun e w2=>∃ x,e=.returned (.tuple #[x,.int .i64 0])∧SegsN w2 x E∧Since w' w2):=fun w' k=>LinesB_any vP vH vF E P H F w' (hm.since k) hE hl hb
 have HBD:Hid (∀ x w',SegsN w' x E→Calls Tryz.prog 40 #[x] w' fun e w2=>∃ vP' vH' vF',e=.returned (.tuple #[.agg #[vP',vH',vF'],.int .i64 0])∧Since w' w2∧MapR w2 vP' vH' vF' P H F):=fun x w' hx=>by
  refine (Build_any x E w' hx hE (by omega)).mono ?_
  rintro e w2 ⟨vP',vH',vF',P',H',F',rfl,hs,hms,hb'⟩
  obtain ⟨rfl,rfl,rfl⟩:=BldR.uniq hE (by omega) hb hb'
  exact ⟨_,_,_,rfl,hs,hms.read⟩
 have HSM:Hid (∀ vP' vH' vF' w',Since w w' → MapR w' vP' vH' vF' P H F→Calls Tryz.prog 25 #[.agg #[vP,vH,vF],.agg #[vP',vH',vF']] w' fun e w2=>e=.returned (.bool true)∧Since w' w2):=fun vP' vH' vF' w' k h' =>
  Same_any vP vH vF vP' vH' vF' P H F w' b1 (by omega) b3 (hm.since k) h'
 clear hm hb b1 b2 b3 hE hl
 obtain ⟨B,HB⟩:∃ B,Hid (B=w.heap.size):=⟨_,rfl⟩
 go_enter Tryz.func17,Tryz.ntmps17
 go_upto_region 1 with fail
 rw [← HB.out]
 refine atW (fun w' => Hid (Since w w')∧Hid (Blk w' B 26 #[vP,vH,vF])) ⟨(Since.rfl_ w).alloc _,Blk.new' HB.out⟩ ?_
 rintro w1 ⟨HS1,HB1⟩
 have m0:w1.cell? ⟨B,0,none⟩=some vP:=HB1.out.cell 0
 have m1:w1.cell? ⟨B,1,none⟩=some vH:=HB1.out.cell 1
 have m2:w1.cell? ⟨B,2,none⟩=some vF:=HB1.out.cell 2
 go_wp2_with fail
 clear m0 m1 m2
 refine (HL.out _ HS1.out).mono ?_
 rintro e w2 ⟨x,rfl,hx,hs⟩
 have HS2:Hid (Since w w2):=HS1.out.trans hs
 have HB2:=Lib.hid (hs.blk HB1.out)
 have HX2:=Lib.hid hx
 clear hs hx HS1 HB1
 go_wp2_with fail
 refine (HBD.out _ _ HX2.out).mono ?_
 rintro e w3 ⟨vP',vH',vF',rfl,hs,hm'⟩
 have HS3:Hid (Since w w3):=HS2.out.trans hs
 have HB3:=Lib.hid (hs.blk HB2.out)
 have HM3:=Lib.hid hm'
 obtain ⟨⟨aP,cP,rfl,-⟩,⟨aH,cH,rfl,-⟩,⟨aF,cF,rfl,-⟩⟩:=hm'
 clear hs HS2 HB2 HX2
 go_upto_region 5 with fail
 obtain ⟨B3,HB4⟩:∃ B,Hid (B=w3.heap.size):=⟨_,rfl⟩
 rw [← HB4.out]
 refine atW (fun w' => Hid (Since w w')∧Hid (Blk w' B 26 #[vP,vH,vF])∧Hid (Blk w' B3 26 #[(.slice aP P.length cP),(.slice aH H.length cH),(.slice aF F.length cF)])∧Hid (MapR w' (.slice aP P.length cP) (.slice aH H.length cH) (.slice aF F.length cF) P H F)) ⟨HS3.out.alloc _,HB3.out.alloc _,Blk.new' HB4.out,HM3.out.since ((Since.rfl_ w3).alloc _)⟩ ?_
 clear HS3 HB3 HM3
 rintro w4 ⟨HS4,HB4',HC4,HM4⟩
 have m0:w4.cell? ⟨B,0,none⟩=some vP:=HB4'.out.cell 0
 have m1:w4.cell? ⟨B,1,none⟩=some vH:=HB4'.out.cell 1
 have m2:w4.cell? ⟨B,2,none⟩=some vF:=HB4'.out.cell 2
 have n0:w4.cell? ⟨B3,0,none⟩=some (.slice aP P.length cP):=HC4.out.cell 0
 have n1:w4.cell? ⟨B3,1,none⟩=some (.slice aH H.length cH):=HC4.out.cell 1
 have n2:w4.cell? ⟨B3,2,none⟩=some (.slice aF F.length cF):=HC4.out.cell 2
 go_wp2_with fail
 clear m0 m1 m2 n0 n1 n2
 refine (HSM.out _ _ _ _ HS4.out HM4.out).mono ?_
 rintro e w5 ⟨rfl,hs⟩
 have HS5:Hid (Since w w5):=HS4.out.trans hs
 clear hs HS4 HB4' HC4 HM4
 go_wp2_with fail
 go_ret
 exact ⟨rfl,HS5.out⟩
end
section
theorem iAt_setAny (l:List Int) (i j:Nat) (x:Int):iAt (l.set i x) j=x∨iAt (l.set i x) j=iAt l j:=by
 rcases Nat.lt_or_ge i l.length with h | h
 ·rw [iAt_set x h]
  split
  ·exact .inl rfl
  ·exact .inr rfl
 ·rw [List.set_eq_of_length_le h];exact .inr rfl
theorem fac1_rng (I T:List Int):∀ m c,0≤iAt (fac1 I T m).1 c∧iAt (fac1 I T m).1 c<(fac1 I T m).2.length
 | 0,c=>by
  have e:iAt (fac1 I T 0).1 c=0:=by
   show iAt (List.replicate I.length 0) c=0
   unfold iAt
   rcases Nat.lt_or_ge c I.length with h | h
   ·simp [List.getD,h]
   ·simp [List.getD,List.getElem?_eq_none,h]
  rw [e]
  exact ⟨by omega,by show (0:Int)<1;omega⟩
 | m+1,c=>by
  have h:=fac1_rng I T m c
  rw [fac1_succ]
  split
  ·rcases iAt_setAny (fac1 I T m).1 m c (fac1 I T m).2.length with e | e
   ·dsimp only
    rw [e]
    exact ⟨by omega,by simp only [List.length_append,List.length_singleton];omega⟩
   ·dsimp only
    rw [e]
    exact ⟨h.1,by simp only [List.length_append,List.length_singleton];omega⟩
  ·exact h
theorem fac2_rng (P:List Pt2) (fr nx:Nat→Nat) (I T A:List Int):∀ m c,0≤iAt (fac2 P fr nx I T A m) c∧iAt (fac2 P fr nx I T A m) c<(fac1 I T I.length).2.length
 | 0,c=>fac1_rng I T I.length c
 | m+1,c=>by
  have h:=fac2_rng P fr nx I T A m
  rw [fac2_succ]
  split
  ·exact h c
  ·split
   ·rcases iAt_setAny (fac2 P fr nx I T A m) m c (iAt (fac2 P fr nx I T A m) (bstV P fr nx I T A m I.length).toNat) with e | e
    ·rw [e];exact h _
    ·rw [e];exact h c
   ·exact h c
theorem BldR.half {E:List Sg} {P:List Pt2} {H:List Hf} {F:List Int} (hE:RndOk E) (hl:E.length≤270) (h:BldR E P H F) :
  ∃ (nx:Nat→Nat) (fc:Nat→Int),PermN H.length nx∧∀ i,i<H.length→hAt H i=((frH E P i:Int),((twN i:Nat):Int),((nx i:Nat):Int),fc i)∧frH E P (nx i)=frH E P (twN i)∧0≤fc i∧fc i<F.length∧fc (nx i)=fc i:=by
 have hlen:=h.hlen
 rcases Nat.eq_zero_or_pos E.length with e0 | hpos
 ·exact ⟨id,fun _=>0,⟨fun g hg=>hg,fun g h _ _ e=>e⟩,fun i hi=>by omega⟩
 ·obtain ⟨O,C,I,T,hP,hOl,hO,hC,hH,hF⟩:=h
  have K:Net (2*E.length) P.length P (frH E P) (rowO O):=net_begin hE rfl (by omega) hpos hP rfl hO
  refine ⟨nxN (frH E P) (rowO O),fun i=>iAt (fac2 P (frH E P) (nxN (frH E P) (rowO O)) I T (prtK (teK E P) (rowO O) P.length P.length) I.length) (iAt C i).toNat,by rw [hlen];exact K.perm,fun i hi=>?_⟩
  rw [hlen] at hi
  refine ⟨by rw [hH,mkH_at hi],(K.nx hi).2.2,(fac2_rng _ _ _ _ _ _ _ _).1,?_,?_⟩
  ·rw [hF,fac3_len];exact (fac2_rng _ _ _ _ _ _ _ _).2
  ·dsimp only
   rw [hC.cls i hi]
end
section

end
section
open Go.RowKit Go.BigFrame
end
section
def bAt (l:List Bool) (i:Nat):Bool:=l.getD i false
theorem bAt_set {l:List Bool} {i j:Nat} (x:Bool) (hi:i<l.length):bAt (l.set i x) j=if j=i then x else bAt l j:=by
 unfold bAt
 split
 ·rename_i e;subst e;simp [List.getD,hi]
 ·rename_i e;simp [List.getD,List.getElem?_set_ne (Ne.symm e)]
section
variable {N : Nat} {nx : Nat → Nat} {l : List Bool} {h : Nat}
end
end
section
open Go.RowKit Go.BigFrame
theorem infoBo:(Tryz.prog.info? 4).map (fun i=>(i.zero,i.size,i.bytes))=some (some (.bool false),1,1):=by kernel_rfl
def bV (b:Bool):Value:=.bool b
theorem rowB_cell {w:World} {B g c:Nat} {l:List Bool} (h:w.ownsRow B 4 1 (.slice (some ⟨g,0,none⟩) l.length c) l.length (l.map bV)) {j:Nat} (hj:j<l.length):w.cell? ⟨g,j,none⟩=some (.bool (bAt l j)):=by
 rw [h.cellAt j (by omega)]
 simp [bAt,bV,List.getD,hj]
def RdS (w:World) (B gT nH:Nat) (m:Array Value) (L:List Bool):Prop :=
 Blk w B 26 m∧B<gT∧w.ownsRow gT 4 1 (.slice (some ⟨gT,0,none⟩) nH nH) nH (L.map bV)
theorem RdS.since {w w' : World} {B gT nH:Nat} {m:Array Value} {L:List Bool} (h:RdS w B gT nH m L) (k:Since w w'):RdS w' B gT nH m L:=⟨k.blk h.1,h.2.1,own_since k h.2.2⟩
theorem RdS.cell {w:World} {B gT nH:Nat} {m:Array Value} {L:List Bool} (h:RdS w B gT nH m L) (hl:L.length=nH) {j:Nat} (hj:j<nH):w.cell? ⟨gT,j,none⟩=some (.bool (bAt L j)):=by
 have h0:w.ownsRow gT 4 1 (.slice (some ⟨gT,0,none⟩) L.length nH) L.length (L.map bV):=by rw [hl];exact h.2.2
 exact rowB_cell h0 (by omega)
theorem RdS.frozen {w:World} {B gT nH:Nat} {m:Array Value} {L:List Bool} (h:RdS w B gT nH m L) (j:Nat):w.frozen? ⟨gT,j,none⟩=false:=by
 obtain ⟨-,⟨h1,-⟩ | ⟨g1,cap,cur,h1,-,hb,-⟩⟩:=h.2.2
 ·cases h1
 injection h1 with h1
 injection h1 with h1
 injection h1 with h1
 subst h1
 exact Blk.frozen hb j
theorem RdS.store {w:World} {B gT nH:Nat} {m:Array Value} {L:List Bool} (h:RdS w B gT nH m L) {j:Nat} (hj:j<nH):RdS (w.setCell ⟨gT,j,none⟩ (.bool true)) B gT nH m (L.set j true):=by
 refine ⟨h.1.far (by have:=h.2.1;dsimp only;omega) _,h.2.1,?_⟩
 have h1:=own_setK h.2.2 (i:=j) (by omega) (.bool true)
 rw [List.map_set]
 exact h1
end
section
def mkB (fn tw:Nat→Nat) (nF f:Nat):Nat→List Bool
 | 0=>List.replicate nF false
 | k+1=>if fn k=f then (mkB fn tw nF f k).set (fn (tw k)) true else mkB fn tw nF f k
theorem mkB_len (fn tw:Nat→Nat) (nF f:Nat):∀ k,(mkB fn tw nF f k).length=nF
 | 0=>by simp [mkB]
 | k+1=>by
  unfold mkB
  split
  ·rw [List.length_set];exact mkB_len fn tw nF f k
  ·exact mkB_len fn tw nF f k
theorem mkB_at {fn tw:Nat→Nat} {nF nH f:Nat} (hl:∀ i,i<nH→fn (tw i)<nF) (g:Nat):∀ k,k≤nH→(bAt (mkB fn tw nF f k) g=true↔∃ h,h<k∧fn h=f∧fn (tw h)=g)
 | 0,_=>by
  constructor
  ·intro e
   exfalso
   unfold mkB bAt at e
   rcases Nat.lt_or_ge g nF with h | h
   ·simp [List.getD,h] at e
   ·simp [List.getD,h] at e
  ·rintro ⟨h,h1,-⟩;exact absurd h1 (Nat.not_lt_zero _)
 | k + 1,hk=>by
  have ih:=mkB_at (f:=f) hl g k (by omega)
  unfold mkB
  split
  ·rename_i e
   rw [bAt_set true (by rw [mkB_len];exact hl k (by omega))]
   split
   ·rename_i e2
    exact ⟨fun _=>⟨k,Nat.lt_succ_self k,e,e2.symm⟩,fun _=>rfl⟩
   ·rename_i e2
    rw [ih]
    constructor
    ·rintro ⟨h,h1,h2⟩;exact ⟨h,by omega,h2⟩
    ·rintro ⟨h,h1,h2,h3⟩
     refine ⟨h,?_,h2,h3⟩
     rcases Nat.lt_succ_iff_lt_or_eq.1 h1 with q | q
     ·exact q
     ·subst q;exact absurd h3.symm e2
  ·rename_i e
   rw [ih]
   constructor
   ·rintro ⟨h,h1,h2⟩;exact ⟨h,by omega,h2⟩
   ·rintro ⟨h,h1,h2,h3⟩
    refine ⟨h,?_,h2,h3⟩
    rcases Nat.lt_succ_iff_lt_or_eq.1 h1 with q | q
    ·exact q
    ·subst q;exact absurd h2 e
def besL (M:List Bool) (f k:Nat):List Int:=((List.range k).filter fun g=>bAt M g && (g != f)).map fun g=>((g:Nat):Int)
theorem besL_yes {M:List Bool} {f k:Nat} (h:(bAt M k && (k != f))=true):besL M f (k+1)=besL M f k++[(k:Int)]:=by
 unfold besL;rw [List.range_succ,List.filter_append,List.map_append];simp [List.filter,h]
theorem besL_no {M:List Bool} {f k:Nat} (h:(bAt M k && (k != f))=false):besL M f (k+1)=besL M f k:=by
 unfold besL;rw [List.range_succ,List.filter_append,List.map_append];simp [List.filter,h]
theorem besL_len (M:List Bool) (f k:Nat):(besL M f k).length≤k:=by
 unfold besL;rw [List.length_map];have:=List.length_filter_le (fun g=>bAt M g && (g != f)) (List.range k);simpa using this
theorem besL_mem {M:List Bool} {f k g:Nat}:((g:Nat):Int)∈besL M f k↔g<k∧bAt M g=true∧g≠f:=by
 unfold besL
 simp only [List.mem_map,List.mem_filter,List.mem_range,Bool.and_eq_true,bne_iff_ne,ne_eq]
 constructor
 ·rintro ⟨a,h,e⟩
  obtain rfl:a=g:=by omega
  exact h
 ·intro h;exact ⟨g,h,rfl⟩
theorem bes_law {fn tw:Nat→Nat} {nF nH f g:Nat} (hl:∀ i,i<nH→fn (tw i)<nF) (ht:∀ i,i<nH→tw i<nH∧tw (tw i)=i) (hf:f<nF) (hg:g<nF) :
  decide (((g:Nat):Int)∈besL (mkB fn tw nF f nH) f nF)=decide (((f:Nat):Int)∈besL (mkB fn tw nF g nH) g nF):=by
 have key:∀ a b,a<nF→b<nF→((b:Nat):Int)∈besL (mkB fn tw nF a nH) a nF→((a:Nat):Int)∈besL (mkB fn tw nF b nH) b nF:=fun a b ha hb h=>by
  rw [besL_mem,mkB_at hl _ _ (Nat.le_refl _)] at h ⊢
  obtain ⟨-,⟨k,hk,h1,h2⟩,h3⟩:=h
  exact ⟨ha,⟨tw k,(ht k hk).1,h2,by rw [(ht k hk).2];exact h1⟩,Ne.symm h3⟩
 rw [decide_eq_decide]
 exact ⟨key f g hf hg,key g f hg hf⟩
theorem bes_self {M:List Bool} {f k:Nat}:decide (((f:Nat):Int)∈besL M f k)=false:=by
 rw [decide_eq_false_iff_not,besL_mem]
 rintro ⟨-,-,h⟩
 exact h rfl
end
end Go.Proofs.YtdnccjdlmepafaaGreat
