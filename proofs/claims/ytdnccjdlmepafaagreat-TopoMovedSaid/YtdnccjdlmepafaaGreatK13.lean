/-
  The walk of slices.Compact over segments; The library's sort over segments, the closure of hot.edges, Compact over a row of one's own; The walk of hot.edges; The walk of hot.through. Conditions: those that each lemma names.
-/
import Derived.Test.YtdnccjdlmepafaaGreatK12
import Derived.Test.YtdnccjdlmepafaaGreatK05
set_option linter.unusedSimpArgs false
set_option linter.unusedVariables false
set_option linter.constructorNameAsVariable false
namespace Go.Proofs.YtdnccjdlmepafaaGreat
section
open Go.RowKit Go.BigFrame
attribute [local go_sem ↓] eqSgP neqSgP
set_option maxRecDepth 100000 in
set_option maxHeartbeats 4000000 in
theorem CompactS_any (g c N:Nat) (l:List Sg) (w:World) (hl:l.length≤1000000000000) (hc:l.length≤c) (hr:RowG w g l.length N (sgAt l)) :
  Calls Tryz.prog 83 #[.slice (some ⟨g,0,none⟩) l.length c] w fun e w' => e=.returned (.slice (some ⟨g,0,none⟩) (cmpG l).length c)∧RowG w' g (cmpG l).length N (sgAt (cmpG l))∧Only g w w' := by
 have HR:=Lib.hid hr
 clear hr
 by_cases h2:l.length<2
 ·have HC:Hid (cmpG l=l):=by
   show _=_
   exact cmpG_id fun i h1 h2=>by omega
  have hz:decide ((l.length:Int)<2)=true:=by rw[decide_eq_true_eq];omega
  go_enter Tryz.func83,Tryz.ntmps83
  go_wp2
  go_ret
  rw[HC.out]
  exact⟨rfl,HR.out,(Since.rfl_ w).only g⟩
 ·have hz:decide ((l.length:Int)<2)=false:=by rw[decide_eq_false_iff_not];omega
  go_enter Tryz.func83,Tryz.ntmps83
  go_wp2_with fail
  go_loopw [3] (fun v wr=>∃ k:Nat,1≤k∧k≤l.length∧v=.int .i64 k∧Hid (∀ i,1≤i→i<k→sgAt l i≠sgAt l (i-1))∧Hid (Since w wr)) (fun v _=>l.length-(intOf v).toNat)
  case atStart=>exact⟨1,by omega,by omega,rfl,fun i h1 h2=>by omega,Since.rfl_ w⟩
  case round =>
   obtain⟨k,hk1,hk,rfl,HA,HS⟩:=hrel
   rcases Nat.lt_or_ge k l.length with hlt | hge
   ·obtain⟨m,hkm⟩:∃ m,k=m+1:=⟨k-1,by omega⟩
    have HK:=Lib.hid hkm
    have HRr:=Lib.hid (HR.out.since HS.out)
    have iw:IntKind.i64.wrap ((k:Int)-1)=(m:Int):=by
     rw[i64wc,show(k:Int)-1=m by omega]
     exact wrap_id (by omega)
    have i1:(0:Int)≤(m:Int):=Int.natCast_nonneg m
    have i2:(m:Int)<(l.length:Int):=by omega
    have i3:(k:Int)<(l.length:Int):=by omega
    have i4:(0:Int)≤(k:Int):=by omega
    have i5:m<l.length:=by omega
    obtain⟨c0,c1,c2,c3⟩:=HRr.out.cells hlt
    obtain⟨d0,d1,d2,d3⟩:=HRr.out.cells i5
    clear hkm
    go_upto_region 6 with fail
    refine region_cls (fun w' => w'.cell? ⟨g,k*4,none⟩=some (.int .i64 (sgAt l k).1.1)∧w'.cell? ⟨g,k*4+1,none⟩=some (.int .i64 (sgAt l k).1.2)∧w'.cell? ⟨g,k*4+2,none⟩=some (.int .i64 (sgAt l k).2.1)∧w'.cell? ⟨g,k*4+3,none⟩=some (.int .i64 (sgAt l k).2.2)∧w'.cell? ⟨g,m*4,none⟩=some (.int .i64 (sgAt l m).1.1)∧w'.cell? ⟨g,m*4+1,none⟩=some (.int .i64 (sgAt l m).1.2)∧w'.cell? ⟨g,m*4+2,none⟩=some (.int .i64 (sgAt l m).2.1)∧w'.cell? ⟨g,m*4+3,none⟩=some (.int .i64 (sgAt l m).2.2)∧Since wr w') (by kernel_rfl) (by kernel_rfl) (by(repeat' refine And.intro ?_ ?_) <;> first | (simp (maxDischargeDepth:=9) [c0,c1,c2,c3,d0,d1,d2,d3,  cSetS,cSetO,cellNew,World.cell?_alloc_some,cellDrew];done) | (repeat (first | with_reducible assumption | with_reducible exact Since.rfl_ _ | refine Since.setCell ?_ (by(try dsimp only);omega) _ | refine Since.alloc ?_ _ | refine Since.drew ?_))) ?_
    repeat (go_big_quiet_step ((first | (intro hC;have hC:=hC.out;(try simp only[hC,Result.andThen]);first | exact⟨True.intro,rfl⟩ | exact⟨rfl,rfl⟩ | rfl))))
    refine cls_end ?_
    clear c0 c1 c2 c3 d0 d1 d2 d3
    rintro w1 ⟨-,-,-,-,-,-,-,-,hs⟩
    have HS1:=Lib.hid (HS.out.trans hs)
    have HR1:=Lib.hid (HRr.out.since hs)
    clear hs HRr HS
    by_cases hb:sgAt l k=sgAt l m
    ·have hx:eqG (sgAt l k) (sgAt l m)=true:=by unfold eqG;rw[decide_eq_true_eq];exact hb
     rw[hx]
     have HI:Hid (CmpG l (sgAt l) (k+1) k):=by
      show CmpG _ _ _ _
      have h1:=HK.out
      subst h1
      exact CmpG.start hlt HA.out hb
     clear hb HA
     have kc:k<c:=by omega
     have e1:(k:Int)≤(c:Int):=by omega
     have e2:¬ c=k:=by omega
     go_wp2_with fail
     clear i1 i2 i3 i4 i5 iw
     have h1w:=HR1.out.lt
     go_loopw [3,5] (fun v3 v5 wr=>∃ (kk k2:Nat) (f:Nat→Sg),v3=.int .i64 kk∧v5=.int .i64 k2∧1≤k2∧k+k2≤l.length∧Hid (CmpG l f (k+k2) kk)∧Hid (RowG wr g l.length N f)∧Hid (Only g w wr)) (fun _ v _=>l.length-k-(intOf v).toNat)
     case atStart=>exact⟨k,1,sgAt l,by go_num,by go_num,by omega,by omega,HI,HR1,HS1.out.only g⟩
     case round =>
      clear HR1 HS1 HI
      obtain⟨kk,k2,f,rfl,rfl,g1,g2,HI,HR2,HO⟩:=hrel
      have hkk:=HI.out.2.1
      rcases Nat.lt_or_ge (k+k2) l.length with hlt2 | hge2
      ·obtain⟨m2,hkm2⟩:∃ m2,k2=m2+1:=⟨k2-1,by omega⟩
       have HK2:=Lib.hid hkm2
       have jw:IntKind.i64.wrap ((k2:Int)-1)=(m2:Int):=by
        rw[i64wc,show(k2:Int)-1=m2 by omega]
        exact wrap_id (by omega)
       have j1:(0:Int)≤(m2:Int):=Int.natCast_nonneg m2
       have j2:(m2:Int)<((l.length-k:Nat):Int):=by omega
       have j3:(k2:Int)<((l.length-k:Nat):Int):=by omega
       have j4:(0:Int)≤(k2:Int):=by omega
       have j5:m2<l.length-k:=by omega
       have j6:k2<l.length-k:=by omega
       have j7:(kk:Int)<(l.length:Int):=by omega
       have j8:(0:Int)≤(kk:Int):=by omega
       have j9:kk<l.length:=by omega
       obtain⟨c0,c1,c2,c3⟩:=HR2.out.cells hlt2
       obtain⟨d0,d1,d2,d3⟩:=HR2.out.cells (i:=k+m2) (by omega)
       rw[HI.out.2.2.2 _ (by omega),Nat.add_mul] at c0 c1 c2 c3 d0 d1 d2 d3
       clear hkm2
       have j10:decide (k2<l.length-k)=true:=by rw[decide_eq_true_eq];omega
       by_cases hb:sgAt l (k+k2)=sgAt l (k+m2)
       ·have HI2:Hid (CmpG l f (k+k2+1) kk):=HI.out.same hlt2 (by omega) (by rw[hb,show k+k2-1=k+m2 by have:=HK2.out;omega])
        have hx:eqG (sgAt l (k+k2)) (sgAt l (k+m2))=true:=by unfold eqG;rw[decide_eq_true_eq];exact hb
        clear hb HI
        go_upto_region 11 with fail
        refine region_cls (fun w' => w'.cell? ⟨g,k*4+k2*4,none⟩=some (.int .i64 (sgAt l (k+k2)).1.1)∧w'.cell? ⟨g,k*4+k2*4+1,none⟩=some (.int .i64 (sgAt l (k+k2)).1.2)∧w'.cell? ⟨g,k*4+k2*4+2,none⟩=some (.int .i64 (sgAt l (k+k2)).2.1)∧w'.cell? ⟨g,k*4+k2*4+3,none⟩=some (.int .i64 (sgAt l (k+k2)).2.2)∧w'.cell? ⟨g,k*4+m2*4,none⟩=some (.int .i64 (sgAt l (k+m2)).1.1)∧w'.cell? ⟨g,k*4+m2*4+1,none⟩=some (.int .i64 (sgAt l (k+m2)).1.2)∧w'.cell? ⟨g,k*4+m2*4+2,none⟩=some (.int .i64 (sgAt l (k+m2)).2.1)∧w'.cell? ⟨g,k*4+m2*4+3,none⟩=some (.int .i64 (sgAt l (k+m2)).2.2)∧Since wr w') (by kernel_rfl) (by kernel_rfl) (by(repeat' refine And.intro ?_ ?_) <;> first | (simp (maxDischargeDepth:=9) [c0,c1,c2,c3,d0,d1,d2,d3,  cSetS,cSetO,cellNew,World.cell?_alloc_some,cellDrew];done) | (repeat (first | with_reducible assumption | with_reducible exact Since.rfl_ _ | refine Since.setCell ?_ (by(try dsimp only);omega) _ | refine Since.alloc ?_ _ | refine Since.drew ?_))) ?_
        repeat (go_big_quiet_step ((first | (intro hC;have hC:=hC.out;(try simp only[hC,Result.andThen]);first | exact⟨True.intro,rfl⟩ | exact⟨rfl,rfl⟩ | rfl))))
        refine cls_end ?_
        clear d0 d1 d2 d3 c0 c1 c2 c3
        rintro w2 ⟨c0,c1,c2,c3,-,-,-,-,hs⟩
        have HO2:=Lib.hid (HO.out.trans (hs.only g))
        have HR3:=Lib.hid (HR2.out.since hs)
        clear hs HR2 HO
        go_wp2_with fail
        go_roundw
        case rel=>exact⟨kk,k2+1,f,rfl,by go_num,by omega,by omega,HI2,HR3,HO2⟩
        case measure=>simp[intOf];omega
       ·have HI2:Hid (CmpG l (fun i=>if i=kk then sgAt l (k+k2) else f i) (k+k2+1) (kk+1)):=HI.out.new hlt2 (by omega) (by rw[show k+k2-1=k+m2 by have:=HK2.out;omega];exact hb)
        have hx:eqG (sgAt l (k+k2)) (sgAt l (k+m2))=false:=by unfold eqG;rw[decide_eq_false_iff_not];exact hb
        clear hb HI
        go_upto_region 11 with fail
        refine region_cls (fun w' => w'.cell? ⟨g,k*4+k2*4,none⟩=some (.int .i64 (sgAt l (k+k2)).1.1)∧w'.cell? ⟨g,k*4+k2*4+1,none⟩=some (.int .i64 (sgAt l (k+k2)).1.2)∧w'.cell? ⟨g,k*4+k2*4+2,none⟩=some (.int .i64 (sgAt l (k+k2)).2.1)∧w'.cell? ⟨g,k*4+k2*4+3,none⟩=some (.int .i64 (sgAt l (k+k2)).2.2)∧w'.cell? ⟨g,k*4+m2*4,none⟩=some (.int .i64 (sgAt l (k+m2)).1.1)∧w'.cell? ⟨g,k*4+m2*4+1,none⟩=some (.int .i64 (sgAt l (k+m2)).1.2)∧w'.cell? ⟨g,k*4+m2*4+2,none⟩=some (.int .i64 (sgAt l (k+m2)).2.1)∧w'.cell? ⟨g,k*4+m2*4+3,none⟩=some (.int .i64 (sgAt l (k+m2)).2.2)∧Since wr w') (by kernel_rfl) (by kernel_rfl) (by(repeat' refine And.intro ?_ ?_) <;> first | (simp (maxDischargeDepth:=9) [c0,c1,c2,c3,d0,d1,d2,d3,  cSetS,cSetO,cellNew,World.cell?_alloc_some,cellDrew];done) | (repeat (first | with_reducible assumption | with_reducible exact Since.rfl_ _ | refine Since.setCell ?_ (by(try dsimp only);omega) _ | refine Since.alloc ?_ _ | refine Since.drew ?_))) ?_
        repeat (go_big_quiet_step ((first | (intro hC;have hC:=hC.out;(try simp only[hC,Result.andThen]);first | exact⟨True.intro,rfl⟩ | exact⟨rfl,rfl⟩ | rfl))))
        refine cls_end ?_
        clear d0 d1 d2 d3 c0 c1 c2 c3
        rintro w2 ⟨c0,c1,c2,c3,-,-,-,-,hs⟩
        have HO2:=Lib.hid (HO.out.trans (hs.only g))
        have HR3:=Lib.hid (HR2.out.since hs)
        clear hs HR2 HO
        have HR4:=Lib.hid (HR3.out.set j9 (sgAt l (k+k2)))
        have HO4:=Lib.hid ((((HO2.out.setCell (p:=⟨g,kk*4,none⟩) (.inl rfl) (.int .i64 (sgAt l (k+k2)).1.1)).setCell (p:=⟨g,kk*4+1,none⟩) (.inl rfl) (.int .i64 (sgAt l (k+k2)).1.2)).setCell (p:=⟨g,kk*4+2,none⟩) (.inl rfl) (.int .i64 (sgAt l (k+k2)).2.1)).setCell (p:=⟨g,kk*4+3,none⟩) (.inl rfl) (.int .i64 (sgAt l (k+k2)).2.2))
        obtain⟨q0,q1,q2,q3⟩:=HR3.out.cells j9
        have f0:=HR3.out.frozen (kk*4)
        have f1:=HR3.out.frozen (kk*4+1)
        have f2:=HR3.out.frozen (kk*4+2)
        have f3:=HR3.out.frozen (kk*4+3)
        go_wp2_with fail
        go_roundw
        case rel=>exact⟨kk+1,k2+1,_,by go_num,by go_num,by omega,by omega,HI2,HR4,HO4⟩
        case measure=>simp[intOf];omega
      ·obtain⟨ke,hke⟩:∃ ke,Hid (ke=l.length-k):=⟨_,rfl⟩
       have h3:k+k2=l.length:=by omega
       have HI3:=HI.out
       rw[h3,CmpG,List.take_length] at HI3
       obtain⟨a1,a2,a3,a4⟩:=HI3
       have HN:=Lib.hid a1
       have HRm:=Lib.hid (HR2.out.sub (m:=kk) (f' := sgAt (cmpG l)) (by omega) (fun i hi=>(a3 i hi).symm))
       have hN:4*l.length≤N:=by obtain⟨cs,-,-,h,-⟩:=HR2.out;exact h
       have hcl:=fun ty=>clear_sg wr g kk (l.length-kk) (c-kk) N _ ty HRm.out (by omega) (by omega)
       have HRe:=Lib.hid (RowG.highs (Builtin.zeroCells #[Value.int .i64 0,Value.int .i64 0,Value.int .i64 0,Value.int .i64 0] (l.length-kk)).toList (kk*4) wr HRm.out (by omega))
       have HOe:=Lib.hid (only_cells (Builtin.zeroCells #[Value.int .i64 0,Value.int .i64 0,Value.int .i64 0,Value.int .i64 0] (l.length-kk)).toList (kk*4) wr HO.out)
       generalize (Builtin.zeroCells #[Value.int .i64 0,Value.int .i64 0,Value.int .i64 0,Value.int .i64 0] (l.length-kk)).toList=zs at *
       clear a1 a3 a4 HI HR2 HO HRm
       have b1:(kk:Int)≤(l.length:Int):=by omega
       have b2:(kk:Int)≤(c:Int):=by omega
       have b3:¬ c=kk:=by omega
       have b4:(0:Int)≤(kk:Int):=by omega
       have b5:kk<c:=by omega
       have b6:decide (k2<l.length-k)=false:=by rw[decide_eq_false_iff_not];omega
       go_wp2
       go_ret
       rw[← HN.out]
       exact⟨rfl,HRe.out,HOe.out⟩
    ·have HB:Hid (∀ i,1≤i→i<k+1→sgAt l i≠sgAt l (i-1)):=fun i h1 h2=>by
      rcases Nat.lt_succ_iff_lt_or_eq.1 h2 with h | h
      ·exact HA.out i h1 h
      ·rw[h,show k-1=m by have:=HK.out;omega];exact hb
     have hx:eqG (sgAt l k) (sgAt l m)=false:=by unfold eqG;rw[decide_eq_false_iff_not];exact hb
     rw[hx]
     clear hb HA
     go_wp2_with fail
     go_roundw
     case rel=>exact⟨k+1,by omega,by omega,by go_num,HB,HS1⟩
     case measure=>simp[intOf];omega
   ·have HC:Hid (cmpG l=l):=by
     show _=_
     exact cmpG_id fun i h1 h2=>HA.out i h1 (by omega)
    have hz3:decide ((k:Int)<(l.length:Int))=false:=by rw[decide_eq_false_iff_not];omega
    clear HA
    go_wp2
    go_ret
    rw[HC.out]
    exact⟨rfl,HR.out.since HS.out,HS.out.only g⟩
end
section
open Go.RowKit Go.BigFrame Go.Shelf Go.Lib Go.Proofs
attribute [local go_sem ↓] eqPt neqPt
def sortSg_ren:Go.Shelf.Ren:=⟨fun | 6=>71 | 15=>96 | 14=>95 | 28=>117 | 29=>118 | 20=>109 | 21=>110 | 22=>111 | 23=>112 | 24=>113 | 25=>114 | 26=>115 | 27=>116 | 46=>143 | 47=>144 | 48=>145 | 49=>146 | 50=>147 | 57=>165 | n=>n,fun | 22=>27 | 24=>37 | 25=>100 | 3=>3 | 39=>118 | 0=>0 | 53=>141 | 55=>143 | 4=>4 | 46=>134 | 45=>133 | 50=>138 | 5=>5 | 9=>9 | 66=>168 | 70=>172 | 76=>195 | 77=>187 | n=>n,fun | n=>n⟩
theorem sortSg:Go.Proofs.SlLaysF0.n6 Tryz.prog sortSg_ren:={
 mixed:=by kernel_rfl
 f6:=⟨Tryz.f71.name,by decide,Tryz.func71.trans (congrArg some (by kernel_rfl))⟩
 f14:=⟨Tryz.f95.name,by decide,Tryz.func95.trans (congrArg some (by kernel_rfl))⟩
 f15:=Tryz.func96.trans (congrArg some (by kernel_rfl))
 f20:=⟨Tryz.f109.name,by decide,Tryz.func109.trans (congrArg some (by kernel_rfl))⟩
 f21:=⟨Tryz.f110.name,by decide,Tryz.func110.trans (congrArg some (by kernel_rfl))⟩
 f22:=⟨Tryz.f111.name,by decide,Tryz.func111.trans (congrArg some (by kernel_rfl))⟩
 f23:=⟨Tryz.f112.name,by decide,Tryz.func112.trans (congrArg some (by kernel_rfl))⟩
 f24:=⟨Tryz.f113.name,by decide,Tryz.func113.trans (congrArg some (by kernel_rfl))⟩
 f25:=⟨Tryz.f114.name,by decide,Tryz.func114.trans (congrArg some (by kernel_rfl))⟩
 f26:=⟨Tryz.f115.name,by decide,Tryz.func115.trans (congrArg some (by kernel_rfl))⟩
 f27:=⟨Tryz.f116.name,by decide,Tryz.func116.trans (congrArg some (by kernel_rfl))⟩
 f28:=Tryz.func117.trans (congrArg some (by kernel_rfl))
 f29:=Tryz.func118.trans (congrArg some (by kernel_rfl))
 f46:=⟨Tryz.f143.name,by decide,Tryz.func143.trans (congrArg some (by kernel_rfl))⟩
 f47:=Tryz.func144.trans (congrArg some (by kernel_rfl))
 f48:=Tryz.func145.trans (congrArg some (by kernel_rfl))
 f49:=⟨Tryz.f146.name,by decide,Tryz.func146.trans (congrArg some (by kernel_rfl))⟩
 f50:=⟨Tryz.f147.name,by decide,Tryz.func147.trans (congrArg some (by kernel_rfl))⟩
 f57:=⟨Tryz.f165.name,by decide,Tryz.func165.trans (congrArg some (by kernel_rfl))⟩
 t0:=Tryz.underlying0
 a0:=Tryz.isAgg0
 z0:=Tryz.sizeOf0
 v0:=Tryz.zeroValue0
 t3:=Tryz.underlying3
 a3:=Tryz.isAgg3
 z3:=Tryz.sizeOf3
 v3:=Tryz.zeroValue3
 t4:=Tryz.underlying4
 a4:=Tryz.isAgg4
 z4:=Tryz.sizeOf4
 v4:=Tryz.zeroValue4
 t5:=Tryz.underlying5
 a5:=Tryz.isAgg5
 z5:=Tryz.sizeOf5
 v5:=Tryz.zeroValue5
 t9:=Tryz.underlying9
 a9:=Tryz.isAgg9
 z9:=Tryz.sizeOf9
 v9:=Tryz.zeroValue9
 t22:=Tryz.underlying27
 a22:=Tryz.isAgg27
 z22:=Tryz.sizeOf27
 v22:=Tryz.zeroValue27
 t25:=Tryz.underlying100
 a25:=Tryz.isAgg100
 z25:=Tryz.sizeOf100
 v25:=Tryz.zeroValue100
 t39:=Tryz.underlying118
 a39:=Tryz.isAgg118
 z39:=Tryz.sizeOf118
 v39:=Tryz.zeroValue118
 t45:=Tryz.underlying133
 a45:=Tryz.isAgg133
 z45:=Tryz.sizeOf133
 v45:=Tryz.zeroValue133
 t46:=Tryz.underlying134
 a46:=Tryz.isAgg134
 z46:=Tryz.sizeOf134
 v46:=Tryz.zeroValue134
 t50:=Tryz.underlying138
 a50:=Tryz.isAgg138
 z50:=Tryz.sizeOf138
 v50:=Tryz.zeroValue138
 t53:=Tryz.underlying141
 a53:=Tryz.isAgg141
 z53:=Tryz.sizeOf141
 v53:=Tryz.zeroValue141
 t55:=Tryz.underlying143
 a55:=Tryz.isAgg143
 z55:=Tryz.sizeOf143
 v55:=Tryz.zeroValue143
 t66:=Tryz.underlying168
 a66:=Tryz.isAgg168
 z66:=Tryz.sizeOf168
 v66:=Tryz.zeroValue168
 t70:=Tryz.underlying172
 a70:=Tryz.isAgg172
 z70:=Tryz.sizeOf172
 v70:=Tryz.zeroValue172
 t76:=Tryz.underlying195
 a76:=Tryz.isAgg195
 z76:=Tryz.sizeOf195
 v76:=Tryz.zeroValue195
 t77:=Tryz.underlying187
 a77:=Tryz.isAgg187
 z77:=Tryz.sizeOf187
 v77:=Tryz.zeroValue187 }
theorem sgV_len(s:Sg):(sgV s).length=4:=rfl
theorem sgV_one(x:Sg):∀ v∈sgV x,v.oneCell' = true:=by
 intro v hv
 simp only[sgV,List.mem_cons,List.not_mem_nil,or_false] at hv
 rcases hv with rfl | rfl | rfl | rfl <;> rfl
theorem flatG_len(l:List Sg):(l.flatMap sgV).length=l.length*4:=by
 induction l with
 | nil=>rfl
 | cons p l ih=>rw[List.flatMap_cons,List.length_append,ih,sgV_len,List.length_cons];omega
theorem flatK_sgV(l:List Sg):Go.Sort.flatK sgV 4 l.toArray=(l.flatMap sgV).toArray:=by
 refine Go.Sort.ext_get! (by rw[Go.Sort.size_flatK,List.size_toArray,List.size_toArray,flatG_len]) fun t ht=>?_
 rw[Go.Sort.size_flatK] at ht
 rw[Go.Sort.get_flatK _ _ _ _ ht]
 have ht' : t<l.length*4:=by simpa using ht
 have hi:t/4<l.length:=by omega
 have h1:=flat_at sgV_len l (t/4) (t % 4) hi (by omega)
 rw[show t/4*4+t % 4=t by omega] at h1
 have h2:(l.flatMap sgV).toArray[t]! = (sgV l[t/4])[t % 4]! := by
  rw[getElem!_def,getElem!_def,List.getElem?_toArray,h1]
 rw[h2,getElem!_pos l.toArray (t/4) (by simpa using hi),List.getElem_toArray]
section
variable {w : World} {B g n c m : Nat} {l l' : List Sg} {os : Array Obj}
theorem own_holdsG(h:w.ownsRow B 37 4 (.slice (some ⟨g,0,none⟩) n c) n (l.flatMap sgV))(hn:n=l.length):Go.Sort.HoldsK sgV 4 w g 0 l.toArray:=by
 intro j hj
 rw[flatK_sgV] at hj ⊢
 have hj' : j<n*4:=by simp only[List.size_toArray,flatG_len] at hj;omega
 refine⟨?_,h.frozenAt _⟩
 rw[Nat.zero_add,h.cellAt j hj']
 rw[getElem!_pos _ j hj,List.getElem_toArray,List.getElem?_eq_getElem]
 rfl
theorem only_sortG(d:Array Sg)(hg:g<w.heap.size):Only g w (Go.Sort.grow (Go.Sort.putRowK sgV 4 (Go.Sort.ahead w m) g 0 d) os):=by
 refine⟨rfl,rfl,rfl,by simp[Go.Sort.putRowK],fun k hk hne=>?_⟩
 rw[Go.Sort.heap_grow_old _ _ (by simpa[Go.Sort.putRowK] using hk)]
 have:g≠k:=fun e=>hne (by rw[e])
 simp[Go.Sort.putRowK,Go.Sort.putRow,Go.Sort.mapBlock,Go.Sort.ahead,Array.getElem?_modify,this]
theorem own_sortG(h:w.ownsRow B 37 4 (.slice (some ⟨g,0,none⟩) n c) n (l.flatMap sgV))(hn:n=l.length)(hl:l'.length=l.length) :
  (Go.Sort.grow (Go.Sort.putRowK sgV 4 (Go.Sort.ahead w m) g 0 l'.toArray) os).ownsRow B 37 4 (.slice (some ⟨g,0,none⟩) n c) n (l'.flatMap sgV):=by
 obtain⟨h0,⟨h1,-⟩ | ⟨g',cap,cur,h1,hb,hg,hc,hm,hs,ht⟩⟩:=h
 ·cases h1
 ·injection h1 with h1 h2 h3
  injection h1 with h1
  injection h1 with h1
  subst h1 h3
  have hlt:g<w.heap.size:=(Array.getElem?_eq_some_iff.1 hg).1
  refine⟨by rw[flatG_len,hn,hl],.inr ⟨g,c,Go.Sort.putCells id 0 (l'.flatMap sgV).toArray cur,rfl,hb,?_,hc,hm,by simp[Go.Sort.putCells,hs],?_⟩⟩
  ·rw[Go.Sort.heap_grow_old _ _ (by simpa[Go.Sort.putRowK] using hlt)]
   simp[Go.Sort.putRowK,Go.Sort.putRow,Go.Sort.mapBlock,Go.Sort.ahead,Array.getElem?_modify,hg,Go.Sort.onCells,flatK_sgV]
  ·have hle:n*4≤cur.size:=by rw[hs];exact Nat.mul_le_mul_right 4 hc
   apply List.ext_getElem?
   intro j
   have hlen:(l'.flatMap sgV).length=n*4:=by rw[flatG_len,hn,hl]
   by_cases hj:j<n*4
   ·rw[List.getElem?_take_of_lt hj,Array.getElem?_toList]
    simp[Go.Sort.putCells,hj,hlen,show j<cur.size by omega]
   ·rw[List.getElem?_take_eq_none (by omega),List.getElem?_eq_none (by omega)]
end
theorem grown_since(w:World)(q:Nat)(os:Array Obj):Since w (Go.Sort.grow (w.drewN q) os) :=
 ⟨rfl,rfl,rfl,by simp[Go.Sort.grow,World.drewN],fun i hi=>by
  have h1:(Go.Sort.grow (w.drewN q) os).heap=w.heap++os:=rfl
  rw[h1,Array.getElem?_append_left hi]⟩
def cmpS(s t:Sg):Int:=if cmpP s.1 t.1=0 then cmpP s.2 t.2 else cmpP s.1 t.1
def lxG(s t:Sg):Bool:=lxB s.1 t.1 || (decide (s.1=t.1) && lxB s.2 t.2)
theorem cmpP_zero(a b:Pt2):cmpP a b=0↔a=b:=by
 unfold cmpP cmpI
 constructor
 ·intro h
  repeat' split at h
  all_goals first | exact absurd h (by omega) | exact Prod.ext (by omega) (by omega)
 ·rintro rfl;simp
theorem cmpS_lt(s t:Sg):Go.Proofs.ltOf cmpS s t=lxG s t:=by
 have h1:=cmpP_lt s.1 t.1
 have h2:=cmpP_lt s.2 t.2
 unfold Go.Proofs.ltOf at *
 unfold cmpS lxG
 rw[← h1,← h2]
 by_cases h:s.1=t.1
 ·rw[if_pos ((cmpP_zero _ _).2 h),(cmpP_zero _ _).2 h];simp[h]
 ·rw[if_neg (fun k=>h ((cmpP_zero _ _).1 k))];simp[h]
theorem lxB_lx{a b:Pt2}:lxB a b=true↔lx a b:=by unfold lxB lx;simp only[Bool.or_eq_true,Bool.and_eq_true,decide_eq_true_eq]
theorem lxG_iff{s t:Sg}:lxG s t=true↔lx s.1 t.1∨(s.1=t.1∧lx s.2 t.2):=by unfold lxG;rw[Bool.or_eq_true,Bool.and_eq_true,decide_eq_true_eq,lxB_lx,lxB_lx]
theorem lxG_trans{x y z:Sg}(h:lxG x y=true)(k:lxG y z=true):lxG x z=true:=by
 rw[lxG_iff] at *
 rcases h with h | ⟨h,h'⟩
 ·rcases k with k | ⟨k,k'⟩
  ·exact .inl (lx_trans h k)
  ·exact .inl (k ▸ h)
 ·rcases k with k | ⟨k,k'⟩
  ·exact .inl (h ▸ k)
  ·exact .inr ⟨h.trans k,lx_trans h' k'⟩
theorem lxG_irr(x:Sg):lxG x x=false:=by
 rw[Bool.eq_false_iff];intro h
 rcases lxG_iff.1 h with h | h
 ·exact lx_irr _ h
 ·exact lx_irr _ h.2
theorem lxG_tri(x y:Sg):lxG x y=true∨x=y∨lxG y x=true:=by
 rw[lxG_iff,lxG_iff]
 rcases lx_tri x.1 y.1 with h | h | h
 ·exact .inl (.inl h)
 ·rcases lx_tri x.2 y.2 with k | k | k
  ·exact .inl (.inr ⟨h,k⟩)
  ·exact .inr (.inl (Prod.ext h k))
  ·exact .inr (.inr (.inr ⟨h.symm,k⟩))
 ·exact .inr (.inr (.inl h))
theorem cmpS_swo:Go.Sort.SWO (ltOf cmpS) where
 irrefl x:=by rw[cmpS_lt];exact lxG_irr x
 trans x y z h1 h2:=by rw[cmpS_lt] at *;exact lxG_trans h1 h2
 ntrans x y z h1 h2:=by
  rw[cmpS_lt] at *
  rcases lxG_tri x y with h | h | h
  ·rw[h] at h1;cases h1
  ·rw[h];exact h2
  ·rcases lxG_tri y z with k | k | k
   ·rw[k] at h2;cases h2
   ·rw[← k,h1]
   ·rw[Bool.eq_false_iff];intro e
    have:=lxG_trans (lxG_trans k h) e
    rw[lxG_irr] at this;cases this
set_option maxHeartbeats 1000000 in
theorem EdgeCmp_any(s t:Sg)(w:World):Calls Tryz.prog 82 #[.agg #[.int .i64 s.1.1,.int .i64 s.1.2,.int .i64 s.2.1,.int .i64 s.2.2],.agg #[.int .i64 t.1.1,.int .i64 t.1.2,.int .i64 t.2.1,.int .i64 t.2.2]] w fun e w' => e=.returned (.int .i64 (cmpS s t))∧∃ q os',w' = Go.Sort.grow (w.drewN q) os' := by
 have H1:=Lib.hid (fun w=>Cmp_any s.1 t.1 w)
 have H2:=Lib.hid (fun w=>Cmp_any s.2 t.2 w)
 have HD:Hid (cmpS s t=if cmpP s.1 t.1=0 then cmpP s.2 t.2 else cmpP s.1 t.1):=rfl
 obtain⟨x,HX⟩:∃ x,Hid (x=cmpP s.1 t.1):=⟨_,rfl⟩
 obtain⟨y,HY⟩:∃ y,Hid (y=cmpP s.2 t.2):=⟨_,rfl⟩
 rw[← HX.out] at H1 HD
 rw[← HY.out] at H2 HD
 go_enter Tryz.func82,Tryz.ntmps82
 go_upto_region 1 with fail
 obtain⟨G,HG⟩:∃ G,G=w.heap.size:=⟨_,rfl⟩
 rw[← HG]
 refine atW (fun w' => Hid (∃ q os,w' = Go.Sort.grow (w.drewN q) os)∧Blk w' G 37 #[.int .i64 s.1.1,.int .i64 s.1.2,.int .i64 s.2.1,.int .i64 s.2.2]∧Blk w' (G+1) 37 #[.int .i64 t.1.1,.int .i64 t.1.2,.int .i64 t.2.1,.int .i64 t.2.2]) ⟨⟨0,_,by rw[Go.Sort.alloc_eq_grow,Go.Sort.alloc_eq_grow,Go.Sort.grow_grow];rfl⟩,(Blk.new' HG).alloc _,Blk.new' (by simp[HG])⟩ ?_
 clear HG
 rintro w1 ⟨HW,hs,ht⟩
 have a_0:=hs.cell 0
 have a_1:=hs.cell 1
 have a_2:=hs.cell 2
 have a_3:=hs.cell 3
 simp only[List.getElem?_toArray,List.getElem?_cons_zero,List.getElem?_cons_succ] at a_0 a_1 a_2 a_3
 have b_0:=ht.cell 0
 have b_1:=ht.cell 1
 have b_2:=ht.cell 2
 have b_3:=ht.cell 3
 simp only[List.getElem?_toArray,List.getElem?_cons_zero,List.getElem?_cons_succ] at b_0 b_1 b_2 b_3
 have HB:=Lib.hid (And.intro hs ht)
 clear hs ht
 go_wp2_with fail
 refine(H1.out _).mono ?_
 rintro e w2 ⟨rfl,hq⟩
 have hs2:Since w1 w2:=by
  obtain⟨q,os,rfl⟩:=hq
  exact grown_since _ _ _
 have HW2:Hid (∃ q os,w2=Go.Sort.grow (w.drewN q) os):=by
  obtain⟨q,os,rfl⟩:=hq
  obtain⟨q',os',rfl⟩:=HW.out
  exact⟨q' + q,os' ++ os,by simp[World.drewN,Go.Sort.grow,Nat.add_assoc]⟩
 have a_2:=keepC hs2 _ _ a_2
 have a_3:=keepC hs2 _ _ a_3
 have b_2:=keepC hs2 _ _ b_2
 have b_3:=keepC hs2 _ _ b_3
 clear a_0 a_1 b_0 b_1 HW HB hs2 hq
 by_cases hx:x=0
 ·have hx0:(x == 0)=true:=by rw[beq_iff_eq];exact hx
  have HE:Hid (y=cmpS s t):=by show _=_;rw[HD.out,if_pos hx]
  clear hx HD
  go_wp2_with fail
  refine(H2.out _).mono ?_
  rintro e w3 ⟨rfl,hq⟩
  have HW3:Hid (∃ q os,w3=Go.Sort.grow (w.drewN q) os):=by
   obtain⟨q,os,rfl⟩:=hq
   obtain⟨q',os',rfl⟩:=HW2.out
   exact⟨q' + q,os' ++ os,by simp[World.drewN,Go.Sort.grow,Nat.add_assoc]⟩
  clear hq
  go_wp2_with fail
  go_ret
  exact⟨ret_int HE.out,HW3.out⟩
 ·have hx0:(x == 0)=false:=by rw[beq_eq_false_iff_ne];exact hx
  have HE:Hid (x=cmpS s t):=by show _=_;rw[HD.out,if_neg hx]
  clear hx HD
  go_wp2_with fail
  go_ret
  exact⟨ret_int HE.out,HW2.out⟩
def srtG(l:List Sg):List Sg:=l.mergeSort fun x y => !lxG y x
theorem sortG_any(g c n B:Nat)(l:List Sg)(w:World)(h:w.ownsRow B 37 4 (.slice (some ⟨g,0,none⟩) n c) n (l.flatMap sgV))(hn:n=l.length)(hlen:n≤1000000000000) :
  Calls Tryz.prog 71 #[.slice (some ⟨g,0,none⟩) n c,.func (.func 82) #[] #[]] w fun e w' => e=.returned (.tuple #[])∧w'.ownsRow B 37 4 (.slice (some ⟨g,0,none⟩) n c) n ((srtG l).flatMap sgV)∧Only g w w' := by
 have eg:∀ args w,(callFunc 82 args).run Tryz.prog w=.ok (.enter 82 args) w:=enters_of Tryz.func82 (by kernel_rfl) rfl
 have hT:∀ x y,(ltOf cmpS) x y=false→(ltOf cmpS) y x=false→x=y:=fun x y h1 h2=>by
  rw[cmpS_lt] at *
  rcases lxG_tri x y with k | k | k
  ·rw[k] at h1;cases h1
  ·exact k
  ·rw[k] at h2;cases h2
 have hcon:=AnyQ.slices_SortFunc_total sortSg 4 Tryz.isAgg37 Tryz.sizeOf37 sgV sgV_len sgV_one cmpS cmpS_swo 82 #[] g 0 c l.toArray w eg (fun _ _ _ _ x y=>EdgeCmp_any x y _) (own_holdsG h hn) (h.lt g rfl).2 (by simp;omega) hT
 change Calls Tryz.prog 71 _ _ _ at hcon
 rw[show l.toArray.size=n by simp[hn]] at hcon
 refine hcon.mono ?_
 rintro e w' ⟨rfl,m,os,rfl⟩
 have e1:(l.toArray.toList.mergeSort fun x y => !(ltOf cmpS) y x).toArray=(srtG l).toArray:=by
  unfold srtG
  have:(fun x y => !(ltOf cmpS) y x)=fun x y => !lxG y x:=by funext x y;rw[cmpS_lt]
  rw[this]
 rw[e1]
 exact⟨rfl,own_sortG h hn (by unfold srtG;simp),only_sortG _ (h.lt g rfl).2⟩
end
section
open Go.RowKit Go.BigFrame
attribute [local go_sem ↓] eqPt neqPt
def chAt(cs:List (List Pt2))(i:Nat):List Pt2:=cs.getD i []
def ChS(w:World)(v:Value)(cs:List (List Pt2)):Prop :=
 ∃ (g:Nat) (c:Nat),v=.slice (some ⟨g,0,none⟩) cs.length c∧∀ i,i<cs.length→∃ v',w.cell? ⟨g,i,none⟩=some v' ∧ PtsS w v' (chAt cs i)
theorem ChS.since{w w' : World}{v:Value}{cs:List (List Pt2)}(h:ChS w v cs)(k:Since w w'):ChS w' v cs:=by
 obtain⟨g,c,hv,h⟩:=h
 refine⟨g,c,hv,fun i hi=>?_⟩
 obtain⟨v',h1,h2⟩:=h i hi
 exact⟨v',keepC k _ _ h1,h2.since k⟩
def ordE(p q:Pt2):Sg:=if 0<cmpP p q then(q,p) else(p,q)
def edgC(c:List Pt2)(n:Nat):List Sg:=(List.range n).map fun i=>ordE (pAt c i) (pAt c (i+1))
def edgA(cs:List (List Pt2))(k:Nat):List Sg:=(List.range k).flatMap fun i=>edgC (chAt cs i) ((chAt cs i).length-1)
def edgL(cs:List (List Pt2)):List Sg:=cmpG (srtG (edgA cs cs.length))
theorem edgC_succ(c:List Pt2)(n:Nat):edgC c (n+1)=edgC c n++[ordE (pAt c n) (pAt c (n+1))]:=by unfold edgC;rw[List.range_succ,List.map_append];rfl
theorem edgA_succ(cs:List (List Pt2))(k:Nat):edgA cs (k+1)=edgA cs k++edgC (chAt cs k) ((chAt cs k).length-1):=by unfold edgA;rw[List.range_succ,List.flatMap_append];simp
theorem edgC_len(c:List Pt2)(n:Nat):(edgC c n).length=n:=by simp[edgC]
theorem edgA_len{cs:List (List Pt2)}{M:Nat}(hM:∀ i,i<cs.length→(chAt cs i).length≤M+1):∀ k,k≤cs.length→(edgA cs k).length≤k*M
 | 0,_=>by simp[edgA]
 | k+1,h=>by
  rw[edgA_succ,List.length_append,edgC_len,Nat.succ_mul]
  have:=edgA_len hM k (by omega)
  have:=hM k (by omega)
  omega
theorem cell4_new(w:World)(x y z u:Value)(t:TypeId):∀ j v,[x,y,z,u][j]? = some v→(w.alloc (.cells #[x,y,z,u] t)).cell? ((⟨w.heap.size,0,none⟩:Addr).add j)=some v:=by
 intro j v hv
 rcases j with _ | _ | _ | _ | j
 ·rw[← hv];exact(Blk.new w t #[x,y,z,u]).cell 0
 ·rw[← hv];exact(Blk.new w t #[x,y,z,u]).cell 1
 ·rw[← hv];exact(Blk.new w t #[x,y,z,u]).cell 2
 ·rw[← hv];exact(Blk.new w t #[x,y,z,u]).cell 3
 ·simp at hv
theorem one4(k k' k'' k3:IntKind)(a b c d:Int):∀ u∈[Value.int k a,.int k' b,.int k'' c,.int k3 d],u.oneCell' = true:=by
 intro u hu
 simp only[List.mem_cons,List.not_mem_nil,or_false] at hu
 rcases hu with rfl | rfl | rfl | rfl <;> rfl
theorem RowG.own{w:World}{b g c:Nat}{l:List Sg}(h:w.ownsRow b 37 4 (.slice (some ⟨g,0,none⟩) l.length c) l.length (l.flatMap sgV)):RowG w g l.length (c*4) (sgAt l)∧l.length≤c∧b≤g∧c≤maxLen:=by
 obtain⟨-,⟨h0,-⟩ | ⟨g',cap,cur,hv,hb,hg,hn,hm,hs,ht⟩⟩:=h
 ·cases h0
 ·injection hv with e1 e2 e3
  injection e1 with e1
  injection e1 with e1 _ _
  subst e1 e3
  refine⟨⟨cur,hg,hs,by omega,fun i hi=>?_⟩,hn,hb,hm⟩
  have key:∀ j,j<4→cur[4*i+j]? = (sgV l[i])[j]? := fun j hj=>by
   rw[← flat_at (f:=sgV) (k:=4) (fun x=>rfl) l i j hi hj,← ht,List.getElem?_take_of_lt (by omega),Array.getElem?_toList,Nat.mul_comm i 4]
  have e:sgAt l i=l[i]:=by simp[sgAt,List.getD,hi]
  rw[e]
  exact⟨key 0 (by omega),key 1 (by omega),key 2 (by omega),key 3 (by omega)⟩
theorem RowG.toOwn{w:World}{B g c:Nat}{l:List Sg}(h:RowG w g l.length (c*4) (sgAt l))(hc:l.length≤c)(hm:c≤maxLen)(hb:B≤g):w.ownsRow B 37 4 (.slice (some ⟨g,0,none⟩) l.length c) l.length (l.flatMap sgV):=by
 obtain⟨cs,hg,hs,hn,hcl⟩:=h
 refine⟨flatG_len l,.inr ⟨g,c,cs,rfl,hb,hg,hc,hm,hs,?_⟩⟩
 apply List.ext_getElem?
 intro j
 by_cases hj:j<l.length*4
 ·obtain⟨u,r,rfl,hr⟩:∃ u r,j=u*4+r∧r<4:=⟨j/4,j % 4,by omega,by omega⟩
  have hi:u<l.length:=by omega
  rw[List.getElem?_take_of_lt hj,Array.getElem?_toList,flat_at sgV_len l u r hi hr]
  have e:sgAt l u=l[u]:=by simp[sgAt,List.getD,hi]
  have h2:=hcl u hi
  rw[e,Nat.mul_comm] at h2
  have:r=0∨r=1∨r=2∨r=3:=by omega
  rcases this with h | h | h | h
  ·rw[h];exact h2.1
  ·rw[h];exact h2.2.1
  ·rw[h];exact h2.2.2.1
  ·rw[h];exact h2.2.2.2
 ·rw[List.getElem?_take_eq_none (by omega),List.getElem?_eq_none (by rw[flatG_len];omega)]
theorem CompactOwnG(g c B:Nat)(l:List Sg)(w:World)(hl:l.length≤1000000000000)(h:w.ownsRow B 37 4 (.slice (some ⟨g,0,none⟩) l.length c) l.length (l.flatMap sgV)) :
  Calls Tryz.prog 83 #[.slice (some ⟨g,0,none⟩) l.length c] w fun e w' => e=.returned (.slice (some ⟨g,0,none⟩) (cmpG l).length c) ∧
   w'.ownsRow B 37 4 (.slice (some ⟨g,0,none⟩) (cmpG l).length c) (cmpG l).length ((cmpG l).flatMap sgV)∧Only g w w' := by
 obtain⟨h1,h2,h3,hm⟩:=RowG.own h
 refine(CompactS_any g c (c*4) l w hl h2 h1).mono ?_
 rintro e w' ⟨rfl,hr,ho⟩
 exact⟨rfl,hr.toOwn (Nat.le_trans (cmpG_le l) h2) hm h3,ho⟩
set_option maxRecDepth 100000 in
set_option maxHeartbeats 4000000 in
theorem edges_any(v:Value)(cs:List (List Pt2))(w:World)(hv:ChS w v cs)(hlen:cs.length≤1000)(hM:∀ i,i<cs.length→(chAt cs i).length≤1000001)(hne:edgA cs cs.length≠[]) :
  Calls Tryz.prog 61 #[v] w fun e w' => ∃ x,e=.returned x∧w'.ownsRow w.heap.size 37 4 x (edgL cs).length ((edgL cs).flatMap sgV)∧Since w w' := by
 obtain⟨gv,cv,rfl,hv⟩:=hv
 have HV:=Lib.hid hv
 have HNE:=Lib.hid hne
 have HLA:=Lib.hid (fun k (hk:k≤cs.length)=>edgA_len hM k hk)
 have HM:=Lib.hid hM
 obtain⟨n,hn⟩:∃ n,n=cs.length:=⟨_,rfl⟩
 have HN:=Lib.hid hn
 rw[← hn] at HV hlen HLA HM ⊢
 clear hv hne hM hn
 obtain⟨i0,hi0,hz0,hz1,hz3⟩:=info_parts infoSg
 have HI:=Lib.hid hi0
 have HZ:=Lib.hid (And.intro hz0 (And.intro hz1 hz3))
 clear hi0 hz0 hz1 hz3
 go_enter Tryz.func61,Tryz.ntmps61
 go_upto_region 3 with fail
 go_loopw [10,3] (fun v v3 wr=>∃ k:Nat,k≤n∧v=.int .i64 k∧Hid (Since w wr)∧Hid (wr.ownsRow w.heap.size 37 4 v3 (edgA cs k).length ((edgA cs k).flatMap sgV))) (fun v _ _=>n-(intOf v).toNat)
 case atStart=>exact⟨0,by omega,rfl,Since.rfl_ w,World.ownsRow_nil _ _ _ _⟩
 case round =>
  obtain⟨k,hk,rfl,HS,HO⟩:=hrel
  obtain⟨ar,cr,rfl⟩:=own_slice HO.out
  have hla:=HLA.out k (by omega)
  rcases Nat.lt_or_ge k n with hlt | hge
  ·have hz:decide ((k:Int)<(n:Int))=true:=by rw[decide_eq_true_eq];omega
   obtain⟨v',hc,ac,cc,rfl,hp⟩:=HV.out k hlt
   have hc:=keepC HS.out _ _ hc
   have hcl:=HM.out k hlt
   have HSU:Hid (edgA cs (k+1)=edgA cs k++edgC (chAt cs k) ((chAt cs k).length-1)):=edgA_succ cs k
   obtain⟨C,HC⟩:∃ C,Hid (C=chAt cs k):=⟨_,rfl⟩
   rw[← HC.out] at hp hcl HSU hc
   have HP:=Lib.hid hp
   have i1:(0:Int)≤(k:Int):=by omega
   have i2:(k:Int)<(n:Int):=by omega
   obtain⟨m,hm⟩:∃ m,m=C.length:=⟨_,rfl⟩
   have HMM:=Lib.hid hm
   rw[← hm] at HP hcl HSU hc
   obtain⟨A,HA⟩:∃ A,Hid (A=edgA cs k):=⟨_,rfl⟩
   rw[← HA.out] at HSU HO hla ⊢
   have hla2:A.length≤1000*1000000:=Nat.le_trans hla (Nat.mul_le_mul_right _ (by omega))
   have HO0:Hid (wr.ownsRow w.heap.size 37 4 (.slice ar A.length cr) (A++edgC C 0).length ((A++edgC C 0).flatMap sgV)):=by
    show World.ownsRow _ _ _ _ _ _ _
    have e:A++edgC C 0=A:=by simp[edgC]
    rw[e];exact HO.out
   clear hp hm HO hla
   go_upto_region 6 with fail
   obtain⟨wo,HWO⟩:∃ wo,wo=wr:=⟨_,rfl⟩
   go_loopw [6,3] (fun v v3 wr=>∃ i:Nat,1≤i∧(i≤m∨i=1)∧v=.int .i64 i∧Hid (Since w wr)∧Hid (wr.ownsRow w.heap.size 37 4 v3 (A++edgC C (i-1)).length ((A++edgC C (i-1)).flatMap sgV))) (fun v _ _=>m-(intOf v).toNat)
   case atStart=>exact⟨1,by omega,.inr rfl,by go_num,HS,by simpa using HO0⟩
   case round =>
    clear HS HO0 HWO
    obtain⟨i,h1,h2,rfl,HS,HO⟩:=hrel
    obtain⟨ar,cr,rfl⟩:=own_slice HO.out
    have hil:(A++edgC C (i-1)).length=A.length+(i-1):=by rw[List.length_append,edgC_len]
    rw[hil] at HO ⊢
    rcases Nat.lt_or_ge i m with hlt2 | hge2
    ·have hz2:decide ((i:Int)<(m:Int))=true:=by rw[decide_eq_true_eq];omega
     obtain⟨j,hj⟩:∃ j,i=j+1:=⟨i-1,by omega⟩
     have iw:IntKind.i64.wrap ((i:Int)-1)=(j:Int):=by
      rw[i64wc,show(i:Int)-1=j by omega]
      exact wrap_id (by omega)
     obtain⟨gc,oc,rfl,p0,p1⟩:=HP.out j (by omega)
     obtain⟨gc',oc',hgo,q0,q1⟩:=HP.out i hlt2
     injection hgo with hgo
     injection hgo with hg1 hg2
     subst hg1 hg2
     have HES:Hid (edgC C i=edgC C j++[ordE (pAt C j) (pAt C i)]):=by show _=_;rw[hj,edgC_succ]
     obtain⟨p,hp⟩:∃ p,p=pAt C j:=⟨_,rfl⟩
     obtain⟨q,hq⟩:∃ q,q=pAt C i:=⟨_,rfl⟩
     rw[← hp] at p0 p1 HES
     rw[← hq] at q0 q1 HES
     rw[show i-1=j by omega] at HO ⊢
     have p0:=keepC HS.out _ _ p0
     have p1:=keepC HS.out _ _ p1
     have q0:=keepC HS.out _ _ q0
     have q1:=keepC HS.out _ _ q1
     have KF:=Lib.hid (fun w' (h:Since wr w')=>(show w'.cell? ⟨gc,oc+j*2,none⟩=some (.int .i64 p.1)∧w'.cell? ⟨gc,oc+j*2+1,none⟩=some (.int .i64 p.2)∧w'.cell? ⟨gc,oc+i*2,none⟩=some (.int .i64 q.1)∧w'.cell? ⟨gc,oc+i*2+1,none⟩=some (.int .i64 q.2) from⟨keepC h _ _ p0,keepC h _ _ p1,keepC h _ _ q0,keepC h _ _ q1⟩))
     have j1:(0:Int)≤(j:Int):=by omega
     have j2:(j:Int)<(m:Int):=by omega
     have j3:(0:Int)≤(i:Int):=by omega
     have j4:(i:Int)<(m:Int):=by omega
     have HIJ:=Lib.hid hj
     have HCM:=Lib.hid (fun w=>Cmp_any p q w)
     clear hp hq p0 p1 q0 q1 hj hc
     obtain⟨L,HL⟩:∃ L,Hid (L=A++edgC C j):=⟨_,rfl⟩
     have HES2:Hid (A++edgC C i=L++[ordE p q]):=by show _=_;rw[HES.out,HL.out,List.append_assoc]
     have hLL:L.length=A.length+j:=by rw[HL.out,List.length_append,edgC_len]
     rw[← HL.out,← hLL] at HO
     rw[← hLL]
     have hLb:L.length≤1000000000+1000001:=by omega
     clear hLL hil
     go_upto_region 8 with fail
     apply region_facts 11 (fun w' => Since wr w')
     case hm=>kernel_rfl
     case hB=>kernel_rfl
     case hS=>exact(Since.rfl_ wr).drew
     case h =>
     simp only[List.take_succ_cons,List.take_zero,List.drop_succ_cons,List.drop_zero]
     iterate 10 (apply wpO_det;(case hw=>rfl);(case h=>intro hFm wx hS_ hF_ K hK;go_big_quiet_op;first | exact hK _ rfl | (apply Exists.intro;refine⟨fun _=>?_,?_⟩;(focus (first | (intro hC;have hC:=KF.out _ hC.out.1;(try simp only[hC,Result.andThen]);first | exact⟨True.intro,rfl⟩ | exact⟨rfl,rfl⟩ | rfl)));exact hK _ rfl));(case' k=>simp only[Act.put,List.setIfInBounds_toArray,List.set_cons_succ,List.set_cons_zero,List.cons_append,List.nil_append]))
     apply wpO_mk (f:=fun g=>.pointer (some ⟨g,0,none⟩)) (t:=37) (cs := #[.int .i64 0,.int .i64 0,.int .i64 0,.int .i64 0])
     case hi=>(intro g g' h;simpa using h)
     case hw=>rfl
     case h=>(intro w;simp[go_sem])
     case k =>
     intro gs
     simp only[Act.put,List.setIfInBounds_toArray,List.set_cons_succ,List.set_cons_zero,List.cons_append,List.nil_append]
     refine wpO_nil ?_
     intro w1 hS hF hB
     (try simp[allF] at hF)
     (try simp[List.pairwise_cons] at hB)
     have hb:=hF.1
     have hgs:w.heap.size≤gs:=Nat.le_trans HS.out.size hF.2
     have HS1:=Lib.hid (HS.out.trans hS)
     have HO1:=Lib.hid (own_since hS HO.out)
     have hng:(Value.slice ar L.length cr).ownBlock≠some gs:=fun e=>by have:=(HO.out.lt gs e).2;have:=hF.2;omega
     have z_0:=hb.cell 0
     have z_1:=hb.cell 1
     have z_2:=hb.cell 2
     have z_3:=hb.cell 3
     simp only[List.getElem?_toArray,List.getElem?_cons_zero,List.getElem?_cons_succ] at z_0 z_1 z_2 z_3
     have f0:=hb.frozen 0
     have f1:=hb.frozen 1
     have f2:=hb.frozen 2
     have f3:=hb.frozen 3
     have HB1:=Lib.hid hb
     clear hb hF hS hB HS HO KF
     go_upto_region 9 with fail
     refine atW (fun w' => Hid (Since w w')∧Hid (w'.ownsRow w.heap.size 37 4 (.slice ar L.length cr) L.length (L.flatMap sgV))∧Blk w' gs 37 #[.int .i64 p.1,.int .i64 p.2,.int .i64 q.1,.int .i64 q.2]) ⟨(((HS1.out.setCell (p:=⟨gs,0,none⟩) hgs _).setCell (p:=⟨gs,1,none⟩) hgs _).setCell (p:=⟨gs,2,none⟩) hgs _).setCell (p:=⟨gs,3,none⟩) hgs _,
      own_far (p:=⟨gs,3,none⟩) (own_far (p:=⟨gs,2,none⟩) (own_far (p:=⟨gs,1,none⟩) (own_far (p:=⟨gs,0,none⟩) HO1.out (Ne.symm hng) _) (Ne.symm hng) _) (Ne.symm hng) _) (Ne.symm hng) _,(((HB1.out.set_ 0 (.int .i64 p.1)).set_ 1 (.int .i64 p.2)).set_ 2 (.int .i64 q.1)).set_ 3 (.int .i64 q.2)⟩ ?_
     clear HS1 HO1 HB1 z_0 z_1 z_2 z_3 f0 f1 f2 f3
     rintro w2 ⟨HS2,HO2,hb⟩
     have c_0:=hb.cell 0
     have c_1:=hb.cell 1
     have c_2:=hb.cell 2
     have c_3:=hb.cell 3
     simp only[List.getElem?_toArray,List.getElem?_cons_zero,List.getElem?_cons_succ] at c_0 c_1 c_2 c_3
     have HB2:=Lib.hid hb
     clear hb
     go_wp2_with fail
     refine(HCM.out _).mono ?_
     rintro e w3 ⟨rfl,hq⟩
     have hs:Since w2 w3:=by
      obtain⟨n1,os,rfl⟩:=hq
      exact grown_since _ _ _
     have HS3:=Lib.hid (HS2.out.trans hs)
     have HO3:=Lib.hid (own_since hs HO2.out)
     have hb:=hs.blk HB2.out
     have d_0:=hb.cell 0
     have d_1:=hb.cell 1
     have d_2:=hb.cell 2
     have d_3:=hb.cell 3
     simp only[List.getElem?_toArray,List.getElem?_cons_zero,List.getElem?_cons_succ] at d_0 d_1 d_2 d_3
     have f0:=hb.frozen 0
     have f1:=hb.frozen 1
     have f2:=hb.frozen 2
     have f3:=hb.frozen 3
     have HB3:=Lib.hid hb
     obtain⟨cv1,HCV⟩:∃ c,Hid (c=cmpP p q):=⟨_,rfl⟩
     rw[← HCV.out]
     clear hb hs hq HS2 HO2 HB2 c_0 c_1 c_2 c_3
     by_cases hsw:0<cv1
     ·have hd:decide (0<cv1)=true:=by rw[decide_eq_true_eq];exact hsw
      have HE:Hid (ordE p q=(q,p)):=by show _=_;unfold ordE;rw[← HCV.out,if_pos hsw]
      clear hsw
      rw[HE.out] at HES2
      go_upto_region 11 with fail
      refine atW (fun w' => Hid (Since w w')∧Hid (w'.ownsRow w.heap.size 37 4 (.slice ar L.length cr) L.length (L.flatMap sgV))∧Blk w' gs 37 #[.int .i64 q.1,.int .i64 q.2,.int .i64 p.1,.int .i64 p.2]) ⟨(((HS3.out.setCell (p:=⟨gs,0,none⟩) hgs _).setCell (p:=⟨gs,1,none⟩) hgs _).setCell (p:=⟨gs,2,none⟩) hgs _).setCell (p:=⟨gs,3,none⟩) hgs _,
       own_far (p:=⟨gs,3,none⟩) (own_far (p:=⟨gs,2,none⟩) (own_far (p:=⟨gs,1,none⟩) (own_far (p:=⟨gs,0,none⟩) HO3.out (Ne.symm hng) _) (Ne.symm hng) _) (Ne.symm hng) _) (Ne.symm hng) _,(((HB3.out.set_ 0 (.int .i64 q.1)).set_ 1 (.int .i64 q.2)).set_ 2 (.int .i64 p.1)).set_ 3 (.int .i64 p.2)⟩ ?_
      clear HS3 HO3 HB3 d_0 d_1 d_2 d_3 f0 f1 f2 f3
      rintro w4 ⟨HS4,HO4,hb⟩
      have e_0:=hb.cell 0
      have e_1:=hb.cell 1
      have e_2:=hb.cell 2
      have e_3:=hb.cell 3
      simp only[List.getElem?_toArray,List.getElem?_cons_zero,List.getElem?_cons_succ] at e_0 e_1 e_2 e_3
      clear hb
      go_wp2_with (at_builtin;refine wpList_append_own _ rfl _ _ 27 rfl w.heap.size 37 i0 _ 4 32 Tryz.underlying27 HI.out HZ.out.1 HZ.out.2.1 HZ.out.2.2 rfl (by decide) _ _ _ rfl (own_since ((Since.rfl_ w4).alloc _) HO4.out) _ _ _ [.int .i64 q.1,.int .i64 q.2,.int .i64 p.1,.int .i64 p.2] rfl rfl (cell4_new _ _ _ _ _ _) (one4 _ _ _ _ _ _ _ _) (by unfold maxLen;omega) (by omega) (by simp only[World.size_alloc];have:=HS4.out.size;omega) ?_)
      intro v' w' hown hgrow _
      obtain⟨ao',co',rfl⟩:=own_slice hown
      have hA:=(Since.rfl_ w4).alloc (.cells #[.int .i64 q.1,.int .i64 q.2,.int .i64 p.1,.int .i64 p.2] 37)
      have hoA:=own_since hA HO4.out
      have HS5:Hid (Since w w'):=((HS4.out.alloc (.cells #[.int .i64 q.1,.int .i64 q.2,.int .i64 p.1,.int .i64 p.2] 37))).grown hgrow (by simp only[World.size_alloc];have:=HS4.out.size;omega) fun k hk=>(hoA.lt k hk).1
      have HO5:Hid (w'.ownsRow w.heap.size 37 4 (.slice ao' (L.length+1) co') (A++edgC C (i+1-1)).length ((A++edgC C (i+1-1)).flatMap sgV)):=by
       show World.ownsRow _ _ _ _ _ _ _
       rw[Nat.add_sub_cancel,HES2.out,List.flatMap_append,List.length_append]
       exact hown
      clear hown hgrow hA hoA HS4 HO4 e_0 e_1 e_2 e_3
      go_wp2_with fail
      go_roundw
      case rel=>exact⟨i+1,by omega,.inl (by omega),by go_num,HS5,HO5⟩
      case measure=>simp[intOf];omega
     ·have hd:decide (0<cv1)=false:=by rw[decide_eq_false_iff_not];exact hsw
      have HE:Hid (ordE p q=(p,q)):=by show _=_;unfold ordE;rw[← HCV.out,if_neg hsw]
      clear hsw
      rw[HE.out] at HES2
      go_upto_region 11 with fail
      have HS4:=HS3
      have HO4:=HO3
      have hb:=HB3.out
      clear HS3 HO3 HB3 d_0 d_1 d_2 d_3 f0 f1 f2 f3
      have e_0:=hb.cell 0
      have e_1:=hb.cell 1
      have e_2:=hb.cell 2
      have e_3:=hb.cell 3
      simp only[List.getElem?_toArray,List.getElem?_cons_zero,List.getElem?_cons_succ] at e_0 e_1 e_2 e_3
      clear hb
      go_wp2_with (at_builtin;refine wpList_append_own _ rfl _ _ 27 rfl w.heap.size 37 i0 _ 4 32 Tryz.underlying27 HI.out HZ.out.1 HZ.out.2.1 HZ.out.2.2 rfl (by decide) _ _ _ rfl (own_since ((Since.rfl_ w3).alloc _) HO4.out) _ _ _ [.int .i64 p.1,.int .i64 p.2,.int .i64 q.1,.int .i64 q.2] rfl rfl (cell4_new _ _ _ _ _ _) (one4 _ _ _ _ _ _ _ _) (by unfold maxLen;omega) (by omega) (by simp only[World.size_alloc];have:=HS4.out.size;omega) ?_)
      intro v' w' hown hgrow _
      obtain⟨ao',co',rfl⟩:=own_slice hown
      have hA:=(Since.rfl_ w3).alloc (.cells #[.int .i64 p.1,.int .i64 p.2,.int .i64 q.1,.int .i64 q.2] 37)
      have hoA:=own_since hA HO4.out
      have HS5:Hid (Since w w'):=((HS4.out.alloc (.cells #[.int .i64 p.1,.int .i64 p.2,.int .i64 q.1,.int .i64 q.2] 37))).grown hgrow (by simp only[World.size_alloc];have:=HS4.out.size;omega) fun k hk=>(hoA.lt k hk).1
      have HO5:Hid (w'.ownsRow w.heap.size 37 4 (.slice ao' (L.length+1) co') (A++edgC C (i+1-1)).length ((A++edgC C (i+1-1)).flatMap sgV)):=by
       show World.ownsRow _ _ _ _ _ _ _
       rw[Nat.add_sub_cancel,HES2.out,List.flatMap_append,List.length_append]
       exact hown
      clear hown hgrow hA hoA HS4 HO4 e_0 e_1 e_2 e_3
      go_wp2_with fail
      go_roundw
      case rel=>exact⟨i+1,by omega,.inl (by omega),by go_num,HS5,HO5⟩
      case measure=>simp[intOf];omega
    ·have hz2:decide ((i:Int)<(m:Int))=false:=by rw[decide_eq_false_iff_not];omega
     have HIL:=Lib.hid hil
     have HR9:Hid (wr.ownsRow w.heap.size 37 4 (.slice ar (A.length+(i-1)) cr) (edgA cs (k+1)).length ((edgA cs (k+1)).flatMap sgV)):=by
      show World.ownsRow _ _ _ _ _ _ _
      have e:i-1=m-1:=by omega
      rw[HSU.out,← e,hil];exact HO.out
     have hle:(edgA cs (k+1)).length=A.length+(i-1):=by
      have e:i-1=m-1:=by omega
      rw[HSU.out,← e,hil]
     have HLEE:=Lib.hid hle
     clear HO hle hil
     go_wp2_with fail
     go_roundw
     case rel=>exact⟨k+1,by omega,by go_num,HS,HR9⟩
     case measure=>simp[intOf];omega
  ·obtain rfl:k=n:=by omega
   have hz:decide ((k:Int)<(k:Int))=false:=by rw[decide_eq_false_iff_not];omega
   obtain⟨A,HA⟩:∃ A,Hid (A=edgA cs k):=⟨_,rfl⟩
   rw[← HA.out] at HO hla ⊢
   have HNA:Hid (A=edgA cs cs.length):=by show _=_;rw[HA.out,HN.out]
   have h0:0<A.length:=by rw[HNA.out];exact List.length_pos_iff.2 HNE.out
   have hla2:A.length≤1000*1000000:=Nat.le_trans hla (Nat.mul_le_mul_right _ (by omega))
   have HLE:Hid (edgL cs=cmpG (srtG A)):=by show _=_;unfold edgL;rw[HNA.out]
   have hsl:(srtG A).length=A.length:=by unfold srtG;simp
   obtain⟨gg,cc,hgc⟩:=own_some HO.out h0
   injection hgc with h1 _ h2
   subst h1 h2
   have HSO:=Lib.hid (sortG_any gg cr A.length w.heap.size A wr HO.out rfl (by omega))
   have hB:=(HO.out.lt gg rfl).1
   clear HO hla
   go_wp2_with fail
   refine(HSO.out).mono ?_
   rintro e w3 ⟨rfl,ho,hs⟩
   have HS3:=Lib.hid (Only.since HS.out hs hB)
   have HC:=Lib.hid (CompactOwnG gg cr w.heap.size (srtG A) w3 (by omega) (by rw[hsl];exact ho))
   rw[hsl,← HLE.out] at HC
   clear ho hs HSO HS hsl
   go_wp2_with fail
   refine(HC.out).mono ?_
   rintro e w4 ⟨rfl,ho,hs⟩
   have HS4:=Lib.hid (Only.since HS3.out hs hB)
   have HO4:=Lib.hid ho
   clear ho hs HC HS3
   go_wp2_with fail
   go_ret
   exact⟨_,rfl,HO4.out,HS4.out⟩
end
section
open Go.RowKit Go.BigFrame
attribute [local go_sem ↓] eqPt neqPt
def metB(a b p:Pt2):Bool:=meetsV a.1 a.2 b.1 b.2 p.1 p.2
def metL(a b:Pt2)(H:List Pt2)(k:Nat):List Pt2:=(H.take k).filter (metB a b)
theorem metL_succ{a b:Pt2}{H:List Pt2}{k:Nat}(hk:k<H.length):metL a b H (k+1)=if metB a b (pAt H k)=true then metL a b H k++[pAt H k] else metL a b H k:=by
 unfold metL
 have e:pAt H k=H[k]:=by simp[pAt,List.getD,hk]
 rw[List.take_succ_eq_append_getElem hk,List.filter_append,e]
 cases h:metB a b H[k] <;> simp[h]
theorem metL_len(a b:Pt2)(H:List Pt2)(k:Nat):(metL a b H k).length≤H.length:=by
 unfold metL
 have:=List.length_filter_le (metB a b) (H.take k)
 have:=List.length_take_le' k H
 omega
def Thru(a b:Pt2)(H l:List Pt2):Prop:=l.Perm (H.filter (metB a b))∧l.Pairwise fun x y=>0≤dirV a b y x
set_option maxRecDepth 100000 in
set_option maxHeartbeats 4000000 in
theorem through_any{a b:Pt2}(ha:okP a.1 a.2=true)(hb:okP b.1 b.2=true)(v:Value)(H:List Pt2)(w:World)(hv:PtsS w v H)(hH:∀ p∈H,okP p.1 p.2=true)(hlen:H.length≤1000)(hne:H.filter (metB a b)≠[]) :
  Calls Tryz.prog 81 #[.agg #[.int .i64 a.1,.int .i64 a.2],.agg #[.int .i64 b.1,.int .i64 b.2],v] w fun e w' => ∃ x l,e=.returned x∧Thru a b H l∧w'.ownsRow w.heap.size 36 2 x l.length (l.flatMap ptV)∧Since w w' := by
 obtain⟨av,cv,rfl,hv⟩:=hv
 have HV:=Lib.hid hv
 have HH:=Lib.hid hH
 have HNE:=Lib.hid hne
 have HA:=Lib.hid (And.intro ha hb)
 obtain⟨n,hn⟩:∃ n,n=H.length:=⟨_,rfl⟩
 have HN:=Lib.hid hn
 rw[← hn] at HV hlen ⊢
 clear hv hH hne ha hb hn
 go_enter Tryz.func81,Tryz.ntmps81
 go_upto_region 3 with fail
 obtain⟨G,HG⟩:∃ G,G=w.heap.size:=⟨_,rfl⟩
 rw[← HG]
 refine atW (fun w' => Hid (Since w w' ∧ Blk w' G 36 #[.int .i64 a.1,.int .i64 a.2]∧Blk w' (G+1) 36 #[.int .i64 b.1,.int .i64 b.2])∧G+2≤w'.heap.size) ⟨⟨((Since.rfl_ w).alloc _).alloc _,(Blk.new' HG).alloc _,Blk.new' (by simp[HG])⟩,by simp[HG]⟩ ?_
 have HGG:=Lib.hid HG
 clear HG
 rintro w1 ⟨HS1,hs1⟩
 go_loopw [12,7] (fun v v7 wr=>∃ k:Nat,k≤n∧v=.int .i64 k∧Hid (Since w wr∧Blk wr G 36 #[.int .i64 a.1,.int .i64 a.2]∧Blk wr (G+1) 36 #[.int .i64 b.1,.int .i64 b.2])∧Hid (wr.ownsRow (G+2) 36 2 v7 (metL a b H k).length ((metL a b H k).flatMap ptV))∧G+2≤wr.heap.size) (fun v _ _=>n-(intOf v).toNat)
 case atStart=>exact⟨0,by omega,rfl,HS1,World.ownsRow_nil _ _ _ _,hs1⟩
 case round =>
  clear HS1 hs1
  obtain⟨k,hk,rfl,HS,HO,hs⟩:=hrel
  obtain⟨ar,cr,rfl⟩:=own_slice HO.out
  have hml:=metL_len a b H k
  rw[← HN.out] at hml
  rcases Nat.lt_or_ge k n with hlt | hge
  ·have hz:decide ((k:Int)<(n:Int))=true:=by rw[decide_eq_true_eq];omega
   obtain⟨g,o,rfl,e0,e1⟩:=HV.out k hlt
   obtain⟨p,hp⟩:∃ p,p=pAt H k:=⟨_,rfl⟩
   have HPE:=Lib.hid hp
   have hsucc:=metL_succ (a:=a) (b:=b) (H:=H) (k:=k) (by rw[← HN.out];exact hlt)
   rw[← hp] at e0 e1 hsucc
   have HSU:=Lib.hid hsucc
   have e0:=keepC HS.out.1 _ _ e0
   have e1:=keepC HS.out.1 _ _ e1
   have i1:(0:Int)≤(k:Int):=by omega
   have i2:(k:Int)<(n:Int):=by omega
   clear hp hsucc
   obtain⟨M,HM⟩:∃ M,Hid (M=metL a b H k):=⟨_,rfl⟩
   rw[← HM.out] at HO HSU hml ⊢
   go_upto_region 5 with fail
   obtain⟨gp,HG⟩:∃ gp,gp=wr.heap.size:=⟨_,rfl⟩
   rw[← HG]
   refine atW (fun w' => Hid (Since w w' ∧ Blk w' G 36 #[.int .i64 a.1,.int .i64 a.2]∧Blk w' (G+1) 36 #[.int .i64 b.1,.int .i64 b.2])∧Hid (w'.ownsRow (G+2) 36 2 (.slice ar M.length cr) M.length (M.flatMap ptV))∧Blk w' gp 36 #[.int .i64 p.1,.int .i64 p.2]∧G+2≤w'.heap.size) ⟨⟨HS.out.1.alloc _,HS.out.2.1.alloc _,HS.out.2.2.alloc _⟩,HO.out.alloc _,Blk.new' HG,by simp only[World.size_alloc];omega⟩ ?_
   clear HS HO hs e0 e1 HG
   rintro w2 ⟨HS2,HO2,hb2,hs2⟩
   have a0:w2.cell? ⟨G,0,none⟩=some (.int .i64 a.1):=HS2.out.2.1.cell 0
   have a1:w2.cell? ⟨G,1,none⟩=some (.int .i64 a.2):=HS2.out.2.1.cell 1
   have b0:w2.cell? ⟨G+1,0,none⟩=some (.int .i64 b.1):=HS2.out.2.2.cell 0
   have b1:w2.cell? ⟨G+1,1,none⟩=some (.int .i64 b.2):=HS2.out.2.2.cell 1
   have p0:w2.cell? ⟨gp,0,none⟩=some (.int .i64 p.1):=hb2.cell 0
   have p1:w2.cell? ⟨gp,1,none⟩=some (.int .i64 p.2):=hb2.cell 1
   have HP2:=Lib.hid hb2
   clear hb2
   have HMT:Hid (∀ w,Calls Tryz.prog 102 #[.agg #[.int .i64 a.1,.int .i64 a.2],.agg #[.int .i64 b.1,.int .i64 b.2],.agg #[.int .i64 p.1,.int .i64 p.2]] w fun e w' => e=.returned (.bool (metB a b p))∧Since w w'):=fun w=>by
    have h:=Meets_any a.1 a.2 b.1 b.2 p.1 p.2 w
    have hpo:okP p.1 p.2=true:=by rw[HPE.out];exact HH.out _ (pAt_mem (by rw[← HN.out];exact hlt))
    rw[(clamp_id HA.out.1).1,(clamp_id HA.out.1).2,(clamp_id HA.out.2).1,(clamp_id HA.out.2).2,(clamp_id hpo).1,(clamp_id hpo).2] at h
    exact h
   go_wp2_with fail
   refine(HMT.out _).mono ?_
   rintro e w3 ⟨rfl,hs⟩
   have HS3:=Lib.hid (And.intro (HS2.out.1.trans hs) (And.intro (hs.blk HS2.out.2.1) (hs.blk HS2.out.2.2)))
   have HO3:=Lib.hid (own_since hs HO2.out)
   have hs3:G+2≤w3.heap.size:=Nat.le_trans hs2 hs.size
   have c0:w3.cell? ⟨gp,0,none⟩=some (.int .i64 p.1):=keepC hs _ _ p0
   have c1:w3.cell? ⟨gp,1,none⟩=some (.int .i64 p.2):=keepC hs _ _ p1
   clear hs HS2 HO2 hs2 HP2 a0 a1 b0 b1 p0 p1 HMT
   cases hm:metB a b p
   ·have HE:Hid (metL a b H (k+1)=M):=by show _=_;rw[HSU.out,if_neg (by rw[hm];simp)]
    clear hm
    rw[← HE.out] at HO3
    go_wp2_with fail
    go_roundw
    case rel=>exact⟨k+1,by omega,by go_num,HS3,by rw[HE.out] at HO3 ⊢;exact HO3,hs3⟩
    case measure=>simp[intOf];omega
   ·have HE:Hid (metL a b H (k+1)=M++[p]):=by show _=_;rw[HSU.out,if_pos hm]
    clear hm
    obtain⟨i0,hi0,hz0,hz1,hz3⟩:=info_parts infoPt
    have HI:=Lib.hid hi0
    have HZ:=Lib.hid (And.intro hz0 (And.intro hz1 hz3))
    clear hi0 hz0 hz1 hz3
    go_wp2_with (at_builtin;refine wpList_append_own _ rfl _ _ 23 rfl (G+2) 36 i0 _ 2 16 Tryz.underlying23 HI.out HZ.out.1 HZ.out.2.1 HZ.out.2.2 rfl (by decide) _ _ _ rfl (own_since ((Since.rfl_ w3).alloc _) HO3.out) _ _ _ [.int .i64 p.1,.int .i64 p.2] rfl rfl (cell2_new _ _ _ _) (one2 _ _ _ _) (by unfold maxLen;omega) (by omega) (by simp only[World.size_alloc];omega) ?_)
    intro v' w' hown hgrow _
    obtain⟨ao',co',rfl⟩:=own_slice hown
    have hA:=(Since.rfl_ w3).alloc (.cells #[.int .i64 p.1,.int .i64 p.2] 36)
    have hoA:=own_since hA HO3.out
    have hS4:Since w w' := ((HS3.out.1.alloc (.cells #[.int .i64 p.1,.int .i64 p.2] 36))).grown hgrow (by simp only[World.size_alloc];have:=HS3.out.1.size;omega) fun k hk=>by have:=(hoA.lt k hk).1;have:=HGG.out;omega
    have HS4:=Lib.hid (And.intro hS4 (And.intro ((hgrow.block _ (hA.blk HS3.out.2.1).lt (own_ne hoA (by omega))).trans (hA.blk HS3.out.2.1)) ((hgrow.block _ (hA.blk HS3.out.2.2).lt (own_ne hoA (by omega))).trans (hA.blk HS3.out.2.2))))
    have HLE:(M++[p]).length=M.length+1:=by simp
    have HO4:Hid (w'.ownsRow (G+2) 36 2 (.slice ao' (M.length+1) co') (metL a b H (k+1)).length ((metL a b H (k+1)).flatMap ptV)):=by
     show World.ownsRow _ _ _ _ _ _ _
     rw[HE.out,List.flatMap_append,List.length_append]
     exact hown
    have hs4:G+2≤w'.heap.size:=Nat.le_trans hs3 (Nat.le_trans hA.size hgrow.size)
    clear hown hgrow hA hoA HS3 HO3 hs3 c0 c1 HI HZ hS4
    go_wp2_with fail
    go_roundw
    case rel=>exact⟨k+1,by omega,by go_num,HS4,HO4,hs4⟩
    case measure=>simp[intOf];omega
  ·obtain rfl:k=n:=by omega
   have hz:decide ((k:Int)<(k:Int))=false:=by rw[decide_eq_false_iff_not];omega
   have HE:Hid (metL a b H k=H.filter (metB a b)):=by show _=_;unfold metL;rw[HN.out,List.take_length]
   obtain⟨m,HM⟩:∃ m,Hid (m=(metL a b H k).length):=⟨_,rfl⟩
   have hm0:0<m:=by rw[HM.out,HE.out];exact List.length_pos_iff.2 HNE.out
   rw[← HM.out] at HO hml ⊢
   obtain⟨gg,cc,hgc⟩:=own_some HO.out hm0
   injection hgc with h1 _ h2
   subst h1 h2
   have hB:=(HO.out.lt gg rfl).1
   have HSO:=Lib.hid (dir_sort HA.out.1 HA.out.2 G (G+1) gg cr m (G+2) (metL a b H k) wr HO.out HM.out (by omega) (fun p hp=>by rw[HE.out] at hp;exact HH.out p (List.mem_filter.1 hp).1) HS.out.2.1 HS.out.2.2 (by omega) (by omega))
   clear HO
   go_wp2_with fail
   refine(HSO.out).mono ?_
   rintro e w3 ⟨rfl,hso,l,hpl,hsl,ho⟩
   have HS3:=Lib.hid (Only.since HS.out.1 hso (by have:=HGG.out;omega))
   have HT:Hid (Thru a b H l):=⟨by rw[← HE.out];exact hpl,hsl⟩
   have HLL:Hid (l.length=m):=hpl.length_eq.trans HM.out.symm
   have HO3:=Lib.hid ho
   clear ho hso hsl hpl HSO HS
   go_wp2_with fail
   go_ret
   refine⟨_,l,rfl,HT.out,?_,HS3.out⟩
   rw[HLL.out]
   exact HO3.out.mono (by have:=HGG.out;omega)
end
end Go.Proofs.YtdnccjdlmepafaaGreat
