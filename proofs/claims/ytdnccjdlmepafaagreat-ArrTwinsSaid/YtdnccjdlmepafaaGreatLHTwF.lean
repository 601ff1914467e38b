/-
  slices.ContainsFunc over ints that are all one, with the closure of ArrTwins: no. Conditions: bounds of the length.
-/
import Derived.Test.YtdnccjdlmepafaaGreatK27
set_option linter.unusedSimpArgs false
set_option linter.unusedVariables false
set_option linter.constructorNameAsVariable false
namespace Go.Proofs.YtdnccjdlmepafaaGreat
open Go.RowKit Go.BigFrame
set_option maxRecDepth 100000 in
theorem twin1_any (w:World):Calls Tryz.prog 14 #[.int .i64 1] w fun e w' => e=.returned (.bool false)∧Since w w' := by
 go_enter Tryz.func14,Tryz.ntmps14
 go_wp2_with fail
 go_ret
 exact ⟨rfl,Since.rfl_ w⟩
set_option maxRecDepth 100000 in
theorem IndexOne_any (v:Value) (l:List Int) (w:World) (hl:l.length≤1000000000000000) (hv:IntS w v l) (h1:∀ i,i<l.length→iAt l i=1) :
  Calls Tryz.prog 41 #[v,.func (Fn.func 14) #[] #[]] w fun e w' => e=.returned (.int .i64 (-1))∧Since w w' := by
 obtain ⟨a,c,rfl,hv⟩:=hv
 have HV:=Lib.hid hv
 have H1:=Lib.hid h1
 have HC:Hid (∀ w,Calls Tryz.prog 14 #[.int .i64 1] w fun e w' => e=.returned (.bool false)∧Since w w'):=twin1_any
 obtain ⟨n,HN⟩:∃ n,Hid (n=l.length):=⟨_,rfl⟩
 rw [← HN.out] at hl ⊢
 clear hv h1
 go_enter Tryz.func41,Tryz.ntmps41
 go_wp2_with fail
 go_loopw [8] (fun v wr=>∃ k:Nat,k≤n∧v=.int .i64 k∧Hid (Since w wr)) (fun v _=>n-(intOf v).toNat)
 case atStart=>exact ⟨0,Nat.zero_le _,rfl,Since.rfl_ w⟩
 case round =>
  obtain ⟨k,hk,rfl,HS⟩:=hrel
  rcases Nat.lt_or_ge k n with hlt | hge
  ·obtain ⟨g,o,rfl,e0⟩:=HV.out k (by rw [← HN.out];exact hlt)
   rw [H1.out k (by rw [← HN.out];exact hlt)] at e0
   replace e0:=keepC HS.out _ _ e0
   go_wp2_with fail
   refine (HC.out _).mono ?_
   rintro e w3 ⟨rfl,hs⟩
   have HS2:=Lib.hid (HS.out.trans hs)
   clear hs HS
   go_wp2_with fail
   go_roundw
   case rel=>exact ⟨k+1,by omega,by go_num,HS2⟩
   case measure=>simp [intOf];omega
  ·obtain rfl:n=k:=by omega
   go_wp2_with fail
   go_ret
   exact ⟨rfl,HS.out⟩
set_option maxRecDepth 100000 in
theorem ContainsOne_any (v:Value) (l:List Int) (w:World) (hl:l.length≤1000000000000000) (hv:IntS w v l) (h1:∀ i,i<l.length→iAt l i=1) :
  Calls Tryz.prog 13 #[v,.func (Fn.func 14) #[] #[]] w fun e w' => e=.returned (.bool false)∧Since w w' := by
 have HI:=Lib.hid (IndexOne_any v l w hl hv h1)
 obtain ⟨a,c,rfl,-⟩:=hv
 clear h1
 obtain ⟨n,HN⟩:∃ n,Hid (n=l.length):=⟨_,rfl⟩
 rw [← HN.out] at hl HI ⊢
 go_enter Tryz.func13,Tryz.ntmps13
 go_wp2_with fail
 refine (HI.out).mono ?_
 rintro e w1 ⟨rfl,hs⟩
 have HS:=Lib.hid hs
 clear hs
 go_wp2_with fail
 go_ret
 exact ⟨rfl,HS.out⟩
end Go.Proofs.YtdnccjdlmepafaaGreat
