/-
  A row of marks ([]bool) beside a subdivision, in memory. Conditions: none.
-/
import Derived.Test.YtdnccjdlmepafaaGreatLHSeen
set_option linter.unusedSimpArgs false
set_option linter.unusedVariables false
set_option linter.constructorNameAsVariable false
namespace Go.Proofs.YtdnccjdlmepafaaGreat
open Go.RowKit Go.BigFrame
theorem infoBo:(Tryz.prog.info? 4).map (fun i=>(i.zero,i.size,i.bytes))=some (some (.bool false),1,1):=by kernel_rfl
def bV (b:Bool):Value:=.bool b
theorem rowB_cell {w:World} {B g c:Nat} {l:List Bool} (h:w.ownsRow B 4 1 (.slice (some ⟨g,0,none⟩) l.length c) l.length (l.map bV)) {j:Nat} (hj:j<l.length):w.cell? ⟨g,j,none⟩=some (.bool (bAt l j)):=by
 rw [h.cellAt j (by omega)]
 simp [bAt,bV,List.getD,hj]
theorem bndL_at (nx:Nat→Nat) (h:Nat) {k i:Nat} (hi:i<k):iAt (bndL nx h k) i=((itN nx h i:Nat):Int):=by simp [iAt,bndL,List.getD,hi]
def RdS (w:World) (B gT nH:Nat) (m:Array Value) (L:List Bool):Prop :=
 Blk w B 26 m∧B<gT∧w.ownsRow gT 4 1 (.slice (some ⟨gT,0,none⟩) nH nH) nH (L.map bV)
theorem RdS.since {w w' : World} {B gT nH:Nat} {m:Array Value} {L:List Bool} (h:RdS w B gT nH m L) (k:Since w w'):RdS w' B gT nH m L:=⟨k.blk h.1,h.2.1,own_since k h.2.2⟩
theorem RdS.cell {w:World} {B gT nH:Nat} {m:Array Value} {L:List Bool} (h:RdS w B gT nH m L) (hl:L.length=nH) {j:Nat} (hj:j<nH):w.cell? ⟨gT,j,none⟩=some (.bool (bAt L j)):=by
 have h0:w.ownsRow gT 4 1 (.slice (some ⟨gT,0,none⟩) L.length nH) L.length (L.map bV):=by rw [hl];exact h.2.2
 exact rowB_cell h0 (by omega)
theorem RdS.frozen {w:World} {B gT nH:Nat} {m:Array Value} {L:List Bool} (h:RdS w B gT nH m L) (j:Nat):w.frozen? ⟨gT,j,none⟩=false:=by
 obtain ⟨-,⟨h1,-⟩ | ⟨g1,cap,cur,h1,-,hb,-⟩⟩:=h.2.2
 ·cases h1
 injection h1 with h1
 injection h1 with h1
 injection h1 with h1
 subst h1
 exact Blk.frozen hb j
theorem RdS.store {w:World} {B gT nH:Nat} {m:Array Value} {L:List Bool} (h:RdS w B gT nH m L) {j:Nat} (hj:j<nH):RdS (w.setCell ⟨gT,j,none⟩ (.bool true)) B gT nH m (L.set j true):=by
 refine ⟨h.1.far (by have:=h.2.1;dsimp only;omega) _,h.2.1,?_⟩
 have h1:=own_setK h.2.2 (i:=j) (by omega) (.bool true)
 rw [List.map_set]
 exact h1
end Go.Proofs.YtdnccjdlmepafaaGreat
