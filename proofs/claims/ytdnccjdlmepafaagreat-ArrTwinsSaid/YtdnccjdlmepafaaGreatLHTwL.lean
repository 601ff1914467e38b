/-
  The walk of ArrTwins, for whatever list. Conditions: the argument's list.
-/
import Derived.Test.YtdnccjdlmepafaaGreatLHTwins
set_option linter.unusedSimpArgs false
set_option linter.unusedVariables false
set_option linter.constructorNameAsVariable false
namespace Go.Proofs.YtdnccjdlmepafaaGreat
theorem Twins_walkB (v:Value) (l:List Int) (w:World) (hi:IntsB w v l w.heap.size):Calls Tryz.prog 4 #[v] w fun e w' => e=.returned (.bool true)∧Since w w' :=
 Twins_walk v l w hi (by obtain ⟨a,c,-,h1,h2,-⟩:=hi;exact Nat.le_trans h1 (Nat.le_trans h2 (by decide)))
end Go.Proofs.YtdnccjdlmepafaaGreat
