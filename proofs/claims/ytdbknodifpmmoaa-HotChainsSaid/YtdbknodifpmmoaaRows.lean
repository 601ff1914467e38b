/-
  No cell of these rows narrows 'for every input' (looked for: loops, veiled, ifaces, maps, wideKeys, modest, calm, conditions, laid).
  DERIVED. THE GIVEN ROWS OF THIS SEAT. 7 by the template 'for every input the law returns true; each argument reads behind the call as it read before'; 0 by the template 'total and deterministic' (their statements: YtdbknodifpmmoaaTotals.lean).
  GIVEN WITH THE SEED: the statements are not yours to turn. If you find one false, say at which input.
  Laid BY PROGRAM, IN A SANDBOX (cutbox-rows.mjs): the forced cells as the released guide's own fill.sh prints them over the translation 22a5902a12506380… (all of the seat's roots in one cut). By AI agents, Wed Nov 11 2026. No macro, syntax, notation, axiom, sorry.
-/
import Derived.Test.YtdbknodifpmmoaaChecked
import GoSem.Claim
import GoSem.ClaimJoined
import GoSem.ClaimMapViews
import Derived.JoinedTies
import Derived.KernelRfl
namespace Go.Proofs.Ytdbknodifpmmoaa
/- THE CELL 'sum', in the pinned program and in every row, IS THE sha256 OF THE DUMP (.gsa) THAT YtdbknodifpmmoaaProg.lean LOADS. Nothing in Lean hashes anything: it is a label: what it is worth is what the hold of that sum in a sandbox is worth. -/
noncomputable def Try.pinned : Pinned := { name := "ytdbknodifpmmoaa", sum := "22a5902a125063804f65abf7fb5145a668ea580cefbdcf72455026f2e5d81c04", checked := Try.checked }
namespace Rows
def none {H : Type} : Left H := { results := [], args := [] }

/-- 'terrkeep3.HotExact': WHATEVER THE INPUT: true; the input reads as it did. -/
def hotExactSpec : ChangeSpec := { name := "hotExact", fn := fun _ => fun
  | [d] => { results := [.lit (.bool true)], args := [d] }
  | _ => none }
def hotExactRow : OpenClaim := { program := "ytdbknodifpmmoaa", sum := "22a5902a125063804f65abf7fb5145a668ea580cefbdcf72455026f2e5d81c04", func := "terrier/terrkeep3.HotExact", spec := "hotExact", inPlace := ["math/bits.Add64"], unfollowed := true, recurses := true, named := ["math/bits.divideError", "math/bits.overflowError"], plainKeys := false, apart := false }
def HotExactSaid : Prop := hotExactRow.holds Try.pinned (OpenSpec.ofChange hotExactSpec)

/-- ITS FALSE NEIGHBOUR: 'it returns false'. Refute it at one input. -/
def hotExactWrong : ChangeSpec := { name := "hotExact", fn := fun _ => fun
  | [d] => { results := [.lit (.bool false)], args := [d] }
  | _ => none }
def HotExactWrongFalsely : Prop := hotExactRow.holds Try.pinned (OpenSpec.ofChange hotExactWrong)

/-- 'terrkeep3.HotOrder': WHATEVER THE INPUT: true; the input reads as it did. -/
def hotOrderSpec : ChangeSpec := { name := "hotOrder", fn := fun _ => fun
  | [d1, d2] => { results := [.lit (.bool true)], args := [d1, d2] }
  | _ => none }
def hotOrderRow : OpenClaim := { program := "ytdbknodifpmmoaa", sum := "22a5902a125063804f65abf7fb5145a668ea580cefbdcf72455026f2e5d81c04", func := "terrier/terrkeep3.HotOrder", spec := "hotOrder", inPlace := ["math/bits.Add64"], unfollowed := true, recurses := true, named := ["math/bits.divideError", "math/bits.overflowError"], plainKeys := false, apart := false }
def HotOrderSaid : Prop := hotOrderRow.holds Try.pinned (OpenSpec.ofChange hotOrderSpec)

/-- ITS FALSE NEIGHBOUR: 'it returns false'. Refute it at one input. -/
def hotOrderWrong : ChangeSpec := { name := "hotOrder", fn := fun _ => fun
  | [d1, d2] => { results := [.lit (.bool false)], args := [d1, d2] }
  | _ => none }
def HotOrderWrongFalsely : Prop := hotOrderRow.holds Try.pinned (OpenSpec.ofChange hotOrderWrong)

/-- 'terrkeep3.HotChains': WHATEVER THE INPUT: true; the input reads as it did. -/
def hotChainsSpec : ChangeSpec := { name := "hotChains", fn := fun _ => fun
  | [d] => { results := [.lit (.bool true)], args := [d] }
  | _ => none }
def hotChainsRow : OpenClaim := { program := "ytdbknodifpmmoaa", sum := "22a5902a125063804f65abf7fb5145a668ea580cefbdcf72455026f2e5d81c04", func := "terrier/terrkeep3.HotChains", spec := "hotChains", inPlace := ["math/bits.Add64"], unfollowed := true, recurses := true, named := ["math/bits.divideError", "math/bits.overflowError"], plainKeys := false, apart := false }
def HotChainsSaid : Prop := hotChainsRow.holds Try.pinned (OpenSpec.ofChange hotChainsSpec)

/-- ITS FALSE NEIGHBOUR: 'it returns false'. Refute it at one input. -/
def hotChainsWrong : ChangeSpec := { name := "hotChains", fn := fun _ => fun
  | [d] => { results := [.lit (.bool false)], args := [d] }
  | _ => none }
def HotChainsWrongFalsely : Prop := hotChainsRow.holds Try.pinned (OpenSpec.ofChange hotChainsWrong)

/-- 'terrkeep3.HotApart': WHATEVER THE INPUT: true; the input reads as it did. -/
def hotApartSpec : ChangeSpec := { name := "hotApart", fn := fun _ => fun
  | [d] => { results := [.lit (.bool true)], args := [d] }
  | _ => none }
def hotApartRow : OpenClaim := { program := "ytdbknodifpmmoaa", sum := "22a5902a125063804f65abf7fb5145a668ea580cefbdcf72455026f2e5d81c04", func := "terrier/terrkeep3.HotApart", spec := "hotApart", inPlace := ["math/bits.Add64"], unfollowed := true, recurses := true, named := ["math/bits.divideError", "math/bits.overflowError"], plainKeys := false, apart := false }
def HotApartSaid : Prop := hotApartRow.holds Try.pinned (OpenSpec.ofChange hotApartSpec)

/-- ITS FALSE NEIGHBOUR: 'it returns false'. Refute it at one input. -/
def hotApartWrong : ChangeSpec := { name := "hotApart", fn := fun _ => fun
  | [d] => { results := [.lit (.bool false)], args := [d] }
  | _ => none }
def HotApartWrongFalsely : Prop := hotApartRow.holds Try.pinned (OpenSpec.ofChange hotApartWrong)

/-- 'terrkeep3.HotTwice': WHATEVER THE INPUT: true; the input reads as it did. -/
def hotTwiceSpec : ChangeSpec := { name := "hotTwice", fn := fun _ => fun
  | [d] => { results := [.lit (.bool true)], args := [d] }
  | _ => none }
def hotTwiceRow : OpenClaim := { program := "ytdbknodifpmmoaa", sum := "22a5902a125063804f65abf7fb5145a668ea580cefbdcf72455026f2e5d81c04", func := "terrier/terrkeep3.HotTwice", spec := "hotTwice", inPlace := ["math/bits.Add64"], unfollowed := true, recurses := true, named := ["math/bits.divideError", "math/bits.overflowError"], plainKeys := false, apart := false }
def HotTwiceSaid : Prop := hotTwiceRow.holds Try.pinned (OpenSpec.ofChange hotTwiceSpec)

/-- ITS FALSE NEIGHBOUR: 'it returns false'. Refute it at one input. -/
def hotTwiceWrong : ChangeSpec := { name := "hotTwice", fn := fun _ => fun
  | [d] => { results := [.lit (.bool false)], args := [d] }
  | _ => none }
def HotTwiceWrongFalsely : Prop := hotTwiceRow.holds Try.pinned (OpenSpec.ofChange hotTwiceWrong)

/-- 'terrlaw3.ArrBuilds': WHATEVER THE INPUT: true; the input reads as it did. -/
def arrBuildsSpec : ChangeSpec := { name := "arrBuilds", fn := fun _ => fun
  | [d] => { results := [.lit (.bool true)], args := [d] }
  | _ => none }
def arrBuildsRow : OpenClaim := { program := "ytdbknodifpmmoaa", sum := "22a5902a125063804f65abf7fb5145a668ea580cefbdcf72455026f2e5d81c04", func := "terrier/terrlaw3.ArrBuilds", spec := "arrBuilds", unfollowed := true, recurses := true, plainKeys := false, apart := false }
def ArrBuildsSaid : Prop := arrBuildsRow.holds Try.pinned (OpenSpec.ofChange arrBuildsSpec)

/-- ITS FALSE NEIGHBOUR: 'it returns false'. Refute it at one input. -/
def arrBuildsWrong : ChangeSpec := { name := "arrBuilds", fn := fun _ => fun
  | [d] => { results := [.lit (.bool false)], args := [d] }
  | _ => none }
def ArrBuildsWrongFalsely : Prop := arrBuildsRow.holds Try.pinned (OpenSpec.ofChange arrBuildsWrong)

/-- 'terrlaw3.HalfChecks': WHATEVER THE INPUT: true; the input reads as it did. -/
def halfChecksSpec : ChangeSpec := { name := "halfChecks", fn := fun _ => fun
  | [d1, d2] => { results := [.lit (.bool true)], args := [d1, d2] }
  | _ => none }
def halfChecksRow : OpenClaim := { program := "ytdbknodifpmmoaa", sum := "22a5902a125063804f65abf7fb5145a668ea580cefbdcf72455026f2e5d81c04", func := "terrier/terrlaw3.HalfChecks", spec := "halfChecks", unfollowed := true, recurses := true, plainKeys := false, apart := false }
def HalfChecksSaid : Prop := halfChecksRow.holds Try.pinned (OpenSpec.ofChange halfChecksSpec)

/-- ITS FALSE NEIGHBOUR: 'it returns false'. Refute it at one input. -/
def halfChecksWrong : ChangeSpec := { name := "halfChecks", fn := fun _ => fun
  | [d1, d2] => { results := [.lit (.bool false)], args := [d1, d2] }
  | _ => none }
def HalfChecksWrongFalsely : Prop := halfChecksRow.holds Try.pinned (OpenSpec.ofChange halfChecksWrong)

/- THE SECOND FORM. 'bulk': how many values and letters a reading holds, each counted each time it is reached (what is shared counts as often as it is met; a slice's spare places count too). A statement '..UptoSaid' is the law's where the arguments, and the package variables that the reading takes, are together of bulk at most 1048576: NARROWER than '..Said'. Prove '..Said' where nothing that the law and all that it calls make is longer than what came in: it says more and counts as full. Else prove '..UptoSaid'. A law counts once. -/
mutual
def uptoBulk {H : Type} : DataW H → Nat
  | .lit (.string bytes) => bytes.length + 1
  | .lit _ => 1
  | .nil => 1
  | .ptr d => uptoBulk d + 1
  | .slice elems spare => uptoBulkAll elems + uptoBulkAll spare + 1
  | .agg parts => uptoBulkAll parts + 1
  | .iface _ d => uptoBulk d + 1
  | .map entries => uptoBulkEntries entries + 1
  | .held _ => 1
def uptoBulkAll {H : Type} : List (DataW H) → Nat
  | [] => 0
  | d :: r => uptoBulk d + uptoBulkAll r
def uptoBulkEntries {H : Type} : List (Lit × DataW H) → Nat
  | [] => 0
  | x :: r => uptoBulkEntry x + uptoBulkEntries r
def uptoBulkEntry {H : Type} : Lit × DataW H → Nat
  | (.string bytes, d) => bytes.length + uptoBulk d + 1
  | (_, d) => uptoBulk d + 1
 end
def uptoSmall : (H : Type) → List (DataW H) → Bool := fun _ ds => decide (uptoBulkAll ds ≤ 1048576)
def OpenSpec.upto (s : _root_.Go.ChangeSpec) : _root_.Go.OpenSpec := { _root_.Go.OpenSpec.ofChange s with cond := some uptoSmall }

/-- 'terrkeep3.HotExact', WHERE WHAT IT READS IS OF BULK AT MOST 1048576: true; the input reads as it did. -/
def hotExactUptoRow : OpenClaim := { program := "ytdbknodifpmmoaa", sum := "22a5902a125063804f65abf7fb5145a668ea580cefbdcf72455026f2e5d81c04", func := "terrier/terrkeep3.HotExact", spec := "hotExact", inPlace := ["math/bits.Add64"], unfollowed := true, recurses := true, named := ["math/bits.divideError", "math/bits.overflowError"], plainKeys := false, apart := false, narrowed := true }
def HotExactUptoSaid : Prop := hotExactUptoRow.holds Try.pinned (OpenSpec.upto hotExactSpec)

/-- 'terrkeep3.HotOrder', WHERE WHAT IT READS IS OF BULK AT MOST 1048576: true; the input reads as it did. -/
def hotOrderUptoRow : OpenClaim := { program := "ytdbknodifpmmoaa", sum := "22a5902a125063804f65abf7fb5145a668ea580cefbdcf72455026f2e5d81c04", func := "terrier/terrkeep3.HotOrder", spec := "hotOrder", inPlace := ["math/bits.Add64"], unfollowed := true, recurses := true, named := ["math/bits.divideError", "math/bits.overflowError"], plainKeys := false, apart := false, narrowed := true }
def HotOrderUptoSaid : Prop := hotOrderUptoRow.holds Try.pinned (OpenSpec.upto hotOrderSpec)

/-- 'terrkeep3.HotChains', WHERE WHAT IT READS IS OF BULK AT MOST 1048576: true; the input reads as it did. -/
def hotChainsUptoRow : OpenClaim := { program := "ytdbknodifpmmoaa", sum := "22a5902a125063804f65abf7fb5145a668ea580cefbdcf72455026f2e5d81c04", func := "terrier/terrkeep3.HotChains", spec := "hotChains", inPlace := ["math/bits.Add64"], unfollowed := true, recurses := true, named := ["math/bits.divideError", "math/bits.overflowError"], plainKeys := false, apart := false, narrowed := true }
def HotChainsUptoSaid : Prop := hotChainsUptoRow.holds Try.pinned (OpenSpec.upto hotChainsSpec)

/-- 'terrkeep3.HotApart', WHERE WHAT IT READS IS OF BULK AT MOST 1048576: true; the input reads as it did. -/
def hotApartUptoRow : OpenClaim := { program := "ytdbknodifpmmoaa", sum := "22a5902a125063804f65abf7fb5145a668ea580cefbdcf72455026f2e5d81c04", func := "terrier/terrkeep3.HotApart", spec := "hotApart", inPlace := ["math/bits.Add64"], unfollowed := true, recurses := true, named := ["math/bits.divideError", "math/bits.overflowError"], plainKeys := false, apart := false, narrowed := true }
def HotApartUptoSaid : Prop := hotApartUptoRow.holds Try.pinned (OpenSpec.upto hotApartSpec)

/-- 'terrkeep3.HotTwice', WHERE WHAT IT READS IS OF BULK AT MOST 1048576: true; the input reads as it did. -/
def hotTwiceUptoRow : OpenClaim := { program := "ytdbknodifpmmoaa", sum := "22a5902a125063804f65abf7fb5145a668ea580cefbdcf72455026f2e5d81c04", func := "terrier/terrkeep3.HotTwice", spec := "hotTwice", inPlace := ["math/bits.Add64"], unfollowed := true, recurses := true, named := ["math/bits.divideError", "math/bits.overflowError"], plainKeys := false, apart := false, narrowed := true }
def HotTwiceUptoSaid : Prop := hotTwiceUptoRow.holds Try.pinned (OpenSpec.upto hotTwiceSpec)

/-- 'terrlaw3.ArrBuilds', WHERE WHAT IT READS IS OF BULK AT MOST 1048576: true; the input reads as it did. -/
def arrBuildsUptoRow : OpenClaim := { program := "ytdbknodifpmmoaa", sum := "22a5902a125063804f65abf7fb5145a668ea580cefbdcf72455026f2e5d81c04", func := "terrier/terrlaw3.ArrBuilds", spec := "arrBuilds", unfollowed := true, recurses := true, plainKeys := false, apart := false, narrowed := true }
def ArrBuildsUptoSaid : Prop := arrBuildsUptoRow.holds Try.pinned (OpenSpec.upto arrBuildsSpec)

/-- 'terrlaw3.HalfChecks', WHERE WHAT IT READS IS OF BULK AT MOST 1048576: true; the input reads as it did. -/
def halfChecksUptoRow : OpenClaim := { program := "ytdbknodifpmmoaa", sum := "22a5902a125063804f65abf7fb5145a668ea580cefbdcf72455026f2e5d81c04", func := "terrier/terrlaw3.HalfChecks", spec := "halfChecks", unfollowed := true, recurses := true, plainKeys := false, apart := false, narrowed := true }
def HalfChecksUptoSaid : Prop := halfChecksUptoRow.holds Try.pinned (OpenSpec.upto halfChecksSpec)

end Rows
end Go.Proofs.Ytdbknodifpmmoaa
