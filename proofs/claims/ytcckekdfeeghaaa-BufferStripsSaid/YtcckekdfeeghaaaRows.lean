/-
  No cell of these rows narrows 'for every input' (looked for: loops, veiled, ifaces, maps, wideKeys, modest, calm, conditions, laid).
  DERIVED. THE GIVEN ROWS OF THIS SEAT. 10 by the template 'for every input the law returns true; each argument reads behind the call as it read before'; 0 by the template 'total and deterministic' (their statements: YtcckekdfeeghaaaTotals.lean).
  GIVEN WITH THE SEED: the statements are not yours to turn. If you find one false, say at which input.
  Laid BY PROGRAM, IN A SANDBOX (cutbox-rows.mjs): the forced cells as the released guide's own fill.sh prints them over the translation 42d93b77afb5fdeb… (all of the seat's roots in one cut). By AI agents, Wed Nov 11 2026. No macro, syntax, notation, axiom, sorry.
-/
import Derived.Test.YtcckekdfeeghaaaChecked
import GoSem.Claim
import GoSem.ClaimJoined
import GoSem.ClaimMapViews
import Derived.JoinedTies
import Derived.KernelRfl
namespace Go.Proofs.Ytcckekdfeeghaaa
/- THE CELL 'sum', in the pinned program and in every row, IS THE sha256 OF THE DUMP (.gsa) THAT YtcckekdfeeghaaaProg.lean LOADS. Nothing in Lean hashes anything: it is a label: what it is worth is what the hold of that sum in a sandbox is worth. -/
noncomputable def Try.pinned : Pinned := { name := "ytcckekdfeeghaaa", sum := "42d93b77afb5fdebb54711823f327089e3d48ee1095cd1d630b0fc06df9763ad", checked := Try.checked }
namespace Rows
def none {H : Type} : Left H := { results := [], args := [] }

/-- 'terrlaw3.HotMeets': WHATEVER THE INPUT: true; the input reads as it did. -/
def hotMeetsSpec : ChangeSpec := { name := "hotMeets", fn := fun _ => fun
  | [d1, d2, d3] => { results := [.lit (.bool true)], args := [d1, d2, d3] }
  | _ => none }
def hotMeetsRow : OpenClaim := { program := "ytcckekdfeeghaaa", sum := "42d93b77afb5fdebb54711823f327089e3d48ee1095cd1d630b0fc06df9763ad", func := "terrier/terrlaw3.HotMeets", spec := "hotMeets", unfollowed := true, recurses := true, plainKeys := false, apart := false }
def HotMeetsSaid : Prop := hotMeetsRow.holds Try.pinned (OpenSpec.ofChange hotMeetsSpec)

/-- ITS FALSE NEIGHBOUR: 'it returns false'. Refute it at one input. -/
def hotMeetsWrong : ChangeSpec := { name := "hotMeets", fn := fun _ => fun
  | [d1, d2, d3] => { results := [.lit (.bool false)], args := [d1, d2, d3] }
  | _ => none }
def HotMeetsWrongFalsely : Prop := hotMeetsRow.holds Try.pinned (OpenSpec.ofChange hotMeetsWrong)

/-- 'terrkeep3.ClipWithin': WHATEVER THE INPUT: true; the input reads as it did. -/
def clipWithinSpec : ChangeSpec := { name := "clipWithin", fn := fun _ => fun
  | [d1, d2] => { results := [.lit (.bool true)], args := [d1, d2] }
  | _ => none }
def clipWithinRow : OpenClaim := { program := "ytcckekdfeeghaaa", sum := "42d93b77afb5fdebb54711823f327089e3d48ee1095cd1d630b0fc06df9763ad", func := "terrier/terrkeep3.ClipWithin", spec := "clipWithin", unfollowed := true, recurses := true, plainKeys := false, apart := false }
def ClipWithinSaid : Prop := clipWithinRow.holds Try.pinned (OpenSpec.ofChange clipWithinSpec)

/-- ITS FALSE NEIGHBOUR: 'it returns false'. Refute it at one input. -/
def clipWithinWrong : ChangeSpec := { name := "clipWithin", fn := fun _ => fun
  | [d1, d2] => { results := [.lit (.bool false)], args := [d1, d2] }
  | _ => none }
def ClipWithinWrongFalsely : Prop := clipWithinRow.holds Try.pinned (OpenSpec.ofChange clipWithinWrong)

/-- 'terrkeep3.ClipWhole': WHATEVER THE INPUT: true; the input reads as it did. -/
def clipWholeSpec : ChangeSpec := { name := "clipWhole", fn := fun _ => fun
  | [d1, d2] => { results := [.lit (.bool true)], args := [d1, d2] }
  | _ => none }
def clipWholeRow : OpenClaim := { program := "ytcckekdfeeghaaa", sum := "42d93b77afb5fdebb54711823f327089e3d48ee1095cd1d630b0fc06df9763ad", func := "terrier/terrkeep3.ClipWhole", spec := "clipWhole", unfollowed := true, recurses := true, plainKeys := false, apart := false }
def ClipWholeSaid : Prop := clipWholeRow.holds Try.pinned (OpenSpec.ofChange clipWholeSpec)

/-- ITS FALSE NEIGHBOUR: 'it returns false'. Refute it at one input. -/
def clipWholeWrong : ChangeSpec := { name := "clipWhole", fn := fun _ => fun
  | [d1, d2] => { results := [.lit (.bool false)], args := [d1, d2] }
  | _ => none }
def ClipWholeWrongFalsely : Prop := clipWholeRow.holds Try.pinned (OpenSpec.ofChange clipWholeWrong)

/-- 'terrkeep3.ClipTurned': WHATEVER THE INPUT: true; the input reads as it did. -/
def clipTurnedSpec : ChangeSpec := { name := "clipTurned", fn := fun _ => fun
  | [d1, d2, d3] => { results := [.lit (.bool true)], args := [d1, d2, d3] }
  | _ => none }
def clipTurnedRow : OpenClaim := { program := "ytcckekdfeeghaaa", sum := "42d93b77afb5fdebb54711823f327089e3d48ee1095cd1d630b0fc06df9763ad", func := "terrier/terrkeep3.ClipTurned", spec := "clipTurned", unfollowed := true, recurses := true, plainKeys := false, apart := false }
def ClipTurnedSaid : Prop := clipTurnedRow.holds Try.pinned (OpenSpec.ofChange clipTurnedSpec)

/-- ITS FALSE NEIGHBOUR: 'it returns false'. Refute it at one input. -/
def clipTurnedWrong : ChangeSpec := { name := "clipTurned", fn := fun _ => fun
  | [d1, d2, d3] => { results := [.lit (.bool false)], args := [d1, d2, d3] }
  | _ => none }
def ClipTurnedWrongFalsely : Prop := clipTurnedRow.holds Try.pinned (OpenSpec.ofChange clipTurnedWrong)

/-- 'terrlaw3.ClipSegments': WHATEVER THE INPUT: true; the input reads as it did. -/
def clipSegmentsSpec : ChangeSpec := { name := "clipSegments", fn := fun _ => fun
  | [d1, d2, d3] => { results := [.lit (.bool true)], args := [d1, d2, d3] }
  | _ => none }
def clipSegmentsRow : OpenClaim := { program := "ytcckekdfeeghaaa", sum := "42d93b77afb5fdebb54711823f327089e3d48ee1095cd1d630b0fc06df9763ad", func := "terrier/terrlaw3.ClipSegments", spec := "clipSegments", unfollowed := true, recurses := true, named := ["math/bits.divideError", "math/bits.overflowError"], plainKeys := false, apart := false }
def ClipSegmentsSaid : Prop := clipSegmentsRow.holds Try.pinned (OpenSpec.ofChange clipSegmentsSpec)

/-- ITS FALSE NEIGHBOUR: 'it returns false'. Refute it at one input. -/
def clipSegmentsWrong : ChangeSpec := { name := "clipSegments", fn := fun _ => fun
  | [d1, d2, d3] => { results := [.lit (.bool false)], args := [d1, d2, d3] }
  | _ => none }
def ClipSegmentsWrongFalsely : Prop := clipSegmentsRow.holds Try.pinned (OpenSpec.ofChange clipSegmentsWrong)

/-- 'terrlaw3.ClipLines': WHATEVER THE INPUT: true; the input reads as it did. -/
def clipLinesSpec : ChangeSpec := { name := "clipLines", fn := fun _ => fun
  | [d1, d2] => { results := [.lit (.bool true)], args := [d1, d2] }
  | _ => none }
def clipLinesRow : OpenClaim := { program := "ytcckekdfeeghaaa", sum := "42d93b77afb5fdebb54711823f327089e3d48ee1095cd1d630b0fc06df9763ad", func := "terrier/terrlaw3.ClipLines", spec := "clipLines", unfollowed := true, recurses := true, named := ["math/bits.divideError", "math/bits.overflowError"], plainKeys := false, apart := false }
def ClipLinesSaid : Prop := clipLinesRow.holds Try.pinned (OpenSpec.ofChange clipLinesSpec)

/-- ITS FALSE NEIGHBOUR: 'it returns false'. Refute it at one input. -/
def clipLinesWrong : ChangeSpec := { name := "clipLines", fn := fun _ => fun
  | [d1, d2] => { results := [.lit (.bool false)], args := [d1, d2] }
  | _ => none }
def ClipLinesWrongFalsely : Prop := clipLinesRow.holds Try.pinned (OpenSpec.ofChange clipLinesWrong)

/-- 'terrkeep3.BufferNear': WHATEVER THE INPUT: true; the input reads as it did. -/
def bufferNearSpec : ChangeSpec := { name := "bufferNear", fn := fun _ => fun
  | [d1, d2, d3, d4, d5] => { results := [.lit (.bool true)], args := [d1, d2, d3, d4, d5] }
  | _ => none }
def bufferNearRow : OpenClaim := { program := "ytcckekdfeeghaaa", sum := "42d93b77afb5fdebb54711823f327089e3d48ee1095cd1d630b0fc06df9763ad", func := "terrier/terrkeep3.BufferNear", spec := "bufferNear", unfollowed := true, recurses := true, plainKeys := false, apart := false }
def BufferNearSaid : Prop := bufferNearRow.holds Try.pinned (OpenSpec.ofChange bufferNearSpec)

/-- ITS FALSE NEIGHBOUR: 'it returns false'. Refute it at one input. -/
def bufferNearWrong : ChangeSpec := { name := "bufferNear", fn := fun _ => fun
  | [d1, d2, d3, d4, d5] => { results := [.lit (.bool false)], args := [d1, d2, d3, d4, d5] }
  | _ => none }
def BufferNearWrongFalsely : Prop := bufferNearRow.holds Try.pinned (OpenSpec.ofChange bufferNearWrong)

/-- 'terrlaw3.BufferCorners': WHATEVER THE INPUT: true; the input reads as it did. -/
def bufferCornersSpec : ChangeSpec := { name := "bufferCorners", fn := fun _ => fun
  | [d1, d2, d3] => { results := [.lit (.bool true)], args := [d1, d2, d3] }
  | _ => none }
def bufferCornersRow : OpenClaim := { program := "ytcckekdfeeghaaa", sum := "42d93b77afb5fdebb54711823f327089e3d48ee1095cd1d630b0fc06df9763ad", func := "terrier/terrlaw3.BufferCorners", spec := "bufferCorners", unfollowed := true, recurses := true, plainKeys := false, apart := false }
def BufferCornersSaid : Prop := bufferCornersRow.holds Try.pinned (OpenSpec.ofChange bufferCornersSpec)

/-- ITS FALSE NEIGHBOUR: 'it returns false'. Refute it at one input. -/
def bufferCornersWrong : ChangeSpec := { name := "bufferCorners", fn := fun _ => fun
  | [d1, d2, d3] => { results := [.lit (.bool false)], args := [d1, d2, d3] }
  | _ => none }
def BufferCornersWrongFalsely : Prop := bufferCornersRow.holds Try.pinned (OpenSpec.ofChange bufferCornersWrong)

/-- 'terrkeep3.BufferStrips': WHATEVER THE INPUT: true; the input reads as it did. -/
def bufferStripsSpec : ChangeSpec := { name := "bufferStrips", fn := fun _ => fun
  | [d1, d2, d3] => { results := [.lit (.bool true)], args := [d1, d2, d3] }
  | _ => none }
def bufferStripsRow : OpenClaim := { program := "ytcckekdfeeghaaa", sum := "42d93b77afb5fdebb54711823f327089e3d48ee1095cd1d630b0fc06df9763ad", func := "terrier/terrkeep3.BufferStrips", spec := "bufferStrips", unfollowed := true, recurses := true, plainKeys := false, apart := false }
def BufferStripsSaid : Prop := bufferStripsRow.holds Try.pinned (OpenSpec.ofChange bufferStripsSpec)

/-- ITS FALSE NEIGHBOUR: 'it returns false'. Refute it at one input. -/
def bufferStripsWrong : ChangeSpec := { name := "bufferStrips", fn := fun _ => fun
  | [d1, d2, d3] => { results := [.lit (.bool false)], args := [d1, d2, d3] }
  | _ => none }
def BufferStripsWrongFalsely : Prop := bufferStripsRow.holds Try.pinned (OpenSpec.ofChange bufferStripsWrong)

/-- 'terrlaw3.ArrLines': WHATEVER THE INPUT: true; the input reads as it did. -/
def arrLinesSpec : ChangeSpec := { name := "arrLines", fn := fun _ => fun
  | [d] => { results := [.lit (.bool true)], args := [d] }
  | _ => none }
def arrLinesRow : OpenClaim := { program := "ytcckekdfeeghaaa", sum := "42d93b77afb5fdebb54711823f327089e3d48ee1095cd1d630b0fc06df9763ad", func := "terrier/terrlaw3.ArrLines", spec := "arrLines", unfollowed := true, recurses := true, plainKeys := false, apart := false }
def ArrLinesSaid : Prop := arrLinesRow.holds Try.pinned (OpenSpec.ofChange arrLinesSpec)

/-- ITS FALSE NEIGHBOUR: 'it returns false'. Refute it at one input. -/
def arrLinesWrong : ChangeSpec := { name := "arrLines", fn := fun _ => fun
  | [d] => { results := [.lit (.bool false)], args := [d] }
  | _ => none }
def ArrLinesWrongFalsely : Prop := arrLinesRow.holds Try.pinned (OpenSpec.ofChange arrLinesWrong)

/- THE SECOND FORM. 'bulk': how many values and letters a reading holds, each counted each time it is reached (what is shared counts as often as it is met; a slice's spare places count too). A statement '..UptoSaid' is the law's where the arguments, and the package variables that the reading takes, are together of bulk at most 1048576: NARROWER than '..Said'. Prove '..Said' where nothing that the law and all that it calls make is longer than what came in: it says more and counts as full. Else prove '..UptoSaid'. A law counts once. -/
mutual
def uptoBulk {H : Type} : DataW H → Nat
  | .lit (.string bytes) => bytes.length + 1
  | .lit _ => 1
  | .nil => 1
  | .ptr d => uptoBulk d + 1
  | .slice elems spare => uptoBulkAll elems + uptoBulkAll spare + 1
  | .agg parts => uptoBulkAll parts + 1
  | .iface _ d => uptoBulk d + 1
  | .map entries => uptoBulkEntries entries + 1
  | .held _ => 1
def uptoBulkAll {H : Type} : List (DataW H) → Nat
  | [] => 0
  | d :: r => uptoBulk d + uptoBulkAll r
def uptoBulkEntries {H : Type} : List (Lit × DataW H) → Nat
  | [] => 0
  | x :: r => uptoBulkEntry x + uptoBulkEntries r
def uptoBulkEntry {H : Type} : Lit × DataW H → Nat
  | (.string bytes, d) => bytes.length + uptoBulk d + 1
  | (_, d) => uptoBulk d + 1
 end
def uptoSmall : (H : Type) → List (DataW H) → Bool := fun _ ds => decide (uptoBulkAll ds ≤ 1048576)
def OpenSpec.upto (s : _root_.Go.ChangeSpec) : _root_.Go.OpenSpec := { _root_.Go.OpenSpec.ofChange s with cond := some uptoSmall }

/-- 'terrlaw3.HotMeets', WHERE WHAT IT READS IS OF BULK AT MOST 1048576: true; the input reads as it did. -/
def hotMeetsUptoRow : OpenClaim := { program := "ytcckekdfeeghaaa", sum := "42d93b77afb5fdebb54711823f327089e3d48ee1095cd1d630b0fc06df9763ad", func := "terrier/terrlaw3.HotMeets", spec := "hotMeets", unfollowed := true, recurses := true, plainKeys := false, apart := false, narrowed := true }
def HotMeetsUptoSaid : Prop := hotMeetsUptoRow.holds Try.pinned (OpenSpec.upto hotMeetsSpec)

/-- 'terrkeep3.ClipWithin', WHERE WHAT IT READS IS OF BULK AT MOST 1048576: true; the input reads as it did. -/
def clipWithinUptoRow : OpenClaim := { program := "ytcckekdfeeghaaa", sum := "42d93b77afb5fdebb54711823f327089e3d48ee1095cd1d630b0fc06df9763ad", func := "terrier/terrkeep3.ClipWithin", spec := "clipWithin", unfollowed := true, recurses := true, plainKeys := false, apart := false, narrowed := true }
def ClipWithinUptoSaid : Prop := clipWithinUptoRow.holds Try.pinned (OpenSpec.upto clipWithinSpec)

/-- 'terrkeep3.ClipWhole', WHERE WHAT IT READS IS OF BULK AT MOST 1048576: true; the input reads as it did. -/
def clipWholeUptoRow : OpenClaim := { program := "ytcckekdfeeghaaa", sum := "42d93b77afb5fdebb54711823f327089e3d48ee1095cd1d630b0fc06df9763ad", func := "terrier/terrkeep3.ClipWhole", spec := "clipWhole", unfollowed := true, recurses := true, plainKeys := false, apart := false, narrowed := true }
def ClipWholeUptoSaid : Prop := clipWholeUptoRow.holds Try.pinned (OpenSpec.upto clipWholeSpec)

/-- 'terrkeep3.ClipTurned', WHERE WHAT IT READS IS OF BULK AT MOST 1048576: true; the input reads as it did. -/
def clipTurnedUptoRow : OpenClaim := { program := "ytcckekdfeeghaaa", sum := "42d93b77afb5fdebb54711823f327089e3d48ee1095cd1d630b0fc06df9763ad", func := "terrier/terrkeep3.ClipTurned", spec := "clipTurned", unfollowed := true, recurses := true, plainKeys := false, apart := false, narrowed := true }
def ClipTurnedUptoSaid : Prop := clipTurnedUptoRow.holds Try.pinned (OpenSpec.upto clipTurnedSpec)

/-- 'terrlaw3.ClipSegments', WHERE WHAT IT READS IS OF BULK AT MOST 1048576: true; the input reads as it did. -/
def clipSegmentsUptoRow : OpenClaim := { program := "ytcckekdfeeghaaa", sum := "42d93b77afb5fdebb54711823f327089e3d48ee1095cd1d630b0fc06df9763ad", func := "terrier/terrlaw3.ClipSegments", spec := "clipSegments", unfollowed := true, recurses := true, named := ["math/bits.divideError", "math/bits.overflowError"], plainKeys := false, apart := false, narrowed := true }
def ClipSegmentsUptoSaid : Prop := clipSegmentsUptoRow.holds Try.pinned (OpenSpec.upto clipSegmentsSpec)

/-- 'terrlaw3.ClipLines', WHERE WHAT IT READS IS OF BULK AT MOST 1048576: true; the input reads as it did. -/
def clipLinesUptoRow : OpenClaim := { program := "ytcckekdfeeghaaa", sum := "42d93b77afb5fdebb54711823f327089e3d48ee1095cd1d630b0fc06df9763ad", func := "terrier/terrlaw3.ClipLines", spec := "clipLines", unfollowed := true, recurses := true, named := ["math/bits.divideError", "math/bits.overflowError"], plainKeys := false, apart := false, narrowed := true }
def ClipLinesUptoSaid : Prop := clipLinesUptoRow.holds Try.pinned (OpenSpec.upto clipLinesSpec)

/-- 'terrkeep3.BufferNear', WHERE WHAT IT READS IS OF BULK AT MOST 1048576: true; the input reads as it did. -/
def bufferNearUptoRow : OpenClaim := { program := "ytcckekdfeeghaaa", sum := "42d93b77afb5fdebb54711823f327089e3d48ee1095cd1d630b0fc06df9763ad", func := "terrier/terrkeep3.BufferNear", spec := "bufferNear", unfollowed := true, recurses := true, plainKeys := false, apart := false, narrowed := true }
def BufferNearUptoSaid : Prop := bufferNearUptoRow.holds Try.pinned (OpenSpec.upto bufferNearSpec)

/-- 'terrlaw3.BufferCorners', WHERE WHAT IT READS IS OF BULK AT MOST 1048576: true; the input reads as it did. -/
def bufferCornersUptoRow : OpenClaim := { program := "ytcckekdfeeghaaa", sum := "42d93b77afb5fdebb54711823f327089e3d48ee1095cd1d630b0fc06df9763ad", func := "terrier/terrlaw3.BufferCorners", spec := "bufferCorners", unfollowed := true, recurses := true, plainKeys := false, apart := false, narrowed := true }
def BufferCornersUptoSaid : Prop := bufferCornersUptoRow.holds Try.pinned (OpenSpec.upto bufferCornersSpec)

/-- 'terrkeep3.BufferStrips', WHERE WHAT IT READS IS OF BULK AT MOST 1048576: true; the input reads as it did. -/
def bufferStripsUptoRow : OpenClaim := { program := "ytcckekdfeeghaaa", sum := "42d93b77afb5fdebb54711823f327089e3d48ee1095cd1d630b0fc06df9763ad", func := "terrier/terrkeep3.BufferStrips", spec := "bufferStrips", unfollowed := true, recurses := true, plainKeys := false, apart := false, narrowed := true }
def BufferStripsUptoSaid : Prop := bufferStripsUptoRow.holds Try.pinned (OpenSpec.upto bufferStripsSpec)

/-- 'terrlaw3.ArrLines', WHERE WHAT IT READS IS OF BULK AT MOST 1048576: true; the input reads as it did. -/
def arrLinesUptoRow : OpenClaim := { program := "ytcckekdfeeghaaa", sum := "42d93b77afb5fdebb54711823f327089e3d48ee1095cd1d630b0fc06df9763ad", func := "terrier/terrlaw3.ArrLines", spec := "arrLines", unfollowed := true, recurses := true, plainKeys := false, apart := false, narrowed := true }
def ArrLinesUptoSaid : Prop := arrLinesUptoRow.holds Try.pinned (OpenSpec.upto arrLinesSpec)

end Rows
end Go.Proofs.Ytcckekdfeeghaaa
