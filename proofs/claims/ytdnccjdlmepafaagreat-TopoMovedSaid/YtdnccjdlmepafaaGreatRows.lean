/-
  No cell of these rows narrows 'for every input' (looked for: loops, veiled, ifaces, maps, wideKeys, modest, calm, conditions, laid).
  DERIVED. THE GIVEN ROWS OF THIS SEAT. 8 by the template 'for every input the law returns true; each argument reads behind the call as it read before'; 0 by the template 'total and deterministic' (their statements: YtdnccjdlmepafaaGreatTotals.lean).
  GIVEN WITH THE SEED: the statements are not yours to turn. If you find one false, say at which input.
  Laid BY PROGRAM, IN A SANDBOX (cutbox-rows.mjs): the forced cells as the released guide's own fill.sh prints them over the translation e2bc8c25174ab3ef… (all of the seat's roots in one cut). By AI agents, Wed Nov 11 2026. No macro, syntax, notation, axiom, sorry.
-/
import Derived.Test.YtdnccjdlmepafaaGreatChecked
import GoSem.Claim
import GoSem.ClaimJoined
import GoSem.ClaimMapViews
import Derived.JoinedTies
import Derived.KernelRfl
namespace Go.Proofs.YtdnccjdlmepafaaGreat
/- THE CELL 'sum', in the pinned program and in every row, IS THE sha256 OF THE DUMP (.gsa) THAT YtdnccjdlmepafaaGreatProg.lean LOADS. Nothing in Lean hashes anything: it is a label: what it is worth is what the hold of that sum in a sandbox is worth. -/
noncomputable def Tryz.pinned : Pinned := { name := "ytdnccjdlmepafaagreat", sum := "e2bc8c25174ab3efe8ba22e2f812c8f9132468a4167e92645e9457731ef2b2f1", checked := Tryz.checked }
namespace Rows
def none {H : Type} : Left H := { results := [], args := [] }

/-- 'terrkeep3.HalfRounds': WHATEVER THE INPUT: true; the input reads as it did. -/
def halfRoundsSpec : ChangeSpec := { name := "halfRounds", fn := fun _ => fun
  | [d] => { results := [.lit (.bool true)], args := [d] }
  | _ => none }
def halfRoundsRow : OpenClaim := { program := "ytdnccjdlmepafaagreat", sum := "e2bc8c25174ab3efe8ba22e2f812c8f9132468a4167e92645e9457731ef2b2f1", func := "terrier/terrkeep3.HalfRounds", spec := "halfRounds", inPlace := ["math/bits.Add64"], unfollowed := true, recurses := true, named := ["math/bits.divideError", "math/bits.overflowError"], plainKeys := false, apart := false }
def HalfRoundsSaid : Prop := halfRoundsRow.holds Tryz.pinned (OpenSpec.ofChange halfRoundsSpec)

/-- ITS FALSE NEIGHBOUR: 'it returns false'. Refute it at one input. -/
def halfRoundsWrong : ChangeSpec := { name := "halfRounds", fn := fun _ => fun
  | [d] => { results := [.lit (.bool false)], args := [d] }
  | _ => none }
def HalfRoundsWrongFalsely : Prop := halfRoundsRow.holds Tryz.pinned (OpenSpec.ofChange halfRoundsWrong)

/-- 'terrkeep3.ArrTwins': WHATEVER THE INPUT: true; the input reads as it did. -/
def arrTwinsSpec : ChangeSpec := { name := "arrTwins", fn := fun _ => fun
  | [d] => { results := [.lit (.bool true)], args := [d] }
  | _ => none }
def arrTwinsRow : OpenClaim := { program := "ytdnccjdlmepafaagreat", sum := "e2bc8c25174ab3efe8ba22e2f812c8f9132468a4167e92645e9457731ef2b2f1", func := "terrier/terrkeep3.ArrTwins", spec := "arrTwins", inPlace := ["math/bits.Add64"], unfollowed := true, recurses := true, named := ["math/bits.divideError", "math/bits.overflowError"], plainKeys := false, apart := false }
def ArrTwinsSaid : Prop := arrTwinsRow.holds Tryz.pinned (OpenSpec.ofChange arrTwinsSpec)

/-- ITS FALSE NEIGHBOUR: 'it returns false'. Refute it at one input. -/
def arrTwinsWrong : ChangeSpec := { name := "arrTwins", fn := fun _ => fun
  | [d] => { results := [.lit (.bool false)], args := [d] }
  | _ => none }
def ArrTwinsWrongFalsely : Prop := arrTwinsRow.holds Tryz.pinned (OpenSpec.ofChange arrTwinsWrong)

/-- 'terrkeep3.ArrBack': WHATEVER THE INPUT: true; the input reads as it did. -/
def arrBackSpec : ChangeSpec := { name := "arrBack", fn := fun _ => fun
  | [d] => { results := [.lit (.bool true)], args := [d] }
  | _ => none }
def arrBackRow : OpenClaim := { program := "ytdnccjdlmepafaagreat", sum := "e2bc8c25174ab3efe8ba22e2f812c8f9132468a4167e92645e9457731ef2b2f1", func := "terrier/terrkeep3.ArrBack", spec := "arrBack", inPlace := ["math/bits.Add64"], unfollowed := true, recurses := true, named := ["math/bits.divideError", "math/bits.overflowError"], plainKeys := false, apart := false }
def ArrBackSaid : Prop := arrBackRow.holds Tryz.pinned (OpenSpec.ofChange arrBackSpec)

/-- ITS FALSE NEIGHBOUR: 'it returns false'. Refute it at one input. -/
def arrBackWrong : ChangeSpec := { name := "arrBack", fn := fun _ => fun
  | [d] => { results := [.lit (.bool false)], args := [d] }
  | _ => none }
def ArrBackWrongFalsely : Prop := arrBackRow.holds Tryz.pinned (OpenSpec.ofChange arrBackWrong)

/-- 'terrkeep3.FaceBeside': WHATEVER THE INPUT: true; the input reads as it did. -/
def faceBesideSpec : ChangeSpec := { name := "faceBeside", fn := fun _ => fun
  | [d1, d2, d3] => { results := [.lit (.bool true)], args := [d1, d2, d3] }
  | _ => none }
def faceBesideRow : OpenClaim := { program := "ytdnccjdlmepafaagreat", sum := "e2bc8c25174ab3efe8ba22e2f812c8f9132468a4167e92645e9457731ef2b2f1", func := "terrier/terrkeep3.FaceBeside", spec := "faceBeside", inPlace := ["math/bits.Add64"], unfollowed := true, recurses := true, named := ["math/bits.divideError", "math/bits.overflowError"], plainKeys := false, apart := false }
def FaceBesideSaid : Prop := faceBesideRow.holds Tryz.pinned (OpenSpec.ofChange faceBesideSpec)

/-- ITS FALSE NEIGHBOUR: 'it returns false'. Refute it at one input. -/
def faceBesideWrong : ChangeSpec := { name := "faceBeside", fn := fun _ => fun
  | [d1, d2, d3] => { results := [.lit (.bool false)], args := [d1, d2, d3] }
  | _ => none }
def FaceBesideWrongFalsely : Prop := faceBesideRow.holds Tryz.pinned (OpenSpec.ofChange faceBesideWrong)

/-- 'terrkeep3.TopoMoved': WHATEVER THE INPUT: true; the input reads as it did. -/
def topoMovedSpec : ChangeSpec := { name := "topoMoved", fn := fun _ => fun
  | [d1, d2, d3] => { results := [.lit (.bool true)], args := [d1, d2, d3] }
  | _ => none }
def topoMovedRow : OpenClaim := { program := "ytdnccjdlmepafaagreat", sum := "e2bc8c25174ab3efe8ba22e2f812c8f9132468a4167e92645e9457731ef2b2f1", func := "terrier/terrkeep3.TopoMoved", spec := "topoMoved", inPlace := ["math/bits.Add64"], unfollowed := true, recurses := true, named := ["math/bits.divideError", "math/bits.overflowError"], plainKeys := false, apart := false }
def TopoMovedSaid : Prop := topoMovedRow.holds Tryz.pinned (OpenSpec.ofChange topoMovedSpec)

/-- ITS FALSE NEIGHBOUR: 'it returns false'. Refute it at one input. -/
def topoMovedWrong : ChangeSpec := { name := "topoMoved", fn := fun _ => fun
  | [d1, d2, d3] => { results := [.lit (.bool false)], args := [d1, d2, d3] }
  | _ => none }
def TopoMovedWrongFalsely : Prop := topoMovedRow.holds Tryz.pinned (OpenSpec.ofChange topoMovedWrong)

/-- 'terrkeep3.TopoBack': WHATEVER THE INPUT: true; the input reads as it did. -/
def topoBackSpec : ChangeSpec := { name := "topoBack", fn := fun _ => fun
  | [d1, d2] => { results := [.lit (.bool true)], args := [d1, d2] }
  | _ => none }
def topoBackRow : OpenClaim := { program := "ytdnccjdlmepafaagreat", sum := "e2bc8c25174ab3efe8ba22e2f812c8f9132468a4167e92645e9457731ef2b2f1", func := "terrier/terrkeep3.TopoBack", spec := "topoBack", inPlace := ["math/bits.Add64"], unfollowed := true, recurses := true, named := ["math/bits.divideError", "math/bits.overflowError"], plainKeys := false, apart := false }
def TopoBackSaid : Prop := topoBackRow.holds Tryz.pinned (OpenSpec.ofChange topoBackSpec)

/-- ITS FALSE NEIGHBOUR: 'it returns false'. Refute it at one input. -/
def topoBackWrong : ChangeSpec := { name := "topoBack", fn := fun _ => fun
  | [d1, d2] => { results := [.lit (.bool false)], args := [d1, d2] }
  | _ => none }
def TopoBackWrongFalsely : Prop := topoBackRow.holds Tryz.pinned (OpenSpec.ofChange topoBackWrong)

/-- 'terrkeep3.TopoHalves': WHATEVER THE INPUT: true; the input reads as it did. -/
def topoHalvesSpec : ChangeSpec := { name := "topoHalves", fn := fun _ => fun
  | [d1, d2] => { results := [.lit (.bool true)], args := [d1, d2] }
  | _ => none }
def topoHalvesRow : OpenClaim := { program := "ytdnccjdlmepafaagreat", sum := "e2bc8c25174ab3efe8ba22e2f812c8f9132468a4167e92645e9457731ef2b2f1", func := "terrier/terrkeep3.TopoHalves", spec := "topoHalves", inPlace := ["math/bits.Add64"], unfollowed := true, recurses := true, named := ["math/bits.divideError", "math/bits.overflowError"], plainKeys := false, apart := false }
def TopoHalvesSaid : Prop := topoHalvesRow.holds Tryz.pinned (OpenSpec.ofChange topoHalvesSpec)

/-- ITS FALSE NEIGHBOUR: 'it returns false'. Refute it at one input. -/
def topoHalvesWrong : ChangeSpec := { name := "topoHalves", fn := fun _ => fun
  | [d1, d2] => { results := [.lit (.bool false)], args := [d1, d2] }
  | _ => none }
def TopoHalvesWrongFalsely : Prop := topoHalvesRow.holds Tryz.pinned (OpenSpec.ofChange topoHalvesWrong)

/-- 'terrkeep3.HalfOuts': WHATEVER THE INPUT: true; the input reads as it did. -/
def halfOutsSpec : ChangeSpec := { name := "halfOuts", fn := fun _ => fun
  | [d] => { results := [.lit (.bool true)], args := [d] }
  | _ => none }
def halfOutsRow : OpenClaim := { program := "ytdnccjdlmepafaagreat", sum := "e2bc8c25174ab3efe8ba22e2f812c8f9132468a4167e92645e9457731ef2b2f1", func := "terrier/terrkeep3.HalfOuts", spec := "halfOuts", inPlace := ["math/bits.Add64"], unfollowed := true, recurses := true, named := ["math/bits.divideError", "math/bits.overflowError"], plainKeys := false, apart := false }
def HalfOutsSaid : Prop := halfOutsRow.holds Tryz.pinned (OpenSpec.ofChange halfOutsSpec)

/-- ITS FALSE NEIGHBOUR: 'it returns false'. Refute it at one input. -/
def halfOutsWrong : ChangeSpec := { name := "halfOuts", fn := fun _ => fun
  | [d] => { results := [.lit (.bool false)], args := [d] }
  | _ => none }
def HalfOutsWrongFalsely : Prop := halfOutsRow.holds Tryz.pinned (OpenSpec.ofChange halfOutsWrong)

/- THE SECOND FORM. 'bulk': how many values and letters a reading holds, each counted each time it is reached (what is shared counts as often as it is met; a slice's spare places count too). A statement '..UptoSaid' is the law's where the arguments, and the package variables that the reading takes, are together of bulk at most 1048576: NARROWER than '..Said'. Prove '..Said' where nothing that the law and all that it calls make is longer than what came in: it says more and counts as full. Else prove '..UptoSaid'. A law counts once. -/
mutual
def uptoBulk {H : Type} : DataW H → Nat
  | .lit (.string bytes) => bytes.length + 1
  | .lit _ => 1
  | .nil => 1
  | .ptr d => uptoBulk d + 1
  | .slice elems spare => uptoBulkAll elems + uptoBulkAll spare + 1
  | .agg parts => uptoBulkAll parts + 1
  | .iface _ d => uptoBulk d + 1
  | .map entries => uptoBulkEntries entries + 1
  | .held _ => 1
def uptoBulkAll {H : Type} : List (DataW H) → Nat
  | [] => 0
  | d :: r => uptoBulk d + uptoBulkAll r
def uptoBulkEntries {H : Type} : List (Lit × DataW H) → Nat
  | [] => 0
  | x :: r => uptoBulkEntry x + uptoBulkEntries r
def uptoBulkEntry {H : Type} : Lit × DataW H → Nat
  | (.string bytes, d) => bytes.length + uptoBulk d + 1
  | (_, d) => uptoBulk d + 1
 end
def uptoSmall : (H : Type) → List (DataW H) → Bool := fun _ ds => decide (uptoBulkAll ds ≤ 1048576)
def OpenSpec.upto (s : _root_.Go.ChangeSpec) : _root_.Go.OpenSpec := { _root_.Go.OpenSpec.ofChange s with cond := some uptoSmall }

/-- 'terrkeep3.HalfRounds', WHERE WHAT IT READS IS OF BULK AT MOST 1048576: true; the input reads as it did. -/
def halfRoundsUptoRow : OpenClaim := { program := "ytdnccjdlmepafaagreat", sum := "e2bc8c25174ab3efe8ba22e2f812c8f9132468a4167e92645e9457731ef2b2f1", func := "terrier/terrkeep3.HalfRounds", spec := "halfRounds", inPlace := ["math/bits.Add64"], unfollowed := true, recurses := true, named := ["math/bits.divideError", "math/bits.overflowError"], plainKeys := false, apart := false, narrowed := true }
def HalfRoundsUptoSaid : Prop := halfRoundsUptoRow.holds Tryz.pinned (OpenSpec.upto halfRoundsSpec)

/-- 'terrkeep3.ArrTwins', WHERE WHAT IT READS IS OF BULK AT MOST 1048576: true; the input reads as it did. -/
def arrTwinsUptoRow : OpenClaim := { program := "ytdnccjdlmepafaagreat", sum := "e2bc8c25174ab3efe8ba22e2f812c8f9132468a4167e92645e9457731ef2b2f1", func := "terrier/terrkeep3.ArrTwins", spec := "arrTwins", inPlace := ["math/bits.Add64"], unfollowed := true, recurses := true, named := ["math/bits.divideError", "math/bits.overflowError"], plainKeys := false, apart := false, narrowed := true }
def ArrTwinsUptoSaid : Prop := arrTwinsUptoRow.holds Tryz.pinned (OpenSpec.upto arrTwinsSpec)

/-- 'terrkeep3.ArrBack', WHERE WHAT IT READS IS OF BULK AT MOST 1048576: true; the input reads as it did. -/
def arrBackUptoRow : OpenClaim := { program := "ytdnccjdlmepafaagreat", sum := "e2bc8c25174ab3efe8ba22e2f812c8f9132468a4167e92645e9457731ef2b2f1", func := "terrier/terrkeep3.ArrBack", spec := "arrBack", inPlace := ["math/bits.Add64"], unfollowed := true, recurses := true, named := ["math/bits.divideError", "math/bits.overflowError"], plainKeys := false, apart := false, narrowed := true }
def ArrBackUptoSaid : Prop := arrBackUptoRow.holds Tryz.pinned (OpenSpec.upto arrBackSpec)

/-- 'terrkeep3.FaceBeside', WHERE WHAT IT READS IS OF BULK AT MOST 1048576: true; the input reads as it did. -/
def faceBesideUptoRow : OpenClaim := { program := "ytdnccjdlmepafaagreat", sum := "e2bc8c25174ab3efe8ba22e2f812c8f9132468a4167e92645e9457731ef2b2f1", func := "terrier/terrkeep3.FaceBeside", spec := "faceBeside", inPlace := ["math/bits.Add64"], unfollowed := true, recurses := true, named := ["math/bits.divideError", "math/bits.overflowError"], plainKeys := false, apart := false, narrowed := true }
def FaceBesideUptoSaid : Prop := faceBesideUptoRow.holds Tryz.pinned (OpenSpec.upto faceBesideSpec)

/-- 'terrkeep3.TopoMoved', WHERE WHAT IT READS IS OF BULK AT MOST 1048576: true; the input reads as it did. -/
def topoMovedUptoRow : OpenClaim := { program := "ytdnccjdlmepafaagreat", sum := "e2bc8c25174ab3efe8ba22e2f812c8f9132468a4167e92645e9457731ef2b2f1", func := "terrier/terrkeep3.TopoMoved", spec := "topoMoved", inPlace := ["math/bits.Add64"], unfollowed := true, recurses := true, named := ["math/bits.divideError", "math/bits.overflowError"], plainKeys := false, apart := false, narrowed := true }
def TopoMovedUptoSaid : Prop := topoMovedUptoRow.holds Tryz.pinned (OpenSpec.upto topoMovedSpec)

/-- 'terrkeep3.TopoBack', WHERE WHAT IT READS IS OF BULK AT MOST 1048576: true; the input reads as it did. -/
def topoBackUptoRow : OpenClaim := { program := "ytdnccjdlmepafaagreat", sum := "e2bc8c25174ab3efe8ba22e2f812c8f9132468a4167e92645e9457731ef2b2f1", func := "terrier/terrkeep3.TopoBack", spec := "topoBack", inPlace := ["math/bits.Add64"], unfollowed := true, recurses := true, named := ["math/bits.divideError", "math/bits.overflowError"], plainKeys := false, apart := false, narrowed := true }
def TopoBackUptoSaid : Prop := topoBackUptoRow.holds Tryz.pinned (OpenSpec.upto topoBackSpec)

/-- 'terrkeep3.TopoHalves', WHERE WHAT IT READS IS OF BULK AT MOST 1048576: true; the input reads as it did. -/
def topoHalvesUptoRow : OpenClaim := { program := "ytdnccjdlmepafaagreat", sum := "e2bc8c25174ab3efe8ba22e2f812c8f9132468a4167e92645e9457731ef2b2f1", func := "terrier/terrkeep3.TopoHalves", spec := "topoHalves", inPlace := ["math/bits.Add64"], unfollowed := true, recurses := true, named := ["math/bits.divideError", "math/bits.overflowError"], plainKeys := false, apart := false, narrowed := true }
def TopoHalvesUptoSaid : Prop := topoHalvesUptoRow.holds Tryz.pinned (OpenSpec.upto topoHalvesSpec)

/-- 'terrkeep3.HalfOuts', WHERE WHAT IT READS IS OF BULK AT MOST 1048576: true; the input reads as it did. -/
def halfOutsUptoRow : OpenClaim := { program := "ytdnccjdlmepafaagreat", sum := "e2bc8c25174ab3efe8ba22e2f812c8f9132468a4167e92645e9457731ef2b2f1", func := "terrier/terrkeep3.HalfOuts", spec := "halfOuts", inPlace := ["math/bits.Add64"], unfollowed := true, recurses := true, named := ["math/bits.divideError", "math/bits.overflowError"], plainKeys := false, apart := false, narrowed := true }
def HalfOutsUptoSaid : Prop := halfOutsUptoRow.holds Tryz.pinned (OpenSpec.upto halfOutsSpec)

end Rows
end Go.Proofs.YtdnccjdlmepafaaGreat
