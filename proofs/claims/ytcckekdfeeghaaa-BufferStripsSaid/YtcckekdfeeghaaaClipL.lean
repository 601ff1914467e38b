/-
  clip.Line as a plain function. Conditions: none.
-/
import Derived.Test.YtcckekdfeeghaaaClipB0
import Derived.Test.YtcckekdfeeghaaaClipE
namespace Go.Proofs.Ytcckekdfeeghaaa
set_option linter.unusedSimpArgs false
set_option linter.unusedVariables false
open Go.RowKit Go.BigFrame

abbrev SegT := Option (CutT × CutT)
def cutP (k : CutT) : Pt2 := (k.2.2.1, k.2.2.2)
def lastP (l : List Pt2) : Pt2 := pAt l (l.length - 1)
def addP (l : List Pt2) (p : Pt2) : List Pt2 := if l.length = 0 then l ++ [p] else l
def addQ (l : List Pt2) (q : Pt2) : List Pt2 := if q = lastP l then l else l ++ [q]
def lineS (outs : List (List Pt2)) (now : List Pt2) (f : CutT) : List (List Pt2) × List Pt2 := if f.1 = 0 then (outs, now) else (endO outs now, [])
def lineStep (outs : List (List Pt2)) (now : List Pt2) : SegT → List (List Pt2) × List Pt2
  | none => (endO outs now, [])
  | some p => if p.2.1 = p.2.2.1 then ((lineS outs now p.1).1, addQ (addP (lineS outs now p.1).2 (cutP p.1)) (cutP p.2)) else (endO (lineS outs now p.1).1 (addQ (addP (lineS outs now p.1).2 (cutP p.1)) (cutP p.2)), [])
def lineRun (seg : Nat → SegT) : Nat → Nat → List (List Pt2) → List Pt2 → List (List Pt2) × List Pt2
  | 0, _, o, n => (o, n)
  | k + 1, i, o, n => lineRun seg k (i + 1) (lineStep o n (seg i)).1 (lineStep o n (seg i)).2
def segAt (l : List Pt2) (lx ly hx hy : Int) (i : Nat) : SegT := segV (pAt l (i - 1)).1 (pAt l (i - 1)).2 (pAt l i).1 (pAt l i).2 lx ly hx hy
def clipLine (l : List Pt2) (lx ly hx hy : Int) : List (List Pt2) :=
  if (lineB l && okB lx ly hx hy) = true then
    endO (lineRun (segAt l lx ly hx hy) (l.length - 1) 1 [] []).1 (lineRun (segAt l lx ly hx hy) (l.length - 1) 1 [] []).2
  else []


/-- What clip.Line returns. -/
def LineSpec : Prop := ∀ (v : Value) (l : List Pt2) (lx ly hx hy : Int) (w : World), l.length ≤ 1000000000000000 → PtsS w v l →
    Calls Try.prog 17 #[v, .agg #[.int .i64 lx, .int .i64 ly, .int .i64 hx, .int .i64 hy]] w fun e w' => ∃ v', e = .returned v' ∧ LisS w' v' (clipLine l lx ly hx hy) ∧ Since w w'
end Go.Proofs.Ytcckekdfeeghaaa
