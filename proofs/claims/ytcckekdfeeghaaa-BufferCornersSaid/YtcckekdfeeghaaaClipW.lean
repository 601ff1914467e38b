/-
  What clip.Segment and clip.Line return, both walks joined. Conditions: none.
-/
import Derived.Test.YtcckekdfeeghaaaClipB1
import Derived.Test.YtcckekdfeeghaaaClipF
namespace Go.Proofs.Ytcckekdfeeghaaa
theorem Seg_spec : SegSpec := Segment_any
theorem Line_spec : LineSpec := fun v l lx ly hx hy w h1 h2 => Line_any v l lx ly hx hy w h1 h2 Segment_any
end Go.Proofs.Ytcckekdfeeghaaa
