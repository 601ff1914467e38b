/-
  clip.Segment as a plain function. Conditions: none.
-/
import Derived.Test.YtcckekdfeeghaaaClipA
namespace Go.Proofs.Ytcckekdfeeghaaa
set_option linter.unusedSimpArgs false
set_option linter.unusedVariables false
open Go.RowKit Go.BigFrame
attribute [local go_sem ↓] eqPt neqPt

/-- A cut: n, d, and its point. -/
abbrev CutT := Int × Int × Int × Int
def atV (lx ly hx hy : Int) (i : Nat) : Int := if i = 0 then lx else if i = 1 then hx else if i = 2 then ly else hy
def fromV (ax ay lx ly hx hy : Int) (i : Nat) : Int := if i = 0 then ax - lx else if i = 1 then -(ax - hx) else if i = 2 then ay - ly else -(ay - hy)
def byV (dx dy : Int) (i : Nat) : Int := if i = 0 then dx else if i = 1 then -dx else if i = 2 then dy else -dy
def kCut (ax ay dx dy at_ : Int) (i : Nat) (n d : Int) : CutT := if 1 < i then (n, d, ax + rnd (n * dx) d, at_) else (n, d, at_, ay + rnd (n * dy) d)
def ltC (f k : CutT) : Bool := ltV f.1 f.2.1 k.1 k.2.1
def sideStep (ax ay dx dy at_ fr by_ : Int) (i : Nat) (f l : CutT) : Option (CutT × CutT) :=
  if by_ = 0 then (if fr < 0 then none else some (f, l))
  else if 0 < by_ then some (if ltC f (kCut ax ay dx dy at_ i (-fr) by_) then kCut ax ay dx dy at_ i (-fr) by_ else f, l)
  else some (f, if ltC (kCut ax ay dx dy at_ i fr (-by_)) l then kCut ax ay dx dy at_ i fr (-by_) else l)
def segRun (ax ay dx dy lx ly hx hy : Int) : Nat → Nat → CutT → CutT → Option (CutT × CutT)
  | 0, _, f, l => some (f, l)
  | k + 1, i, f, l => (sideStep ax ay dx dy (atV lx ly hx hy i) (fromV ax ay lx ly hx hy i) (byV dx dy i) i f l).bind fun p => segRun ax ay dx dy lx ly hx hy k (i + 1) p.1 p.2
def segV (ax ay cx cy lx ly hx hy : Int) : Option (CutT × CutT) :=
  if (!(ax == cx && ay == cy) && okP ax ay && okP cx cy && okB lx ly hx hy) = true then
    (segRun ax ay (cx - ax) (cy - ay) lx ly hx hy 4 0 (0, 1, ax, ay) (1, 1, cx, cy)).bind fun p => if ltC p.1 p.2 then some p else none
  else none
def segVal : Option (CutT × CutT) → Value
  | none => .tuple #[.agg #[.int .i64 0, .int .i64 0], .agg #[.int .i64 0, .int .i64 0], .bool false, .bool false, .bool false]
  | some (f, l) => .tuple #[.agg #[.int .i64 f.2.2.1, .int .i64 f.2.2.2], .agg #[.int .i64 l.2.2.1, .int .i64 l.2.2.2], .bool (f.1 == 0), .bool (l.1 == l.2.1), .bool true]
def cutV (k : CutT) : Array Value := #[.int .i64 k.1, .int .i64 k.2.1, .int .i64 k.2.2.1, .int .i64 k.2.2.2]
/-- The numbers of a cut are not too large. -/
def cutBd (k : CutT) : Prop := k.1.natAbs ≤ 16777216 ∧ k.2.1.natAbs ≤ 16777216

theorem rnd_bd {n d : Int} (hn : n.natAbs ≤ 17592186044416) (hd : 0 < d) (hd2 : d ≤ 8388608) : -35184372088832 ≤ rnd n d ∧ rnd n d ≤ 35184372088832 := by
  unfold rnd
  constructor
  · rw [Int.le_ediv_iff_mul_le (by omega)]; omega
  · exact Int.le_of_lt_add_one (Int.ediv_lt_of_lt_mul (by omega) (by omega))

theorem segRun_neg {ax ay dx dy lx ly hx hy : Int} {i : Nat} (h : byV dx dy i < 0) (k : Nat) (f l : CutT) : segRun ax ay dx dy lx ly hx hy (k + 1) i f l = segRun ax ay dx dy lx ly hx hy k (i + 1) f
    (if ltC (kCut ax ay dx dy (atV lx ly hx hy i) i (fromV ax ay lx ly hx hy i) (-(byV dx dy i))) l then kCut ax ay dx dy (atV lx ly hx hy i) i (fromV ax ay lx ly hx hy i) (-(byV dx dy i)) else l) := by
  rw [segRun, sideStep, if_neg (by omega), if_neg (by omega)]; rfl
theorem segRun_pos {ax ay dx dy lx ly hx hy : Int} {i : Nat} (h : 0 < byV dx dy i) (k : Nat) (f l : CutT) : segRun ax ay dx dy lx ly hx hy (k + 1) i f l = segRun ax ay dx dy lx ly hx hy k (i + 1)
    (if ltC f (kCut ax ay dx dy (atV lx ly hx hy i) i (-(fromV ax ay lx ly hx hy i)) (byV dx dy i)) then kCut ax ay dx dy (atV lx ly hx hy i) i (-(fromV ax ay lx ly hx hy i)) (byV dx dy i) else f) l := by
  rw [segRun, sideStep, if_neg (by omega), if_pos h]; rfl
theorem segRun_zero {ax ay dx dy lx ly hx hy : Int} {i : Nat} (h : byV dx dy i = 0) (h2 : 0 ≤ fromV ax ay lx ly hx hy i) (k : Nat) (f l : CutT) : segRun ax ay dx dy lx ly hx hy (k + 1) i f l = segRun ax ay dx dy lx ly hx hy k (i + 1) f l := by
  rw [segRun, sideStep, if_pos h, if_neg (by omega)]; rfl
theorem segRun_none {ax ay dx dy lx ly hx hy : Int} {i : Nat} (h : byV dx dy i = 0) (h2 : fromV ax ay lx ly hx hy i < 0) (k : Nat) (f l : CutT) : segRun ax ay dx dy lx ly hx hy (k + 1) i f l = none := by
  rw [segRun, sideStep, if_pos h, if_pos h2]; rfl
theorem cutBd_if {b : Bool} {f l : CutT} (hf : cutBd f) (hl : cutBd l) : cutBd (if b then f else l) := by cases b <;> assumption

/-- What clip.Segment returns. -/
def SegSpec : Prop := ∀ (ax ay cx cy lx ly hx hy : Int) (w : World),
  Calls Try.prog 29 #[.agg #[.int .i64 ax, .int .i64 ay], .agg #[.int .i64 cx, .int .i64 cy], .agg #[.int .i64 lx, .int .i64 ly, .int .i64 hx, .int .i64 hy]] w fun e w' =>
    e = .returned (segVal (segV ax ay cx cy lx ly hx hy)) ∧ Since w w'

end Go.Proofs.Ytcckekdfeeghaaa
