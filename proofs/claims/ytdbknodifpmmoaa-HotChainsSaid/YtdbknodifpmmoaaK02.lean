/-
  Walks of the reference of Meets: near, sign, spot.in, the closures; Walks of point.Ok, box.Ok, clip.round, clip.cut.less and of '==' of points: what each returns; clip.Segment as a plain function; Slices of points as lists; the walk of clip.IsLine; Walks of slices.Equal and EqualFunc over points and lists of points; The memory of clip.Line; the walk of its closure; clip.Line as a plain function; Walks of terrmake: Below, Stream.Next, Stream.point, Point; of terrkeep3: pt, window. Conditions: those that each lemma names.
-/
import Derived.Test.YtdbknodifpmmoaaK01
import Derived.Laws.StructEq
section
namespace Go.Proofs.Ytdbknodifpmmoaa
set_option linter.unusedSimpArgs false
set_option linter.unusedVariables false
open Go.RowKit Go.BigFrame
attribute [local go_sem] max2_int min2_int max_two min_two

theorem mul_bd {a b : Int} {A B : Nat} (ha : a.natAbs ≤ A) (hb : b.natAbs ≤ B) : (a * b).natAbs ≤ A * B := by rw [Int.natAbs_mul]; exact Nat.mul_le_mul ha hb
theorem wrap_id {x : Int} (h : x.natAbs ≤ 4611686018427387904) : wrap64 x = x := by unfold wrap64; omega

def sgn (n : Int) : Int := if 0 < n then 1 else if n < 0 then -1 else 0
theorem sign_any (n : Int) (w : World) : Calls Try.prog 93 #[.int .i64 n] w fun e w' => e = .returned (.int .i64 (sgn n)) ∧ w = w' := by
  go_enter Try.func93, Try.ntmps93
  go_wp2
  all_goals (go_ret; exact ⟨ret_int (by unfold sgn; (repeat' split) <;> omega), rfl⟩)

def nearB (n d at_ : Int) : Bool := decide ((2 * at_ - 1) * d ≤ n) && decide (n < (2 * at_ + 1) * d)
/-- A spot: x, y over d. -/
abbrev Spt := Int × Int × Int
def sptV (s : Spt) : List Value := [.int .i64 s.1, .int .i64 s.2.1, .int .i64 s.2.2]
def inB (s : Spt) (px py : Int) : Bool := nearB s.1 s.2.2 px && nearB s.2.1 s.2.2 py

/-- Where the segment's line has the coordinate x. -/
def atB (x ax bx dx : Int) : Bool := if dx = 0 then false else decide (¬ 0 < (x - 2 * ax) * (x - 2 * bx))
def atS (x ax ay dx dy : Int) : Spt := (x * max dx (-dx), 2 * ay * max dx (-dx) + (x - 2 * ax) * dy * sgn dx, max dx (-dx))

def atT (x ax ay dx dy : Int) : Spt := (2 * ay * max dx (-dx) + (x - 2 * ax) * dy * sgn dx, x * max dx (-dx), max dx (-dx))
theorem sgn_bd (n : Int) : (sgn n).natAbs ≤ 1 := by unfold sgn; (repeat' split) <;> omega

/-- What a closure of the reference returns: a spot, and whether there is one. -/
def AtPost (b : Bool) (t : Spt) (w : World) (e : Ending) (w' : World) : Prop := ∃ s : Spt, e = .returned (.tuple #[.agg #[.int .i64 s.1, .int .i64 s.2.1, .int .i64 s.2.2], .bool b]) ∧ (b = true → s = t) ∧ Since w w'

end Go.Proofs.Ytdbknodifpmmoaa
end
section
namespace Go.Proofs.Ytdbknodifpmmoaa
set_option linter.unusedSimpArgs false
set_option linter.unusedVariables false
open Go.RowKit Go.BigFrame

theorem hpt : Try.prog.stoodInHeld 26 = false := by kernel_rfl
theorem eqPtS (x y x' y' : Int) (d : Nat) (w : World) : (Op.equalIn (d + 1 + 1) 26 (.agg #[.int .i64 x, .int .i64 y]) (.agg #[.int .i64 x', .int .i64 y'])).run Try.prog w = .ok (x == x' && y == y') w := by
  rw [run_equalIn_struct (P := Try.prog) w (d + 1) 26 _ _ (by simp [Program.fieldsOf, Try.underlying26]) hpt]
  simp only [Program.fieldsOf, Try.underlying26]
  have h1 := run_equalIn_int (P := Try.prog) w d 3 .i64 .i64 x x' Try.underlying3
  have h2 := run_equalIn_int (P := Try.prog) w d 3 .i64 .i64 y y' Try.underlying3
  cases e1 : (x == x') <;> cases e2 : (y == y') <;> simp [Op.eqFields, go_sem, h1, h2, e1, e2]
theorem eqPt (x y x' y' : Int) (w : World) : (binOp .eql 26 (.agg #[.int .i64 x, .int .i64 y]) (.agg #[.int .i64 x', .int .i64 y'])).run Try.prog w = .ok (.bool (x == x' && y == y')) w := by
  have h : (Op.equal 26 (.agg #[.int .i64 x, .int .i64 y]) (.agg #[.int .i64 x', .int .i64 y'])).run Try.prog w = .ok (x == x' && y == y') w := eqPtS x y x' y' 9998 w
  simp only [binOp]
  simp [h]
theorem neqPt (x y x' y' : Int) (w : World) : (binOp .neq 26 (.agg #[.int .i64 x, .int .i64 y]) (.agg #[.int .i64 x', .int .i64 y'])).run Try.prog w = .ok (.bool (!(x == x' && y == y'))) w := by
  have h : (Op.equal 26 (.agg #[.int .i64 x, .int .i64 y]) (.agg #[.int .i64 x', .int .i64 y'])).run Try.prog w = .ok (x == x' && y == y') w := eqPtS x y x' y' 9998 w
  simp only [binOp]
  simp [h]

attribute [local go_sem ↓] eqPt neqPt

/-- A point is valid. -/
def okP (x y : Int) : Bool := decide (-1048576 ≤ x) && decide (x ≤ 1048576) && decide (-1048576 ≤ y) && decide (y ≤ 1048576)
theorem okP_iff {x y : Int} : okP x y = true ↔ (-1048576 ≤ x ∧ x ≤ 1048576) ∧ (-1048576 ≤ y ∧ y ≤ 1048576) := by
  unfold okP; simp only [Bool.and_eq_true, decide_eq_true_eq]; omega
theorem okP_eq (x y : Int) : (x == clampI x && y == clampI y) = okP x y := by
  rw [Bool.eq_iff_iff, okP_iff, Bool.and_eq_true, beq_iff_eq, beq_iff_eq]; unfold clampI; omega

theorem Ok_any (x y : Int) (w : World) : Calls Try.prog 67 #[.agg #[.int .i64 x, .int .i64 y]] w fun e w' => e = .returned (.bool (okP x y)) ∧ Since w w' := by
  go_enter Try.func67, Try.ntmps67
  go_wp2
  refine region_cls (fun w' => w'.cell? ⟨w.heap.size, 0, none⟩ = some (.int .i64 x) ∧ w'.cell? ⟨w.heap.size, 1, none⟩ = some (.int .i64 y) ∧ Since w w') (by kernel_rfl) (by kernel_rfl) (by (repeat' refine And.intro ?_ ?_) <;> first | (simp (maxDischargeDepth := 9) [ cSetS, cSetO, cellNew, World.cell?_alloc_some, cellDrew]; done) | (repeat (first | with_reducible assumption | with_reducible exact Since.rfl_ _ | refine Since.setCell ?_ (by (try dsimp only); omega) _ | refine Since.alloc ?_ _ | refine Since.drew ?_))) ?_
  repeat (go_big_quiet_step ((first | (intro hC; go_at_call 41; refine (Clamp_any _ _ _).mono ?_; rintro e w' ⟨rfl, hb⟩; refine ⟨rfl, ?_⟩; have k1 := keepC hb; have k2 := keepS hb; have hC := hC.out; (try dsimp only at hC); simp [Cls, hC, k1, k2]) | (intro hC; have hC := hC.out; (try simp only [hC, Result.andThen]); first | exact ⟨True.intro, rfl⟩ | exact ⟨rfl, rfl⟩ | rfl))))
  refine cls_end ?_
  rintro w1 ⟨-, -, hs⟩
  have HS := Lib.hid hs
  clear hs
  go_wp2
  go_ret
  exact ⟨ret_bool (okP_eq x y), HS.out⟩

/-- A box is valid. -/
def okB (lx ly hx hy : Int) : Bool := okP lx ly && okP hx hy && decide (lx ≤ hx) && decide (ly ≤ hy)
theorem okB_iff {lx ly hx hy : Int} : okB lx ly hx hy = true ↔ ((-1048576 ≤ lx ∧ lx ≤ 1048576) ∧ (-1048576 ≤ ly ∧ ly ≤ 1048576)) ∧ ((-1048576 ≤ hx ∧ hx ≤ 1048576) ∧ (-1048576 ≤ hy ∧ hy ≤ 1048576)) ∧ lx ≤ hx ∧ ly ≤ hy := by
  unfold okB; rw [Bool.and_eq_true, Bool.and_eq_true, Bool.and_eq_true, okP_iff, okP_iff, decide_eq_true_eq, decide_eq_true_eq]
  simp only [and_assoc]

/-- n / d rounded, halves up. -/
def rnd (n d : Int) : Int := (2 * n + d) / (2 * d)
theorem tdiv_floor (a b : Int) (hb : 0 < b) : (if a.tmod b < 0 then a.tdiv b - 1 else a.tdiv b) = a / b := by
  have h1 := Int.mul_tdiv_add_tmod a b
  have h2 := Int.tmod_lt_of_pos a hb
  have h3 := Int.lt_tmod_of_pos a hb
  split
  · exact ((Int.ediv_emod_unique (r := a.tmod b + b) (q := a.tdiv b - 1) hb).2 ⟨by rw [Int.mul_sub]; omega, by omega, by omega⟩).1.symm
  · exact ((Int.ediv_emod_unique (r := a.tmod b) (q := a.tdiv b) hb).2 ⟨by omega, by omega, by omega⟩).1.symm

def ltV (n d n' d' : Int) : Bool := decide (n * d' < n' * d)
end Go.Proofs.Ytdbknodifpmmoaa
end
section
namespace Go.Proofs.Ytdbknodifpmmoaa
set_option linter.unusedSimpArgs false
set_option linter.unusedVariables false
open Go.RowKit Go.BigFrame
attribute [local go_sem ↓] eqPt neqPt

/-- A cut: n, d, and its point. -/
abbrev CutT := Int × Int × Int × Int
def atV (lx ly hx hy : Int) (i : Nat) : Int := if i = 0 then lx else if i = 1 then hx else if i = 2 then ly else hy
def fromV (ax ay lx ly hx hy : Int) (i : Nat) : Int := if i = 0 then ax - lx else if i = 1 then -(ax - hx) else if i = 2 then ay - ly else -(ay - hy)
def byV (dx dy : Int) (i : Nat) : Int := if i = 0 then dx else if i = 1 then -dx else if i = 2 then dy else -dy
def kCut (ax ay dx dy at_ : Int) (i : Nat) (n d : Int) : CutT := if 1 < i then (n, d, ax + rnd (n * dx) d, at_) else (n, d, at_, ay + rnd (n * dy) d)
def ltC (f k : CutT) : Bool := ltV f.1 f.2.1 k.1 k.2.1
def sideStep (ax ay dx dy at_ fr by_ : Int) (i : Nat) (f l : CutT) : Option (CutT × CutT) :=
  if by_ = 0 then (if fr < 0 then none else some (f, l))
  else if 0 < by_ then some (if ltC f (kCut ax ay dx dy at_ i (-fr) by_) then kCut ax ay dx dy at_ i (-fr) by_ else f, l)
  else some (f, if ltC (kCut ax ay dx dy at_ i fr (-by_)) l then kCut ax ay dx dy at_ i fr (-by_) else l)
def segRun (ax ay dx dy lx ly hx hy : Int) : Nat → Nat → CutT → CutT → Option (CutT × CutT)
  | 0, _, f, l => some (f, l)
  | k + 1, i, f, l => (sideStep ax ay dx dy (atV lx ly hx hy i) (fromV ax ay lx ly hx hy i) (byV dx dy i) i f l).bind fun p => segRun ax ay dx dy lx ly hx hy k (i + 1) p.1 p.2
def segV (ax ay cx cy lx ly hx hy : Int) : Option (CutT × CutT) :=
  if (!(ax == cx && ay == cy) && okP ax ay && okP cx cy && okB lx ly hx hy) = true then
    (segRun ax ay (cx - ax) (cy - ay) lx ly hx hy 4 0 (0, 1, ax, ay) (1, 1, cx, cy)).bind fun p => if ltC p.1 p.2 then some p else none
  else none
def segVal : Option (CutT × CutT) → Value
  | none => .tuple #[.agg #[.int .i64 0, .int .i64 0], .agg #[.int .i64 0, .int .i64 0], .bool false, .bool false, .bool false]
  | some (f, l) => .tuple #[.agg #[.int .i64 f.2.2.1, .int .i64 f.2.2.2], .agg #[.int .i64 l.2.2.1, .int .i64 l.2.2.2], .bool (f.1 == 0), .bool (l.1 == l.2.1), .bool true]
def cutV (k : CutT) : Array Value := #[.int .i64 k.1, .int .i64 k.2.1, .int .i64 k.2.2.1, .int .i64 k.2.2.2]
/-- The numbers of a cut are not too large. -/
def cutBd (k : CutT) : Prop := k.1.natAbs ≤ 16777216 ∧ k.2.1.natAbs ≤ 16777216

theorem rnd_bd {n d : Int} (hn : n.natAbs ≤ 17592186044416) (hd : 0 < d) (hd2 : d ≤ 8388608) : -35184372088832 ≤ rnd n d ∧ rnd n d ≤ 35184372088832 := by
  unfold rnd
  constructor
  · rw [Int.le_ediv_iff_mul_le (by omega)]; omega
  · exact Int.le_of_lt_add_one (Int.ediv_lt_of_lt_mul (by omega) (by omega))

theorem segRun_neg {ax ay dx dy lx ly hx hy : Int} {i : Nat} (h : byV dx dy i < 0) (k : Nat) (f l : CutT) : segRun ax ay dx dy lx ly hx hy (k + 1) i f l = segRun ax ay dx dy lx ly hx hy k (i + 1) f
    (if ltC (kCut ax ay dx dy (atV lx ly hx hy i) i (fromV ax ay lx ly hx hy i) (-(byV dx dy i))) l then kCut ax ay dx dy (atV lx ly hx hy i) i (fromV ax ay lx ly hx hy i) (-(byV dx dy i)) else l) := by
  rw [segRun, sideStep, if_neg (by omega), if_neg (by omega)]; rfl
theorem segRun_pos {ax ay dx dy lx ly hx hy : Int} {i : Nat} (h : 0 < byV dx dy i) (k : Nat) (f l : CutT) : segRun ax ay dx dy lx ly hx hy (k + 1) i f l = segRun ax ay dx dy lx ly hx hy k (i + 1)
    (if ltC f (kCut ax ay dx dy (atV lx ly hx hy i) i (-(fromV ax ay lx ly hx hy i)) (byV dx dy i)) then kCut ax ay dx dy (atV lx ly hx hy i) i (-(fromV ax ay lx ly hx hy i)) (byV dx dy i) else f) l := by
  rw [segRun, sideStep, if_neg (by omega), if_pos h]; rfl
theorem segRun_zero {ax ay dx dy lx ly hx hy : Int} {i : Nat} (h : byV dx dy i = 0) (h2 : 0 ≤ fromV ax ay lx ly hx hy i) (k : Nat) (f l : CutT) : segRun ax ay dx dy lx ly hx hy (k + 1) i f l = segRun ax ay dx dy lx ly hx hy k (i + 1) f l := by
  rw [segRun, sideStep, if_pos h, if_neg (by omega)]; rfl
theorem segRun_none {ax ay dx dy lx ly hx hy : Int} {i : Nat} (h : byV dx dy i = 0) (h2 : fromV ax ay lx ly hx hy i < 0) (k : Nat) (f l : CutT) : segRun ax ay dx dy lx ly hx hy (k + 1) i f l = none := by
  rw [segRun, sideStep, if_pos h, if_pos h2]; rfl
theorem cutBd_if {b : Bool} {f l : CutT} (hf : cutBd f) (hl : cutBd l) : cutBd (if b then f else l) := by cases b <;> assumption

end Go.Proofs.Ytdbknodifpmmoaa
end
section
namespace Go.Proofs.Ytdbknodifpmmoaa
set_option linter.unusedSimpArgs false
set_option linter.unusedVariables false
open Go.RowKit Go.BigFrame
attribute [local go_sem ↓] eqPt neqPt

abbrev Pt2 := Int × Int
def pAt (l : List Pt2) (i : Nat) : Pt2 := l.getD i (0, 0)
/-- The slice v reads as the points l. -/
def PtsS (w : World) (v : Value) (l : List Pt2) : Prop :=
  ∃ a c, v = .slice a l.length c ∧ ∀ i, i < l.length → ∃ g o : Nat, a = some ⟨g, o, none⟩ ∧ w.cell? ⟨g, o + i * 2, none⟩ = some (.int .i64 (pAt l i).1) ∧ w.cell? ⟨g, o + i * 2 + 1, none⟩ = some (.int .i64 (pAt l i).2)
theorem PtsS.keep {w w' : World} {v : Value} {l : List Pt2} (h : PtsS w v l) (k : ∀ p u, w.cell? p = some u → w'.cell? p = some u) : PtsS w' v l := by
  obtain ⟨a, c, hv, h⟩ := h
  refine ⟨a, c, hv, fun i hi => ?_⟩
  obtain ⟨g, o, ha, h1, h2⟩ := h i hi
  exact ⟨g, o, ha, k _ _ h1, k _ _ h2⟩
theorem PtsS.since {w w' : World} {v : Value} {l : List Pt2} (h : PtsS w v l) (k : Since w w') : PtsS w' v l := h.keep (keepC k)

/-- The point at i may follow the one before. -/
def goodAt (l : List Pt2) (i : Nat) : Bool := okP (pAt l i).1 (pAt l i).2 && !(decide (0 < i) && ((pAt l i).1 == (pAt l (i - 1)).1 && (pAt l i).2 == (pAt l (i - 1)).2))
def lineB (l : List Pt2) : Bool := (List.range l.length).all (goodAt l) && decide (2 ≤ l.length) && decide (l.length ≤ 200)
theorem lineB_no {l : List Pt2} {i : Nat} (h : i < l.length) (hg : goodAt l i = false) : lineB l = false := by
  have : (List.range l.length).all (goodAt l) = false := by
    rw [List.all_eq_false]
    exact ⟨i, List.mem_range.2 h, by simp [hg]⟩
  unfold lineB; rw [this]; rfl
theorem lineB_end {l : List Pt2} (h : ∀ i, i < l.length → goodAt l i = true) : lineB l = (decide ((2 : Int) ≤ l.length) && decide ((l.length : Int) ≤ 200)) := by
  have : (List.range l.length).all (goodAt l) = true := List.all_eq_true.2 fun i hi => h i (List.mem_range.1 hi)
  unfold lineB; rw [this, Bool.true_and]
  rw [Bool.eq_iff_iff]; simp only [Bool.and_eq_true, decide_eq_true_eq]; omega

theorem Ok_val {x y : Int} {b : Bool} (h : okP x y = b) (w : World) : Calls Try.prog 67 #[.agg #[.int .i64 x, .int .i64 y]] w fun e w' => e = .returned (.bool b) ∧ Since w w' := h ▸ Ok_any x y w

end Go.Proofs.Ytdbknodifpmmoaa
end
section
namespace Go.Proofs.Ytdbknodifpmmoaa
set_option linter.unusedSimpArgs false
set_option linter.unusedVariables false
open Go.RowKit Go.BigFrame
attribute [local go_sem ↓] eqPt neqPt

theorem pAt_ext {l m : List Pt2} (h : l.length = m.length) (k : ∀ i, i < l.length → pAt l i = pAt m i) : l = m := by
  refine List.ext_getElem h fun i h1 h2 => ?_
  have := k i h1
  unfold pAt at this
  simpa [List.getD, h1, h2] using this
def rAt (l : List (List Pt2)) (i : Nat) : List Pt2 := l.getD i []
theorem rAt_ext {l m : List (List Pt2)} (h : l.length = m.length) (k : ∀ i, i < l.length → rAt l i = rAt m i) : l = m := by
  refine List.ext_getElem h fun i h1 h2 => ?_
  have := k i h1
  unfold rAt at this
  simpa [List.getD, h1, h2] using this

set_option maxHeartbeats 1000000 in
theorem Equal_any (v v' : Value) (l m : List Pt2) (w : World) (hl : l.length ≤ 1000000000000000) (hm : m.length ≤ 1000000000000000) (hv : PtsS w v l) (hv' : PtsS w v' m) :
    Calls Try.prog 62 #[v, v'] w fun e w' => e = .returned (.bool (decide (l = m))) ∧ Since w w' := by
  obtain ⟨a, c, rfl, hv⟩ := hv
  obtain ⟨a', c', rfl, hv'⟩ := hv'
  have HV := Lib.hid hv
  have HV' := Lib.hid hv'
  clear hv hv'
  by_cases hlen : l.length = m.length
  · have hz : ((l.length : Int) == m.length) = true := by rw [beq_iff_eq]; omega
    have hz' : ((l.length : Int) != m.length) = false := by unfold bne; rw [hz]; rfl
    have HL := Lib.hid hlen
    clear hlen
    go_enter Try.func62, Try.ntmps62
    go_wp2
    go_loopw [13] (fun v wr => ∃ k : Nat, k ≤ l.length ∧ v = .int .i64 k ∧ Hid (∀ i, i < k → pAt l i = pAt m i) ∧ Since w wr) (fun v _ => l.length - (intOf v).toNat)
    case atStart => exact ⟨0, Nat.zero_le _, rfl, fun i hi => absurd hi (Nat.not_lt_zero _), by first | exact Since.rfl_ w | exact (Since.rfl_ w).drew⟩
    case round =>
      obtain ⟨k, hk, rfl, HG, hs⟩ := hrel
      rcases Nat.lt_or_ge k l.length with hlt | hge
      · have hlt' : k < m.length := by have := HL.out; omega
        obtain ⟨g, o, ha, e0, e1⟩ := HV.out k hlt
        subst ha
        obtain ⟨g', o', ha', d0, d1⟩ := HV'.out k hlt'
        subst ha'
        replace e0 := keepC hs _ _ e0
        replace e1 := keepC hs _ _ e1
        replace d0 := keepC hs _ _ d0
        replace d1 := keepC hs _ _ d1
        have HS := Lib.hid hs
        clear hs
        by_cases hb : pAt l k = pAt m k
        · have HG2 : Hid (∀ i, i < k + 1 → pAt l i = pAt m i) := fun i hi => by
            rcases Nat.lt_succ_iff_lt_or_eq.1 hi with h | h
            · exact HG.out i h
            · rw [h]; exact hb
          have hx : ((pAt l k).1 == (pAt m k).1) = true := by rw [hb]; simp
          have hy : ((pAt l k).2 == (pAt m k).2) = true := by rw [hb]; simp
          clear HG hb
          go_wp2
          refine region_cls (fun w' => w'.cell? ⟨g, o + k * 2, none⟩ = some (.int .i64 (pAt l k).1) ∧ w'.cell? ⟨g, o + k * 2 + 1, none⟩ = some (.int .i64 (pAt l k).2) ∧ w'.cell? ⟨g', o' + k * 2, none⟩ = some (.int .i64 (pAt m k).1) ∧ w'.cell? ⟨g', o' + k * 2 + 1, none⟩ = some (.int .i64 (pAt m k).2) ∧ Since wr w') (by kernel_rfl) (by kernel_rfl) (by (repeat' refine And.intro ?_ ?_) <;> first | (simp (maxDischargeDepth := 9) [e0, e1, d0, d1,  cSetS, cSetO, cellNew, World.cell?_alloc_some, cellDrew]; done) | (repeat (first | with_reducible assumption | with_reducible exact Since.rfl_ _ | refine Since.setCell ?_ (by (try dsimp only); omega) _ | refine Since.alloc ?_ _ | refine Since.drew ?_))) ?_
          repeat (go_big_quiet_step ((first | (intro hC; have hC := hC.out; (try simp only [hC, Result.andThen]); first | exact ⟨True.intro, rfl⟩ | exact ⟨rfl, rfl⟩ | rfl))))
          refine cls_end ?_
          clear e0 e1 d0 d1
          rintro w3 ⟨-, -, -, -, hs⟩
          have HS2 := Lib.hid (HS.out.trans hs)
          clear hs
          go_wp2
          go_roundw
          case rel => exact ⟨k + 1, by omega, by go_num, HG2, HS2.out⟩
          case measure => simp [intOf]; omega
        · have HN : Hid (decide (l = m) = false) := by
            show _ = _
            rw [decide_eq_false_iff_not]
            rintro rfl
            exact hb rfl
          have HB := Lib.hid hb
          clear hb
          cases hx : ((pAt l k).1 == (pAt m k).1)
          · go_wp2
            refine region_cls (fun w' => w'.cell? ⟨g, o + k * 2, none⟩ = some (.int .i64 (pAt l k).1) ∧ w'.cell? ⟨g, o + k * 2 + 1, none⟩ = some (.int .i64 (pAt l k).2) ∧ w'.cell? ⟨g', o' + k * 2, none⟩ = some (.int .i64 (pAt m k).1) ∧ w'.cell? ⟨g', o' + k * 2 + 1, none⟩ = some (.int .i64 (pAt m k).2) ∧ Since wr w') (by kernel_rfl) (by kernel_rfl) (by (repeat' refine And.intro ?_ ?_) <;> first | (simp (maxDischargeDepth := 9) [e0, e1, d0, d1,  cSetS, cSetO, cellNew, World.cell?_alloc_some, cellDrew]; done) | (repeat (first | with_reducible assumption | with_reducible exact Since.rfl_ _ | refine Since.setCell ?_ (by (try dsimp only); omega) _ | refine Since.alloc ?_ _ | refine Since.drew ?_))) ?_
            repeat (go_big_quiet_step ((first | (intro hC; have hC := hC.out; (try simp only [hC, Result.andThen]); first | exact ⟨True.intro, rfl⟩ | exact ⟨rfl, rfl⟩ | rfl))))
            refine cls_end ?_
            clear e0 e1 d0 d1
            rintro w3 ⟨-, -, -, -, hs⟩
            have HS2 := Lib.hid (HS.out.trans hs)
            clear hs
            go_wp2
            go_ret
            exact ⟨ret_bool HN.out.symm, HS2.out⟩
          · cases hy : ((pAt l k).2 == (pAt m k).2)
            · go_wp2
              refine region_cls (fun w' => w'.cell? ⟨g, o + k * 2, none⟩ = some (.int .i64 (pAt l k).1) ∧ w'.cell? ⟨g, o + k * 2 + 1, none⟩ = some (.int .i64 (pAt l k).2) ∧ w'.cell? ⟨g', o' + k * 2, none⟩ = some (.int .i64 (pAt m k).1) ∧ w'.cell? ⟨g', o' + k * 2 + 1, none⟩ = some (.int .i64 (pAt m k).2) ∧ Since wr w') (by kernel_rfl) (by kernel_rfl) (by (repeat' refine And.intro ?_ ?_) <;> first | (simp (maxDischargeDepth := 9) [e0, e1, d0, d1,  cSetS, cSetO, cellNew, World.cell?_alloc_some, cellDrew]; done) | (repeat (first | with_reducible assumption | with_reducible exact Since.rfl_ _ | refine Since.setCell ?_ (by (try dsimp only); omega) _ | refine Since.alloc ?_ _ | refine Since.drew ?_))) ?_
              repeat (go_big_quiet_step ((first | (intro hC; have hC := hC.out; (try simp only [hC, Result.andThen]); first | exact ⟨True.intro, rfl⟩ | exact ⟨rfl, rfl⟩ | rfl))))
              refine cls_end ?_
              clear e0 e1 d0 d1
              rintro w3 ⟨-, -, -, -, hs⟩
              have HS2 := Lib.hid (HS.out.trans hs)
              clear hs
              go_wp2
              go_ret
              exact ⟨ret_bool HN.out.symm, HS2.out⟩
            · exact absurd (Prod.ext (beq_iff_eq.1 hx) (beq_iff_eq.1 hy)) HB.out
      · have HN : Hid (decide (l = m) = true) := by
          show _ = _
          rw [decide_eq_true_eq]
          exact pAt_ext HL.out fun i hi => HG.out i (by omega)
        have HS := Lib.hid hs
        clear hs
        go_wp2
        go_ret
        exact ⟨ret_bool HN.out.symm, HS.out⟩
  · have hz : ((l.length : Int) == m.length) = false := by rw [beq_eq_false_iff_ne]; omega
    have HN : Hid (decide (l = m) = false) := by
      show _ = _
      rw [decide_eq_false_iff_not]
      rintro rfl
      exact hlen rfl
    clear hlen
    go_enter Try.func62, Try.ntmps62
    go_wp2
    go_ret
    exact ⟨ret_bool HN.out.symm, Since.rfl_ w⟩

/-- The slice v reads as the lists of points ls. -/
def LisS (w : World) (v : Value) (ls : List (List Pt2)) : Prop :=
  ∃ a c, v = .slice a ls.length c ∧ ∀ i, i < ls.length → ∃ g o : Nat, a = some ⟨g, o, none⟩ ∧ ∃ u, w.cell? ⟨g, o + i, none⟩ = some u ∧ PtsS w u (rAt ls i)
theorem LisS.since {w w' : World} {v : Value} {l : List (List Pt2)} (h : LisS w v l) (k : Since w w') : LisS w' v l := by
  obtain ⟨a, c, hv, h⟩ := h
  refine ⟨a, c, hv, fun i hi => ?_⟩
  obtain ⟨g, o, ha, u, h1, h2⟩ := h i hi
  exact ⟨g, o, ha, u, keepC k _ _ h1, h2.since k⟩
def shortL (ls : List (List Pt2)) : Prop := ls.length ≤ 1000000000000000 ∧ ∀ i, i < ls.length → (rAt ls i).length ≤ 1000000000000000

end Go.Proofs.Ytdbknodifpmmoaa
end
section
namespace Go.Proofs.Ytdbknodifpmmoaa
set_option linter.unusedSimpArgs false
set_option linter.unusedVariables false
open Go.RowKit Go.BigFrame
attribute [local go_sem ↓] eqPt neqPt

def ptV (p : Pt2) : List Value := [.int .i64 p.1, .int .i64 p.2]
theorem ptV_len (p : Pt2) : (ptV p).length = 2 := rfl
/-- The slice v reads as the points l, in a block of points below B. -/
def PtsB (w : World) (v : Value) (l : List Pt2) (B : Nat) : Prop :=
  ∃ a c, v = .slice a l.length c ∧ ∀ i, i < l.length → ∃ (g o : Nat) (cs : Array Value), a = some ⟨g, o, none⟩ ∧ g < B ∧ Blk w g 26 cs ∧ cs[o + i * 2]? = some (.int .i64 (pAt l i).1) ∧ cs[o + i * 2 + 1]? = some (.int .i64 (pAt l i).2)
theorem PtsB.pts {w : World} {v : Value} {l : List Pt2} {B : Nat} (h : PtsB w v l B) : PtsS w v l := by
  obtain ⟨a, c, hv, h⟩ := h
  refine ⟨a, c, hv, fun i hi => ?_⟩
  obtain ⟨g, o, cs, ha, -, hb, h1, h2⟩ := h i hi
  exact ⟨g, o, ha, by rw [hb.cell]; exact h1, by rw [hb.cell]; exact h2⟩
theorem PtsB.keep {w w' : World} {v : Value} {l : List Pt2} {B B' : Nat} (h : PtsB w v l B) (hB : B ≤ B') (k : ∀ g cs, g < B → Blk w g 26 cs → Blk w' g 26 cs) : PtsB w' v l B' := by
  obtain ⟨a, c, hv, h⟩ := h
  refine ⟨a, c, hv, fun i hi => ?_⟩
  obtain ⟨g, o, cs, ha, hg, hb, h1, h2⟩ := h i hi
  exact ⟨g, o, cs, ha, by omega, k _ _ hg hb, h1, h2⟩
theorem PtsB.one {w : World} {v : Value} {l : List Pt2} {B : Nat} (h : PtsB w v l B) : v.oneCell' = true := by
  obtain ⟨a, c, rfl, -⟩ := h
  rfl
/-- A row of one's own reads as points. -/
theorem own_pts {w : World} {b B : Nat} {v : Value} {l : List Pt2} (h : w.ownsRow b 26 2 v l.length (l.flatMap ptV)) (hB : w.heap.size ≤ B) : PtsB w v l B := by
  have h0 := h
  obtain ⟨hl, ⟨rfl, hn⟩ | ⟨g, cap, cur, rfl, hb, hg, hc, hm, hs, ht⟩⟩ := h
  · exact ⟨none, 0, by rw [hn], fun i hi => by omega⟩
  · refine ⟨some ⟨g, 0, none⟩, cap, rfl, fun i hi => ⟨g, 0, cur, rfl, ?_, hg, ?_, ?_⟩⟩
    · have := Blk.lt hg; omega
    · have h1 := flat_at ptV_len l i 0 hi (by decide)
      have : (l.flatMap ptV)[i * 2 + 0]? = cur[i * 2 + 0]? := by
        rw [← ht, List.getElem?_take, if_pos (by omega)]; simp
      simp only [Nat.zero_add, Nat.add_zero] at this h1 ⊢
      rw [← this, h1]; simp [ptV, pAt, List.getD, hi]
    · have h1 := flat_at ptV_len l i 1 hi (by decide)
      have : (l.flatMap ptV)[i * 2 + 1]? = cur[i * 2 + 1]? := by
        rw [← ht, List.getElem?_take, if_pos (by omega)]; simp
      simp only [Nat.zero_add] at this h1 ⊢
      rw [← this, h1]; simp [ptV, pAt, List.getD, hi]
/-- Behind an append to a row of one's own: another row, of another element type, is as it was. -/
theorem own_app {w w' : World} {b b2 : Nat} {e e2 : TypeId} {k k2 n n2 : Nat} {v v2 : Value} {xs xs2 : List Value} (h : w.ownsRow b e k v n xs) (ho : w.ownsRow b2 e2 k2 v2 n2 xs2) (hne : e ≠ e2) (hg : w.grownBy w' v2.ownBlock) : w'.ownsRow b e k v n xs := by
  refine h.kept hg ?_
  obtain ⟨hl, ⟨rfl, hn⟩ | ⟨g, cap, cur, rfl, hb, hgg, hc⟩⟩ := h
  · exact .inl rfl
  · right
    intro hk
    rcases ho.2 with ⟨rfl, _⟩ | ⟨g2, cap2, cur2, rfl, _, hg2, _⟩
    · simp [Value.ownBlock] at hk
    · simp [Value.ownBlock] at hk
      subst hk
      rw [hgg] at hg2
      injection hg2 with h1
      injection h1 with h2 h3
      exact hne h3
theorem Blk.grown {w w' : World} {g : Nat} {t : TypeId} {cs : Array Value} {row : Option Nat} (h : Blk w g t cs) (hg : w.grownBy w' row) (hne : some g ≠ row) : Blk w' g t cs := (hg.block g h.lt hne).trans h

/-- The memory of clip.Line: what is out, what is at hand. -/
def LStV (w0 w : World) (g5 g6 BO : Nat) (outs : List (List Pt2)) (now : List Pt2) (vout vnow : Value) (us : List Value) (B : Nat) : Prop :=
  Blk w g5 28 #[vout] ∧ Blk w g6 33 #[vnow] ∧ g5 ≠ g6 ∧ g5 < BO ∧ g6 < BO ∧ w0.heap.size ≤ g5 ∧ w0.heap.size ≤ g6 ∧ BO ≤ B ∧ B ≤ w.heap.size ∧
    w.ownsRow BO 33 1 vout outs.length us ∧ (∀ i, i < outs.length → ∃ u, us[i]? = some u ∧ PtsB w u (rAt outs i) B) ∧
    w.ownsRow B 26 2 vnow now.length (now.flatMap ptV) ∧ Since w0 w ∧ (now = [] → vnow = .slice none 0 0)
def LSt (w0 w : World) (g5 g6 BO : Nat) (outs : List (List Pt2)) (now : List Pt2) : Prop :=
  ∃ (vout vnow : Value) (us : List Value) (B : Nat), LStV w0 w g5 g6 BO outs now vout vnow us B

theorem LSt.since {w0 w w' : World} {g5 g6 BO : Nat} {outs : List (List Pt2)} {now : List Pt2} (h : LSt w0 w g5 g6 BO outs now) (k : Since w w') : LSt w0 w' g5 g6 BO outs now := by
  obtain ⟨vout, vnow, us, B, h5, h6, hne, l5, l6, m5, m6, hB, hs, ho, hr, hn, hS, hE⟩ := h
  refine ⟨vout, vnow, us, B, k.blk h5, k.blk h6, hne, l5, l6, m5, m6, hB, Nat.le_trans hs k.size, own_since k ho, fun i hi => ?_, own_since k hn, hS.trans k, hE⟩
  obtain ⟨u, hu, hp⟩ := hr i hi
  exact ⟨u, hu, hp.keep (Nat.le_refl _) fun g cs _ hb => k.blk hb⟩

theorem infoPt : (Try.prog.info? 26).map (fun i => (i.zero, i.size, i.bytes)) = some (some (.agg #[.int .i64 0, .int .i64 0]), 2, 16) := by kernel_rfl
theorem infoPts : (Try.prog.info? 33).map (fun i => (i.zero, i.size, i.bytes)) = some (some (.slice none 0 0), 1, 24) := by kernel_rfl

theorem own_slice {w : World} {b : Nat} {e : TypeId} {k n : Nat} {v : Value} {xs : List Value} (h : w.ownsRow b e k v n xs) : ∃ a c, v = .slice a n c := by
  obtain ⟨-, ⟨rfl, rfl⟩ | ⟨g, cap, cur, rfl, -⟩⟩ := h
  · exact ⟨none, 0, rfl⟩
  · exact ⟨some ⟨g, 0, none⟩, cap, rfl⟩
theorem own_ne {w : World} {b g : Nat} {e : TypeId} {k n : Nat} {v : Value} {xs : List Value} (h : w.ownsRow b e k v n xs) (hg : g < b) : some g ≠ v.ownBlock := fun hk => by
  have := h.lt g hk.symm
  omega

theorem set_grown (w : World) (p : Addr) (u : Value) : w.grownBy (w.setCell p u) (some p.block) :=
  ⟨rfl, rfl, rfl, by simp [World.setCell], fun k _ hk => Below.heap_setCell w p u k (fun e => hk (by rw [e]))⟩
theorem own_far {w : World} {b : Nat} {e : TypeId} {k n : Nat} {v : Value} {xs : List Value} (h : w.ownsRow b e k v n xs) {p : Addr} (hp : some p.block ≠ v.ownBlock) (u : Value) : (w.setCell p u).ownsRow b e k v n xs :=
  h.kept (set_grown w p u) (.inr (Ne.symm hp))
theorem blk_ne {w : World} {g g' : Nat} {t t' : TypeId} {cs cs' : Array Value} (h : Blk w g t cs) (h' : Blk w g' t' cs') (hne : t ≠ t') : g ≠ g' := by
  rintro rfl
  unfold Blk at h h'
  rw [h] at h'
  injection h' with h1
  injection h1 with h2 h3
  exact hne h3

theorem cell2_new (w : World) (x y : Value) (t : TypeId) : ∀ j u, [x, y][j]? = some u → (w.alloc (.cells #[x, y] t)).cell? ((⟨w.heap.size, 0, none⟩ : Addr).add j) = some u := by
  intro j u hu
  rcases j with _ | _ | j
  · rw [← hu]; exact (Blk.new w t #[x, y]).cell 0
  · rw [← hu]; exact (Blk.new w t #[x, y]).cell 1
  · simp at hu
theorem one2 (k k' : IntKind) (a b : Int) : ∀ u ∈ [Value.int k a, .int k' b], u.oneCell' = true := by
  intro u hu
  simp only [List.mem_cons, List.not_mem_nil, or_false] at hu
  rcases hu with rfl | rfl <;> rfl
theorem Blk.new' {w : World} {g : Nat} {t : TypeId} {cs : Array Value} (h : g = w.heap.size) : Blk (w.alloc (.cells cs t)) g t cs := by subst h; exact Blk.new w t cs
theorem Blk.pair {w : World} {g : Nat} {t : TypeId} {a b x y : Value} (h : Blk w g t #[a, b]) : Blk ((w.setCell ⟨g, 0, none⟩ x).setCell ⟨g, 1, none⟩ y) g t #[x, y] := (h.set_ 0 x).set_ 1 y

section
variable {w0 w wA w' : World} {g5 g6 BO : Nat} {outs : List (List Pt2)} {now : List Pt2} {p : Pt2} {vout vnow v' : Value} {us : List Value} {B : Nat}
/-- Behind an append to the line at hand. -/
theorem LStV.push (h : LStV w0 w g5 g6 BO outs now vout vnow us B) (hA : Since w wA) (hown : w'.ownsRow B 26 2 v' (now.length + 1) (now.flatMap ptV ++ ptV p)) (hgrow : wA.grownBy w' vnow.ownBlock) :
    LSt w0 (w'.setCell ⟨g6, 0, none⟩ v') g5 g6 BO outs (now ++ [p]) := by
  obtain ⟨h5, h6, hne, l5, l6, m5, m6, hB, hs, ho, hr, hn, hS, hE⟩ := h
  have hnA := own_since hA hn
  have hoA := own_since hA ho
  have kB : ∀ g t cs, g < B → Blk w g t cs → Blk w' g t cs := fun g t cs hg hb => (hA.blk hb).grown hgrow (own_ne hnA hg)
  have h6' := kB _ _ _ (by omega) h6
  refine ⟨vout, v', us, B, (kB _ _ _ (by omega) h5).far hne _, h6'.set_ 0 _, hne, l5, l6, m5, m6, hB, ?_, own_far (own_app hoA hnA (by decide) hgrow) (own_ne (own_app hoA hnA (by decide) hgrow) l6) _, fun i hi => ?_, ?_, ?_, fun h => by simp at h⟩
  · have := hA.size
    have := hgrow.size
    simp [World.setCell]; omega
  · obtain ⟨u, hu, hp⟩ := hr i hi
    exact ⟨u, hu, hp.keep (Nat.le_refl _) fun g cs hg hb => (kB _ _ _ hg hb).far (blk_ne (kB _ _ _ hg hb) h6' (by decide)) _⟩
  · exact own_far (own_snoc (f := ptV) hown) (own_ne (own_snoc (f := ptV) hown) (show g6 < B by omega)) _
  · refine Since.setCell ?_ m6 _
    exact Below.grown (hS.trans hA) hgrow (hS.trans hA).size fun k hk => by
      have := (hnA.lt k hk).1
      omega
theorem LStV.pushK (h : LStV w0 w g5 g6 BO outs now vout vnow us B) (hA : Since w wA) (hgrow : wA.grownBy w' vnow.ownBlock) (g : Nat) (t : TypeId) (cs : Array Value) (h1 : t ≠ 33) (h2 : t ≠ 26 ∨ now = []) (hb : Blk w g t cs) :
    Blk (w'.setCell ⟨g6, 0, none⟩ v') g t cs := by
  obtain ⟨h5, h6, hne, l5, l6, m5, m6, hB, hs, ho, hr, hn, hS, hE⟩ := h
  have hnA := own_since hA hn
  have h6' : Blk w' g6 _ _ := (hA.blk h6).grown hgrow (own_ne hnA (show g6 < B by omega))
  have hb' : Blk w' g t cs := by
    rcases h2 with h2 | h2
    · exact (hA.blk hb).app hnA h2 hgrow
    · rw [hE h2] at hgrow
      exact (hA.blk hb).grown hgrow (by simp [Value.ownBlock])
  exact hb'.far (blk_ne hb' h6' h1) _
end

def endO (outs : List (List Pt2)) (now : List Pt2) : List (List Pt2) := if 1 < now.length then outs ++ [now] else outs
theorem rAt_snoc_lt {outs : List (List Pt2)} {x : List Pt2} {i : Nat} (h : i < outs.length) : rAt (outs ++ [x]) i = rAt outs i := by unfold rAt; simp [List.getD, List.getElem?_append_left h]
theorem rAt_snoc {outs : List (List Pt2)} {x : List Pt2} : rAt (outs ++ [x]) outs.length = x := by unfold rAt; simp [List.getD]

end Go.Proofs.Ytdbknodifpmmoaa
end
section
namespace Go.Proofs.Ytdbknodifpmmoaa
set_option linter.unusedSimpArgs false
set_option linter.unusedVariables false
open Go.RowKit Go.BigFrame

abbrev SegT := Option (CutT × CutT)
def cutP (k : CutT) : Pt2 := (k.2.2.1, k.2.2.2)
def lastP (l : List Pt2) : Pt2 := pAt l (l.length - 1)
def addP (l : List Pt2) (p : Pt2) : List Pt2 := if l.length = 0 then l ++ [p] else l
def addQ (l : List Pt2) (q : Pt2) : List Pt2 := if q = lastP l then l else l ++ [q]
def lineS (outs : List (List Pt2)) (now : List Pt2) (f : CutT) : List (List Pt2) × List Pt2 := if f.1 = 0 then (outs, now) else (endO outs now, [])
def lineStep (outs : List (List Pt2)) (now : List Pt2) : SegT → List (List Pt2) × List Pt2
  | none => (endO outs now, [])
  | some p => if p.2.1 = p.2.2.1 then ((lineS outs now p.1).1, addQ (addP (lineS outs now p.1).2 (cutP p.1)) (cutP p.2)) else (endO (lineS outs now p.1).1 (addQ (addP (lineS outs now p.1).2 (cutP p.1)) (cutP p.2)), [])
def lineRun (seg : Nat → SegT) : Nat → Nat → List (List Pt2) → List Pt2 → List (List Pt2) × List Pt2
  | 0, _, o, n => (o, n)
  | k + 1, i, o, n => lineRun seg k (i + 1) (lineStep o n (seg i)).1 (lineStep o n (seg i)).2
def segAt (l : List Pt2) (lx ly hx hy : Int) (i : Nat) : SegT := segV (pAt l (i - 1)).1 (pAt l (i - 1)).2 (pAt l i).1 (pAt l i).2 lx ly hx hy
def clipLine (l : List Pt2) (lx ly hx hy : Int) : List (List Pt2) :=
  if (lineB l && okB lx ly hx hy) = true then
    endO (lineRun (segAt l lx ly hx hy) (l.length - 1) 1 [] []).1 (lineRun (segAt l lx ly hx hy) (l.length - 1) 1 [] []).2
  else []


end Go.Proofs.Ytdbknodifpmmoaa
end
section
namespace Go.Proofs.Ytdbknodifpmmoaa
set_option linter.unusedSimpArgs false
set_option linter.unusedVariables false
open Go.RowKit Go.BigFrame
attribute [local go_sem ↓] eqPt neqPt

theorem i64w (n : Int) : IntKind.i64.wrap n = wrap64 n := by unfold wrap64; exact IntKind.wrap_i64 n
theorem tmod_emod {x n : Int} (h : 0 < n) : (if x.tmod n < 0 then x.tmod n + n else x.tmod n) = x % n := by
  have h1 := Int.mul_tdiv_add_tmod x n
  have h2 := Int.tmod_lt_of_pos x h
  have h3 := Int.lt_tmod_of_pos x h
  split
  · exact ((Int.ediv_emod_unique (r := x.tmod n + n) (q := x.tdiv n - 1) h).2 ⟨by rw [Int.mul_sub]; omega, by omega, by omega⟩).2.symm
  · exact ((Int.ediv_emod_unique (r := x.tmod n) (q := x.tdiv n) h).2 ⟨by omega, by omega, by omega⟩).2.symm
theorem Below_any (x n : Int) (w : World) (h1 : 1 ≤ n) (h2 : n ≤ 4611686018427387904) :
    Calls Try.prog 16 #[.int .i64 x, .int .i64 n] w fun e w' => e = .returned (.int .i64 (x % n)) ∧ w = w' := by
  have hz : ((n : Int) == 0) = false := by rw [beq_eq_false_iff_ne]; omega
  have r1 := Int.tmod_lt_of_pos x (show 0 < n by omega)
  have r2 := Int.lt_tmod_of_pos x (show 0 < n by omega)
  have HF := Lib.hid (tmod_emod (x := x) (n := n) (by omega))
  go_enter Try.func16, Try.ntmps16
  go_wp2
  all_goals (go_ret; exact ⟨ret_int (by have h := HF.out; rw [← h]; first | rw [if_pos (by assumption)] | rw [if_neg (by omega)]), rfl⟩)

/-- The slice v reads as the numbers l, in a block below B. -/
def IntsB (w : World) (v : Value) (l : List Int) (B : Nat) : Prop :=
  ∃ a c, v = .slice a l.length c ∧ l.length ≤ c ∧ c ≤ maxLen ∧ ∀ i, i < l.length → ∃ g o : Nat, a = some ⟨g, o, none⟩ ∧ g < B ∧ w.cell? ⟨g, o + i, none⟩ = some (.int .i64 (l.getD i 0))
theorem IntsB.keep {w w' : World} {v : Value} {l : List Int} {B : Nat} (h : IntsB w v l B) (k : ∀ (p : Addr) (u : Value), p.block < B → w.cell? p = some u → w'.cell? p = some u) : IntsB w' v l B := by
  obtain ⟨a, c, hv, hc, hm, h⟩ := h
  refine ⟨a, c, hv, hc, hm, fun i hi => ?_⟩
  obtain ⟨g, o, ha, hg, h1⟩ := h i hi
  exact ⟨g, o, ha, hg, k _ _ hg h1⟩
theorem IntsB.since {w w' : World} {v : Value} {l : List Int} {B : Nat} (h : IntsB w v l B) (k : Since w w') : IntsB w' v l B := h.keep fun p u _ hc => keepC k p u hc

/-- The stream in block gs gives the numbers l. -/
def Strm (w : World) (gs B : Nat) (l : List Int) : Prop := ∃ v, Blk w gs 60 #[v] ∧ IntsB w v l B ∧ B ≤ gs
theorem Strm.since {w w' : World} {gs B : Nat} {l : List Int} (h : Strm w gs B l) (k : Since w w') : Strm w' gs B l := by
  obtain ⟨v, hb, hi, hB⟩ := h
  exact ⟨v, k.blk hb, hi.since k, hB⟩
theorem Strm.far {w : World} {gs B : Nat} {l : List Int} (h : Strm w gs B l) {p : Addr} (hp : gs < p.block) (u : Value) : Strm (w.setCell p u) gs B l := by
  obtain ⟨v, hb, hi, hB⟩ := h
  exact ⟨v, hb.far (by omega) u, hi.keep (fun q x hq hc => by rw [cSetO (by rintro rfl; omega)]; exact hc), hB⟩
/-- What Next returns, and what is left. -/
def nextV (l : List Int) (n : Int) : Int × List Int := match l with
  | [] => (0, [])
  | x :: t => (x % n, t)

set_option maxHeartbeats 1000000 in
theorem Next_any (gs B : Nat) (l : List Int) (n : Int) (w : World) (h1 : 1 ≤ n) (h2 : n ≤ 1000000000) (h : Strm w gs B l) :
    Calls Try.prog 99 #[.pointer (some ⟨gs, 0, none⟩), .int .i64 n] w fun e w' => e = .returned (.int .i64 (nextV l n).1) ∧ Strm w' gs B (nextV l n).2 ∧ Only gs w w' := by
  obtain ⟨v, hb, ⟨a, c, rfl, hc, hm, hi⟩, hB⟩ := h
  have c0 : w.cell? ⟨gs, 0, none⟩ = some (.slice a l.length c) := hb.cell 0
  have f0 := hb.frozen 0
  have HB := Lib.hid hb
  have HI := Lib.hid hi
  have HM := Lib.hid hm
  clear hb hi
  unfold maxLen at hm
  rcases l with _ | ⟨x, t⟩
  · have c1 : w.cell? ⟨gs, 0, none⟩ = some (.slice a 0 c) := c0
    clear c0
    go_enter Try.func99, Try.ntmps99
    go_wp2
    go_ret
    exact ⟨rfl, ⟨_, HB.out, ⟨a, c, rfl, hc, HM.out, HI.out⟩, hB⟩, (Since.rfl_ w).only gs⟩
  · obtain ⟨g, o, ha, hg, e0⟩ := HI.out 0 (by simp)
    subst ha
    simp only [List.getD_cons_zero, Nat.add_zero] at e0
    have hlen : ((x :: t).length : Nat) = t.length + 1 := rfl
    rw [hlen] at c0 hc
    have hz : (((t.length + 1 : Nat) : Int) == 0) = false := by rw [beq_eq_false_iff_ne]; omega
    have hd : decide (n < 1) = false := by rw [decide_eq_false_iff_not]; omega
    have hp : decide ((0 : Int) < ((t.length + 1 : Nat) : Int)) = true := by rw [decide_eq_true_eq]; omega
    have hne : gs ≠ g := by omega
    clear hlen
    go_enter Try.func99, Try.ntmps99
    go_wp2_with fail
    all_goals
      refine (Below_any x n _ h1 (by omega)).mono ?_
      rintro e w2 ⟨rfl, rfl⟩
      go_wp2
      go_ret
      refine ⟨rfl, ⟨_, HB.out.set_ 0 _, ⟨_, _, rfl, by show t.length ≤ _; omega, by have := HM.out; unfold maxLen at this ⊢; omega, fun i hi => ?_⟩, hB⟩, ((Since.rfl_ w).only gs).setCell (.inl rfl) _⟩
      have hi' : i < t.length := hi
      first
        | (exfalso; omega)
        | (obtain ⟨g', o', ha, -, e1⟩ := HI.out (i + 1) (by show i + 1 < t.length + 1; omega)
           injection ha with ha
           injection ha with hg' ho'
           subst hg' ho'
           refine ⟨g, o + 1, rfl, hg, ?_⟩
           rw [cSetO (by intro h; injection h with h; exact hne h), show o + 1 + i = o + (i + 1) by omega, e1]
           rfl)

/-- A point of a stream. -/
def ptOf (l : List Int) : Pt2 × List Int := (((nextV l 81).1 - 40, (nextV (nextV l 81).2 81).1 - 40), (nextV (nextV l 81).2 81).2)
theorem next_bd (l : List Int) (n : Int) (h : 0 < n) : 0 ≤ (nextV l n).1 ∧ (nextV l n).1 < n := by
  unfold nextV
  split
  · exact ⟨Int.le_refl _, h⟩
  · exact ⟨Int.emod_nonneg _ (by omega), Int.emod_lt_of_pos _ h⟩
theorem ptOf_bd (l : List Int) : (-40 ≤ (ptOf l).1.1 ∧ (ptOf l).1.1 ≤ 40) ∧ (-40 ≤ (ptOf l).1.2 ∧ (ptOf l).1.2 ≤ 40) := by
  have h1 := next_bd l 81 (by decide)
  have h2 := next_bd (nextV l 81).2 81 (by decide)
  unfold ptOf
  dsimp only
  omega

theorem Sp_any (gs B : Nat) (l : List Int) (w : World) (h : Strm w gs B l) :
    Calls Try.prog 66 #[.pointer (some ⟨gs, 0, none⟩)] w fun e w' => e = .returned (.agg #[.int .i64 (ptOf l).1.1, .int .i64 (ptOf l).1.2]) ∧ Strm w' gs B (ptOf l).2 ∧ Only gs w w' := by
  have b1 := next_bd l 81 (by decide)
  have b2 := next_bd (nextV l 81).2 81 (by decide)
  have H := Lib.hid h
  obtain ⟨v, hb, -, -⟩ := h
  have hlt := hb.lt
  clear hb
  go_enter Try.func66, Try.ntmps66
  go_wp2_with fail
  refine (Next_any gs B l 81 _ (by decide) (by decide) (H.out.since ((Since.rfl_ w).alloc _))).mono ?_
  rintro e w1 ⟨rfl, hs, ho⟩
  have HS1 := Lib.hid hs
  have HB1 := Lib.hid (ho.blk (Blk.new w _ _) (by omega))
  have HO1 := Lib.hid (Only.trans (((Since.rfl_ w).only gs).alloc _) ho)
  clear hs ho
  go_wp2_with fail
  refine (Next_any gs B _ 81 _ (by decide) (by decide) HS1.out).mono ?_
  rintro e w2 ⟨rfl, hs, ho⟩
  have HS2 := Lib.hid hs
  have hb2 := ho.blk HB1.out (by omega)
  have k0 : w2.cell? ⟨w.heap.size, 0, none⟩ = some (.int .i64 0) := hb2.cell 0
  have k1 : w2.cell? ⟨w.heap.size, 1, none⟩ = some (.int .i64 0) := hb2.cell 1
  have f0 := hb2.frozen 0
  have f1 := hb2.frozen 1
  have HO2 := Lib.hid (HO1.out.trans ho)
  clear hs ho hb2
  go_wp2
  refine bodyPost_ret (v := .agg #[.int .i64 (ptOf l).1.1, .int .i64 (ptOf l).1.2]) (by simp [results, Try.results66, go_sem, cSetS, cSetO, k0, k1, ptOf]) rfl ⟨rfl, ?_, ?_⟩
  · exact (HS2.out.far (show gs < w.heap.size by omega) _).far (show gs < w.heap.size by omega) _
  · exact (HO2.out.setCell (.inr (Nat.le_refl _)) _).setCell (.inr (Nat.le_refl _)) _

theorem Strm.new {w : World} {v : Value} {l : List Int} {B gs : Nat} (h : IntsB w v l B) (hg : gs = w.heap.size) (hB : B ≤ gs) : Strm (w.alloc (.cells #[v] 60)) gs B l :=
  ⟨v, Blk.new' hg, h.since ((Since.rfl_ w).alloc _), hB⟩
theorem ptK_any (x y : Int) (w : World) : Calls Try.prog 36 #[.int .i64 x, .int .i64 y] w fun e w' => e = .returned (.agg #[.int .i64 x, .int .i64 y]) ∧ Since w w' := by
  go_enter Try.func36, Try.ntmps36
  go_wp2
  exact bodyPost_ret (v := .agg #[.int .i64 x, .int .i64 y]) (by simp [results, Try.results36, go_sem]) rfl ⟨rfl, (Since.rfl_ w).alloc _⟩
theorem ptL_any (x y : Int) (w : World) : Calls Try.prog 43 #[.int .i64 x, .int .i64 y] w fun e w' => e = .returned (.agg #[.int .i64 x, .int .i64 y]) ∧ Since w w' := by
  go_enter Try.func43, Try.ntmps43
  go_wp2
  exact bodyPost_ret (v := .agg #[.int .i64 x, .int .i64 y]) (by simp [results, Try.results43, go_sem]) rfl ⟨rfl, (Since.rfl_ w).alloc _⟩

/-- The box of a window. -/
def winA (l : List Int) : Int × List Int := ((nextV l 61).1 - 40, (nextV l 61).2)
def winV (l : List Int) : Int × Int × Int × Int :=
  let a := winA l
  let b := winA a.2
  let c := nextV b.2 40
  let d := nextV c.2 40
  (a.1, b.1, a.1 + c.1, b.1 + d.1)
theorem winV_bd (l : List Int) : (-40 ≤ (winV l).1 ∧ (winV l).1 ≤ 20) ∧ (-40 ≤ (winV l).2.1 ∧ (winV l).2.1 ≤ 20) ∧ ((winV l).1 ≤ (winV l).2.2.1 ∧ (winV l).2.2.1 ≤ 60) ∧ ((winV l).2.1 ≤ (winV l).2.2.2 ∧ (winV l).2.2.2 ≤ 60) := by
  have h1 := next_bd l 61 (by decide)
  have h2 := next_bd (nextV l 61).2 61 (by decide)
  have h3 := next_bd (nextV (nextV l 61).2 61).2 40 (by decide)
  have h4 := next_bd (nextV (nextV (nextV l 61).2 61).2 40).2 40 (by decide)
  unfold winV winA
  dsimp only
  omega

end Go.Proofs.Ytdbknodifpmmoaa
end
