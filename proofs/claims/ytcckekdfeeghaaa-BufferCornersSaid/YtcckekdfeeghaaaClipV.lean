/-
  Walks of what terrref3.Part leans on: bits.Mul64, bits.Div64, along, cmpAlong, along2, within, ratio.less. Conditions: bounds of the numbers.
-/
import Derived.Test.YtcckekdfeeghaaaClipP
import Derived.Test.YtcckekdfeeghaaaFacts
import Derived.Lib.Mul64
import Derived.Laws.Bits64b
import Derived.Shelf.Bits.Mul64
namespace Go.Proofs.Ytcckekdfeeghaaa
set_option linter.unusedSimpArgs false
set_option linter.unusedVariables false
open Go.RowKit Go.BigFrame

set_option maxHeartbeats 1000000 in
theorem Mul64_any (x y : Nat) (hx : x < 18446744073709551616) (hy : y < 18446744073709551616) (w : World) :
    Calls Try.prog 109 #[.int .u64 x, .int .u64 y] w fun e w' => e = .returned (.tuple #[.int .u64 ((x * y / 18446744073709551616 : Nat) : Int), .int .u64 ((x * y % 18446744073709551616 : Nat) : Int)]) ∧ w = w' := by
  obtain ⟨bd, bt, bw, hhi⟩ := Lib.mul64_hi x y hx hy
  have ba := Lib.half_mul_le (a := x / 4294967296) (b := y / 4294967296) (by omega) (by omega)
  have bb := Lib.half_mul_le (a := x / 4294967296) (b := y % 4294967296) (by omega) (by omega)
  have bc := Lib.half_mul_le (a := x % 4294967296) (b := y / 4294967296) (by omega) (by omega)
  have ba' : x / 4294967296 * (y / 4294967296) < 18446744073709551616 := by omega
  have bb' : x / 4294967296 * (y % 4294967296) < 18446744073709551616 := by omega
  have bc' : x % 4294967296 * (y / 4294967296) < 18446744073709551616 := by omega
  have bh1 : x / 4294967296 * (y / 4294967296) + (x / 4294967296 * (y % 4294967296) + x % 4294967296 * (y % 4294967296) / 4294967296) / 4294967296 < 18446744073709551616 := by omega
  have bh : x / 4294967296 * (y / 4294967296) + (x / 4294967296 * (y % 4294967296) + x % 4294967296 * (y % 4294967296) / 4294967296) / 4294967296 + ((x / 4294967296 * (y % 4294967296) + x % 4294967296 * (y % 4294967296) / 4294967296) % 4294967296 + x % 4294967296 * (y / 4294967296)) / 4294967296 < 18446744073709551616 := by omega
  go_enter Try.func109, Try.ntmps109
  go_wp2
  simp only [Mul64.maskN x hx, Mul64.maskN y hy, Mul64.divN, Mul64.mulN, Mul64.addN, Mul64.wrapN _ bd, Mul64.wrapN _ bb', Mul64.wrapN _ bt, Mul64.maskN _ bt, Mul64.wrapN _ bc', Mul64.wrapN _ bw, Mul64.wrapN _ ba', Mul64.wrapN _ bh1, Mul64.wrapN _ bh, Mul64.wrapM (x * y)]
  rw [hhi]
  go_ret2
  exact ⟨rfl, rfl⟩

theorem Mul64_low (x y : Nat) (h : x * y < 18446744073709551616) (hx : x < 18446744073709551616) (hy : y < 18446744073709551616) (w : World) :
    Calls Try.prog 109 #[.int .u64 x, .int .u64 y] w fun e w' => e = .returned (.tuple #[.int .u64 0, .int .u64 ((x * y : Nat) : Int)]) ∧ w = w' := by
  refine (Mul64_any x y hx hy w).mono ?_
  rintro e w' ⟨rfl, hw⟩
  refine ⟨?_, hw⟩
  rw [Nat.div_eq_of_lt h, Nat.mod_eq_of_lt h]; rfl

theorem Div64_any (y d : Nat) (hd : 0 < d) (hy : y < 18446744073709551616) (w : World) :
    Calls Try.prog 110 #[.int .u64 0, .int .u64 y, .int .u64 d] w fun e w' => e = .returned (.tuple #[.int .u64 ((y / d : Nat) : Int), .int .u64 ((y % d : Nat) : Int)]) ∧ Since w w' := by
  have dp : 0 < (d : Int) := by omega
  have h1 : ((d : Int) == 0) = false := by rw [beq_eq_false_iff_ne]; omega
  have b1 : y / d < 18446744073709551616 := Nat.lt_of_le_of_lt (Nat.div_le_self _ _) hy
  have u1 := Mul64.wrapN _ b1
  go_enter Try.func110, Try.ntmps110
  go_wp2
  go_region
  go_wp2
  go_ret2
  refine ⟨?_, (Since.rfl_ w).drew⟩
  show Ending.returned (.tuple #[.int .u64 (IntKind.u64.wrap ((y : Int) / (d : Int))), .int .u64 ((y : Int) % (d : Int))]) = _
  rw [← Int.natCast_ediv, u1]; rfl

def absI (n : Int) : Int := max n (-n)
theorem absI_nat (n : Int) : absI n = (n.natAbs : Int) := by unfold absI; omega
/-- The law of along's four ways out. -/
theorem rnd_pos (a m d : Nat) (hd : 0 < d) : rnd ((a : Int) * m) d = ((a * m / d : Nat) : Int) + (if d ≤ 2 * (a * m % d) then 1 else 0) := by
  have h := Nat.div_add_mod (a * m) d
  have hr := Nat.mod_lt (a * m) hd
  rw [← Int.natCast_mul]
  generalize a * m / d = q at *
  generalize a * m % d = r at *
  rw [← h]
  unfold rnd
  rw [show 2 * ((d * q + r : Nat) : Int) + d = 2 * r + d + 2 * d * q by push_cast; grind, Int.add_mul_ediv_left _ _ (by omega)]
  split
  · rw [show (2 * r + d : Int) / (2 * d) = 1 from by
      rw [Int.ediv_eq_iff_of_pos (by omega)]; omega]; omega
  · rw [Int.ediv_eq_zero_of_lt (by omega) (by omega)]; omega
theorem rnd_neg (a m d : Nat) (hd : 0 < d) : rnd (-((a : Int) * m)) d = -((a * m / d : Nat) : Int) - (if d < 2 * (a * m % d) then 1 else 0) := by
  have h := Nat.div_add_mod (a * m) d
  have hr := Nat.mod_lt (a * m) hd
  rw [← Int.natCast_mul]
  generalize a * m / d = q at *
  generalize a * m % d = r at *
  rw [← h]
  unfold rnd
  rw [show 2 * -((d * q + r : Nat) : Int) + d = (d - 2 * r) + 2 * d * (-q) by push_cast; grind, Int.add_mul_ediv_left _ _ (by omega)]
  split
  · rw [show (d - 2 * r : Int) / (2 * d) = -1 from by
      rw [Int.ediv_eq_iff_of_pos (by omega)]; omega]; omega
  · rw [Int.ediv_eq_zero_of_lt (by omega) (by omega)]; omega

theorem along_nat (from_ way : Int) (a m k : Nat) (w : World) (hf : from_.natAbs ≤ 4194304) (ha : a ≤ 4194304) (hw : way = (a : Int) ∨ way = -(a : Int)) (hn : m ≤ k) (hd : 0 < k) (hd2 : k ≤ 4611686018427387904) (hm : a * m < 18446744073709551616) :
    Calls Try.prog 83 #[.int .i64 from_, .int .i64 way, .int .i64 m, .int .i64 k] w fun e w' => e = .returned (.int .i64 (from_ + rnd (way * m) k)) ∧ Since w w' := by
  have e1 : IntKind.u64.wrap (a : Int) = (a : Int) := Mul64.wrapN _ (by omega)
  have e2 : IntKind.u64.wrap (m : Int) = (m : Int) := Mul64.wrapN _ (by omega)
  have e3 : IntKind.u64.wrap (k : Int) = (k : Int) := Mul64.wrapN _ (by omega)
  have hq : a * m / k ≤ a := Nat.div_le_of_le_mul (by rw [Nat.mul_comm k a]; exact Nat.mul_le_mul_left _ (by omega))
  have hr := Nat.mod_lt (a * m) (show 0 < k by omega)
  have HP := Lib.hid (rnd_pos a m k (by omega))
  have HN := Lib.hid (rnd_neg a m k (by omega))
  have M1 := Lib.hid (Mul64_low a m hm (by omega) (by omega) w)
  have D1 := Lib.hid (Div64_any (a * m) k (by omega) hm w)
  generalize a * m / k = q at *
  generalize a * m % k = r at *
  have e4 : wrap64 ((q : Nat) : Int) = (q : Int) := wrap_id (by omega)
  have e5 : IntKind.u64.wrap (2 * (r : Int)) = 2 * (r : Int) := by rw [IntKind.wrap_u64]; omega
  clear hm
  have hb1 : -4194304 ≤ way := by omega
  have hb2 : way ≤ 4194304 := by omega
  have hf1 : -4194304 ≤ from_ := by omega
  have hf2 : from_ ≤ 4194304 := by omega
  rcases Int.lt_or_le way 0 with hs | hs
  · obtain rfl : way = -(a : Int) := by omega
    have hs' : 0 < (a : Int) := by omega
    clear hw
    go_enter Try.func83, Try.ntmps83
    go_wp2_with fail
    refine M1.out.mono ?_
    rintro e w1 ⟨rfl, rfl⟩
    go_wp2_with fail
    refine D1.out.mono ?_
    rintro e w2 ⟨rfl, hs⟩
    have HS := Lib.hid hs
    clear hs
    go_wp2_with fail
    all_goals (go_ret; exact ⟨ret_int (by rw [Int.neg_mul, HN.out]; split <;> omega), HS.out⟩)
  · obtain rfl : way = (a : Int) := by omega
    clear hw
    go_enter Try.func83, Try.ntmps83
    go_wp2_with fail
    refine M1.out.mono ?_
    rintro e w1 ⟨rfl, rfl⟩
    go_wp2_with fail
    refine D1.out.mono ?_
    rintro e w2 ⟨rfl, hs⟩
    have HS := Lib.hid hs
    clear hs
    go_wp2_with fail
    all_goals (go_ret; exact ⟨ret_int (by rw [HP.out]; split <;> omega), HS.out⟩)

theorem along_any (from_ way n d : Int) (w : World) (hf : from_.natAbs ≤ 4194304) (hw : way.natAbs ≤ 4194304) (hn : 0 ≤ n) (hnd : n ≤ d) (hd : 0 < d) (hd2 : d ≤ 4611686018427387904) (hm : (way * n).natAbs < 18446744073709551616) :
    Calls Try.prog 83 #[.int .i64 from_, .int .i64 way, .int .i64 n, .int .i64 d] w fun e w' => e = .returned (.int .i64 (from_ + rnd (way * n) d)) ∧ Since w w' := by
  obtain ⟨m, rfl⟩ : ∃ m : Nat, (m : Int) = n := ⟨n.toNat, by omega⟩
  obtain ⟨k, rfl⟩ : ∃ k : Nat, (k : Int) = d := ⟨d.toNat, by omega⟩
  rw [Int.natAbs_mul, Int.natAbs_natCast] at hm
  exact along_nat from_ way way.natAbs m k w hf hw (by omega) (by omega) (by omega) (by omega) hm

theorem wrap_diff (a b : Int) (h : (a - b).natAbs ≤ 4611686018427387904) : wrap64 (wrap64 a - wrap64 b) = a - b := by
  unfold wrap64
  omega

theorem cmpAlong_any (from_ way n d at_ : Int) (w : World) (hf : (at_ - from_).natAbs ≤ 4194304) (h : (way * n - (at_ - from_) * d).natAbs ≤ 4611686018427387904) :
    Calls Try.prog 148 #[.int .i64 from_, .int .i64 way, .int .i64 n, .int .i64 d, .int .i64 at_] w fun e w' => e = .returned (.int .i64 (sgn (way * n - (at_ - from_) * d))) ∧ w = w' := by
  have e1 := wrap_diff _ _ h
  have e2 : wrap64 (at_ - from_) = at_ - from_ := wrap_id (by omega)
  have HS := Lib.hid (sign_any (way * n - (at_ - from_) * d) w)
  clear h hf
  go_enter Try.func148, Try.ntmps148
  go_wp2_with fail
  refine HS.out.mono ?_
  rintro e w1 ⟨rfl, rfl⟩
  go_wp2_with fail
  go_ret
  exact ⟨rfl, rfl⟩

theorem rnd_err (x d : Int) (hd : 0 < d) : -d ≤ 2 * (x - rnd x d * d) ∧ 2 * (x - rnd x d * d) < d := by
  have h1 := Int.mul_ediv_add_emod (2 * x + d) (2 * d)
  have h2 := Int.emod_nonneg (2 * x + d) (show 2 * d ≠ 0 by omega)
  have h3 := Int.emod_lt_of_pos (2 * x + d) (show 0 < 2 * d by omega)
  unfold rnd
  generalize (2 * x + d) / (2 * d) = q at *
  rw [show 2 * d * q = 2 * (q * d) by grind] at h1
  omega
theorem ret_two {a b c d : Int} (h : a = c) (k : b = d) : Ending.returned (.tuple #[.int .i64 a, .int .i64 b]) = .returned (.tuple #[.int .i64 c, .int .i64 d]) := by rw [h, k]
/-- from + way * n / d rounded down, up. -/
def lowI (from_ way n d : Int) : Int := from_ + rnd (way * n) d - (if way * n < rnd (way * n) d * d then 1 else 0)
def upI (from_ way n d : Int) : Int := from_ + rnd (way * n) d + (if rnd (way * n) d * d < way * n then 1 else 0)
theorem along2_any (from_ way n d : Int) (w : World) (hf : from_.natAbs ≤ 2097152) (hw : way.natAbs ≤ 2097152) (hn : 0 ≤ n) (hnd : n ≤ d) (hd : 0 < d) (hd2 : d ≤ 4611686018427387904) (hm : (way * n).natAbs < 18446744073709551616) :
    Calls Try.prog 123 #[.int .i64 from_, .int .i64 way, .int .i64 n, .int .i64 d] w fun e w' => e = .returned (.tuple #[.int .i64 (lowI from_ way n d), .int .i64 (upI from_ way n d)]) ∧ Since w w' := by
  have A1 := Lib.hid (along_any from_ way n d w (by omega) (by omega) hn hnd hd hd2 hm)
  have hr : (rnd (way * n) d).natAbs ≤ 2097152 ∧ (way * n - rnd (way * n) d * d).natAbs ≤ 4611686018427387904 := by
    have h1 : way * n ≤ 2097152 * d := by
      rcases Int.le_total 0 way with h | h
      · exact Int.le_trans (Int.mul_le_mul_of_nonneg_left hnd h) (Int.mul_le_mul_of_nonneg_right (by omega) (by omega))
      · exact Int.le_trans (Int.mul_nonpos_of_nonpos_of_nonneg h hn) (by omega)
    have h2 : -2097152 * d ≤ way * n := by
      rcases Int.le_total 0 way with h | h
      · exact Int.le_trans (by omega) (Int.mul_nonneg h hn)
      · exact Int.le_trans (Int.mul_le_mul_of_nonneg_right (show -2097152 ≤ way by omega) (by omega)) (Int.mul_le_mul_of_nonpos_left h hnd)
    have h3 := rnd_le hd h1
    have h4 := rnd_ge hd h2
    have h5 := rnd_err (way * n) d hd
    omega
  have C1 := Lib.hid (fun w => cmpAlong_any from_ way n d (from_ + rnd (way * n) d) w (by omega) (by rw [show from_ + rnd (way * n) d - from_ = rnd (way * n) d by omega]; exact hr.2))
  rw [show from_ + rnd (way * n) d - from_ = rnd (way * n) d by omega] at C1
  have HL : Hid (lowI from_ way n d = from_ + rnd (way * n) d - (if way * n < rnd (way * n) d * d then 1 else 0)) := rfl
  have HU : Hid (upI from_ way n d = from_ + rnd (way * n) d + (if rnd (way * n) d * d < way * n then 1 else 0)) := rfl
  have hb1 : -2097152 ≤ rnd (way * n) d := by omega
  have hb2 : rnd (way * n) d ≤ 2097152 := by omega
  have hf1 : -2097152 ≤ from_ := by omega
  have hf2 : from_ ≤ 2097152 := by omega
  clear hr hm
  generalize rnd (way * n) d = r at *
  obtain ⟨x, hx⟩ : ∃ x, x = way * n - r * d := ⟨_, rfl⟩
  rw [← hx] at C1
  have hx1 : (way * n < r * d) = (x < 0) := by rw [hx]; apply propext; omega
  have hx2 : (r * d < way * n) = (0 < x) := by rw [hx]; apply propext; omega
  simp only [hx1] at HL
  simp only [hx2] at HU
  have HV : Hid (sgn x = if 0 < x then 1 else if x < 0 then -1 else 0) := rfl
  generalize sgn x = c at *
  clear hx hx1 hx2
  go_enter Try.func123, Try.ntmps123
  go_wp2_with fail
  refine A1.out.mono ?_
  rintro e w1 ⟨rfl, hs⟩
  have HS := Lib.hid hs
  clear hs
  go_wp2_with fail
  refine (C1.out _).mono ?_
  rintro e w2 ⟨rfl, rfl⟩
  go_wp2_with fail
  all_goals (go_ret2; exact ⟨ret_two (by have h1 := HL.out; have h2 := HV.out; rw [h1]; (repeat' split at h2) <;> (split <;> omega)) (by have h1 := HU.out; have h2 := HV.out; rw [h1]; (repeat' split at h2) <;> (split <;> omega)), HS.out⟩)

def withinB (from_ way n d low high : Int) : Bool := decide (low * d ≤ from_ * d + way * n) && decide (from_ * d + way * n ≤ high * d)
theorem low_iff (from_ way n d low : Int) (hd : 0 < d) : low ≤ lowI from_ way n d ↔ low * d ≤ from_ * d + way * n := by
  have h := rnd_err (way * n) d hd
  unfold lowI
  generalize rnd (way * n) d = r at *
  generalize way * n = x at *
  constructor
  · intro k
    split at k
    · have := Int.mul_le_mul_of_nonneg_right k (Int.le_of_lt hd)
      rw [show (from_ + r - 1) * d = from_ * d + r * d - d by grind] at this
      omega
    · have := Int.mul_le_mul_of_nonneg_right k (Int.le_of_lt hd)
      rw [show (from_ + r - 0) * d = from_ * d + r * d by grind] at this
      omega
  · intro k
    split
    · have : low * d < (from_ + r) * d := by rw [Int.add_mul]; omega
      have := Int.lt_of_mul_lt_mul_right this (Int.le_of_lt hd)
      omega
    · have : low * d < (from_ + r + 1) * d := by rw [Int.add_mul, Int.add_mul]; omega
      have := Int.lt_of_mul_lt_mul_right this (Int.le_of_lt hd)
      omega
theorem up_iff (from_ way n d high : Int) (hd : 0 < d) : upI from_ way n d ≤ high ↔ from_ * d + way * n ≤ high * d := by
  have h := rnd_err (way * n) d hd
  unfold upI
  generalize rnd (way * n) d = r at *
  generalize way * n = x at *
  constructor
  · intro k
    split at k
    · have := Int.mul_le_mul_of_nonneg_right k (Int.le_of_lt hd)
      rw [show (from_ + r + 1) * d = from_ * d + r * d + d by grind] at this
      omega
    · have := Int.mul_le_mul_of_nonneg_right k (Int.le_of_lt hd)
      rw [show (from_ + r + 0) * d = from_ * d + r * d by grind] at this
      omega
  · intro k
    split
    · have : (from_ + r) * d < high * d := by rw [Int.add_mul]; omega
      have := Int.lt_of_mul_lt_mul_right this (Int.le_of_lt hd)
      omega
    · have : (from_ + r - 1) * d < high * d := by rw [Int.sub_mul, Int.add_mul]; omega
      have := Int.lt_of_mul_lt_mul_right this (Int.le_of_lt hd)
      omega
theorem within_any (from_ way n d low high : Int) (w : World) (hf : from_.natAbs ≤ 2097152) (hw : way.natAbs ≤ 2097152) (hn : 0 ≤ n) (hnd : n ≤ d) (hd : 0 < d) (hd2 : d ≤ 4611686018427387904) (hm : (way * n).natAbs < 18446744073709551616) :
    Calls Try.prog 108 #[.int .i64 from_, .int .i64 way, .int .i64 n, .int .i64 d, .int .i64 low, .int .i64 high] w fun e w' => e = .returned (.bool (withinB from_ way n d low high)) ∧ Since w w' := by
  have A1 := Lib.hid (along2_any from_ way n d w hf hw hn hnd hd hd2 hm)
  have h1 : decide (low ≤ lowI from_ way n d) = decide (low * d ≤ from_ * d + way * n) := by rw [decide_eq_decide]; exact low_iff _ _ _ _ _ hd
  have h2 : decide (upI from_ way n d ≤ high) = decide (from_ * d + way * n ≤ high * d) := by rw [decide_eq_decide]; exact up_iff _ _ _ _ _ hd
  have HF : Hid (withinB from_ way n d low high = (decide (low ≤ lowI from_ way n d) && decide (upI from_ way n d ≤ high))) := by show _ = _; rw [h1, h2]; rfl
  clear h1 h2 hm
  generalize lowI from_ way n d = l at *
  generalize upI from_ way n d = u at *
  cases h1 : decide (low ≤ l)
  all_goals
    go_enter Try.func108, Try.ntmps108
    go_wp2_with fail
    refine A1.out.mono ?_
    rintro e w1 ⟨rfl, hs⟩
    have HS := Lib.hid hs
    clear hs
    go_wp2_with fail
    go_ret
    exact ⟨ret_bool (by rw [HF.out, h1]; simp), HS.out⟩

/-- A ratio n / d. -/
abbrev Rat2 := Int × Int
def ltR (s t : Rat2) : Bool := decide (s.1 * t.2 < t.1 * s.2)
def ratV (s : Rat2) : Value := .agg #[.int .i64 s.1, .int .i64 s.2]
theorem lessR_any (s t : Rat2) (w : World) (h1 : s.1.natAbs ≤ 16777216) (h2 : t.1.natAbs ≤ 16777216) (h3 : s.2.natAbs ≤ 16777216) (h4 : t.2.natAbs ≤ 16777216) :
    Calls Try.prog 107 #[.agg #[.int .i64 s.1, .int .i64 s.2], .agg #[.int .i64 t.1, .int .i64 t.2]] w fun e w' => e = .returned (.bool (ltR s t)) ∧ Since w w' := by
  have e1 : wrap64 (s.1 * t.2) = s.1 * t.2 := wrap_id (Nat.le_trans (mul_bd h1 h4) (by decide))
  have e2 : wrap64 (t.1 * s.2) = t.1 * s.2 := wrap_id (Nat.le_trans (mul_bd h2 h3) (by decide))
  clear h1 h2 h3 h4
  go_enter Try.func107, Try.ntmps107
  go_wp2
  go_ret
  exact ⟨rfl, ((Since.rfl_ w).alloc _).alloc _⟩

def cmpR (s t : Rat2) : Int := if ltR s t = true then -1 else if ltR t s = true then 1 else 0
def okR (s : Rat2) : Prop := s.1.natAbs ≤ 16777216 ∧ s.2.natAbs ≤ 16777216
theorem cmpR_any (s t : Rat2) (w : World) (hs : okR s) (ht : okR t) :
    Calls Try.prog 106 #[.agg #[.int .i64 s.1, .int .i64 s.2], .agg #[.int .i64 t.1, .int .i64 t.2]] w fun e w' => e = .returned (.int .i64 (cmpR s t)) ∧ Since w w' := by
  have L1 := Lib.hid (fun w => lessR_any s t w hs.1 ht.1 hs.2 ht.2)
  have L2 := Lib.hid (fun w => lessR_any t s w ht.1 hs.1 ht.2 hs.2)
  have HF : Hid (cmpR s t = if ltR s t = true then -1 else if ltR t s = true then 1 else 0) := rfl
  clear hs ht
  go_enter Try.func106, Try.ntmps106
  go_wp2_with fail
  refine (L1.out _).mono ?_
  rintro e w1 ⟨rfl, hs⟩
  have ha := hs.blk ((Blk.new w 106 #[.int .i64 s.1, .int .i64 s.2]).alloc (.cells #[.int .i64 t.1, .int .i64 t.2] 106))
  have hb := hs.blk (Blk.new' (w := w.alloc (.cells #[.int .i64 s.1, .int .i64 s.2] 106)) (g := w.heap.size + 1) (t := 106) (cs := #[.int .i64 t.1, .int .i64 t.2]) (by simp))
  have HS := Lib.hid ((((Since.rfl_ w).alloc _).alloc _).trans hs)
  have a_0 := ha.cell 0
  have a_1 := ha.cell 1
  have a_f0 := ha.frozen 0
  have a_f1 := ha.frozen 1
  simp only [List.getElem?_toArray, List.getElem?_cons_zero, List.getElem?_cons_succ] at a_0 a_1
  have b_0 := hb.cell 0
  have b_1 := hb.cell 1
  have b_f0 := hb.frozen 0
  have b_f1 := hb.frozen 1
  simp only [List.getElem?_toArray, List.getElem?_cons_zero, List.getElem?_cons_succ] at b_0 b_1
  clear ha hb hs
  cases h1 : ltR s t
  · go_wp2_with fail
    refine (L2.out _).mono ?_
    rintro e w2 ⟨rfl, hs⟩
    have HS2 := Lib.hid (HS.out.trans hs)
    clear hs a_0 a_1 b_0 b_1 a_f0 a_f1 b_f0 b_f1
    cases h2 : ltR t s
    all_goals
      go_wp2_with fail
      go_ret
      exact ⟨ret_int (by rw [HF.out, h1, h2]; rfl), HS2.out⟩
  · go_wp2_with fail
    go_ret
    exact ⟨ret_int (by rw [HF.out, h1]; rfl), HS.out⟩
end Go.Proofs.Ytcckekdfeeghaaa
