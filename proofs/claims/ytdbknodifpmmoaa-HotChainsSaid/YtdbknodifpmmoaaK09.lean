/-
  Walks of package wide: Short, Add, Div; Walks of package frac: size, gcd, signed, Make, Of, Good, fit; Walks of package frac: divide, Add (an integer and a fraction), parts, Round. Conditions: those that each lemma names.
-/
import Derived.Test.YtdbknodifpmmoaaK08
import Derived.Laws.StructEq
import Derived.Laws.DeepNot64
import Derived.Test.YtdbknodifpmmoaaK02
import Derived.Test.YtdbknodifpmmoaaK07
section
namespace Go.Proofs.Ytdbknodifpmmoaa
set_option linter.unusedSimpArgs false
set_option linter.unusedVariables false
open Go.RowKit Go.BigFrame

theorem hwi : Try.prog.stoodInHeld 147 = false := by kernel_rfl
theorem eqWS (x y x' y' : Int) (d : Nat) (w : World) : (Op.equalIn (d + 1 + 1) 147 (.agg #[.int .i64 x, .int .u64 y]) (.agg #[.int .i64 x', .int .u64 y'])).run Try.prog w = .ok (x == x' && y == y') w := by
  rw [run_equalIn_struct (P := Try.prog) w (d + 1) 147 _ _ (by simp [Program.fieldsOf, Try.underlying147]) hwi]
  simp only [Program.fieldsOf, Try.underlying147]
  have h1 := run_equalIn_int (P := Try.prog) w d 2 .i64 .i64 x x' Try.underlying2
  have h2 := run_equalIn_int (P := Try.prog) w d 143 .u64 .u64 y y' Try.underlying143
  cases e1 : (x == x') <;> cases e2 : (y == y') <;> simp [Op.eqFields, go_sem, h1, h2, e1, e2]
theorem neqW (x y x' y' : Int) (w : World) : (binOp .neq 147 (.agg #[.int .i64 x, .int .u64 y]) (.agg #[.int .i64 x', .int .u64 y'])).run Try.prog w = .ok (.bool (!(x == x' && y == y'))) w := by
  have h : (Op.equal 147 (.agg #[.int .i64 x, .int .u64 y]) (.agg #[.int .i64 x', .int .u64 y'])).run Try.prog w = .ok (x == x' && y == y') w := eqWS x y x' y' 9998 w
  simp only [binOp]
  simp [h]
attribute [local go_sem ↓] neqW

/-- uint64 to int. -/
theorem lo_short {z : Int} (h : -9223372036854775808 ≤ z ∧ z ≤ 9223372036854775807) : wrap64 (wLo z) = z := by rw [i64W]; unfold wLo; omega
theorem Short_w (z : Int) (h : -9223372036854775808 ≤ z ∧ z ≤ 9223372036854775807) (w : World) :
    Calls Try.prog 124 #[wideV z] w fun e w' => e = .returned (.tuple #[.int .i64 z, .int .i64 0]) ∧ Since w w' := by
  have hl := lo_short h
  have HO := Lib.hid (fun w => Of_w z h w)
  unfold wideV at HO ⊢
  obtain ⟨a, ha⟩ : ∃ a, a = wHi z := ⟨_, rfl⟩
  obtain ⟨b, hb⟩ : ∃ b, b = wLo z := ⟨_, rfl⟩
  rw [← ha, ← hb] at HO
  rw [← hb] at hl
  rw [← ha, ← hb]
  clear ha hb h
  have he : (a == a && b == b) = true := by simp
  go_enter Try.func124, Try.ntmps124
  go_upto_region 1 with fail
  refine region_cls (fun w' => w'.cell? ⟨w.heap.size, 0, none⟩ = some (.int .i64 a) ∧ w'.cell? ⟨w.heap.size, 1, none⟩ = some (.int .u64 b) ∧ Since w w') (by kernel_rfl) (by kernel_rfl) (by (repeat' refine And.intro ?_ ?_) <;> first | (simp (maxDischargeDepth := 9) [ cSetS, cSetO, cellNew, World.cell?_alloc_some, cellDrew]; done) | (repeat (first | with_reducible assumption | with_reducible exact Since.rfl_ _ | refine Since.setCell ?_ (by (try dsimp only); omega) _ | refine Since.alloc ?_ _ | refine Since.drew ?_))) ?_
  repeat (go_big_quiet_step ((first | (intro hC; go_at_call 156; refine (HO.out _).mono ?_; rintro e w' ⟨rfl, hb⟩; refine ⟨rfl, ?_⟩; have k1 := keepC hb; have k2 := keepS hb; have hC := hC.out; (try dsimp only at hC); simp [Cls, hC, k1, k2]) | (intro hC; have hC := hC.out; (try simp only [hC, Result.andThen]); first | exact ⟨True.intro, rfl⟩ | exact ⟨rfl, rfl⟩ | rfl))))
  refine cls_end ?_
  rintro w2 ⟨c0, c1, hs⟩
  have HS := Lib.hid hs
  clear hs
  go_wp2_with fail
  go_ret2
  exact ⟨by show Ending.returned (.tuple #[.int .i64 (wrap64 b), .int .i64 0]) = _; rw [hl], HS.out⟩

theorem DivP_w (l n : Int) (hl : 0 ≤ l ∧ l < 18446744073709551616) (hn : 1 ≤ n ∧ n ≤ 9223372036854775807) (w : World) :
    Calls Try.prog 122 #[.agg #[.int .i64 0, .int .u64 l], .int .i64 n] w fun e w' => e = .returned (.tuple #[.agg #[.int .i64 0, .int .u64 (l / n)], .int .i64 (l % n), .int .i64 0]) ∧ Since w w' := by
  have hm := Int.emod_nonneg l (show n ≠ 0 by omega)
  have hm2 := Int.emod_lt_of_pos l (show 0 < n by omega)
  obtain ⟨L, rfl⟩ := Int.eq_ofNat_of_zero_le hl.1
  obtain ⟨D, rfl⟩ := Int.eq_ofNat_of_zero_le (show 0 ≤ n by omega)
  have HD := Lib.hid (fun w => Div64B L D (by omega) (by omega) w)
  obtain ⟨q, HQ⟩ : ∃ q : Int, Hid (q = ((L / D : Nat) : Int)) := ⟨_, rfl⟩
  obtain ⟨r, HR⟩ : ∃ r : Int, Hid (r = ((L % D : Nat) : Int)) := ⟨_, rfl⟩
  have e1 : (L : Int) / (D : Int) = q := by rw [HQ.out]; simp
  have e2 : (L : Int) % (D : Int) = r := by rw [HR.out]; simp
  rw [← HQ.out, ← HR.out] at HD
  rw [e2] at hm hm2
  rw [e1, e2]
  have HE := Lib.hid (And.intro e1 e2)
  clear e1 e2
  have hd0 : ((D : Int) == 0) = false := by rw [beq_eq_false_iff_ne]; omega
  go_enter Try.func122, Try.ntmps122
  go_wp2_with fail
  go_quiet (fail)
  go_wp2_with fail
  refine (HD.out _).mono ?_
  rintro e w2 ⟨rfl, hs⟩
  have hs0 : Since w w2 := Since.trans ((((Since.rfl_ w).alloc _).alloc _).drewN _) hs
  have hb := hs.blk ((Blk.new' (w := w.alloc (.cells #[.int .i64 0, .int .u64 (L : Int)] 147)) (g := w.heap.size + 1) (t := 147) (cs := #[.int .i64 0, .int .u64 0]) (by simp)).drewN _)
  have r0 : w2.cell? ⟨w.heap.size + 1, 0, none⟩ = some (.int .i64 0) := hb.cell 0
  have r1 : w2.cell? ⟨w.heap.size + 1, 1, none⟩ = some (.int .u64 0) := hb.cell 1
  have f0 := hb.frozen 0
  have f1 := hb.frozen 1
  have HS := Lib.hid hs0
  clear hs hs0 hb
  go_wp2_with fail
  refine bodyPost_ret (v := .tuple #[.agg #[.int .i64 0, .int .u64 q], .int .i64 r, .int .i64 0]) (by simp [results, Try.results122, go_sem, cSetS, cSetO, cellDrew, r0, r1]) rfl ⟨rfl, ?_⟩
  exact (HS.out.setCell (by dsimp only; omega) _).setCell (by dsimp only; omega) _

theorem u64_not (a : Nat) (ha : a < 18446744073709551616) : bits .xor .u64 IntKind.u64.max (a : Int) = 18446744073709551615 - (a : Int) := by
  show IntKind.u64.wrap ((BitVec.ofInt 64 IntKind.u64.max ^^^ BitVec.ofInt 64 (a : Int)).toNat : Int) = _
  have h1 : BitVec.ofInt 64 IntKind.u64.max = BitVec.allOnes 64 := by decide
  rw [h1, BitVec.allOnes_xor, BitVec.toNat_not, ofInt_u64 a (by omega), uW_eq]
  unfold uW
  omega
theorem u64_notI (x : Int) (h : 0 ≤ x ∧ x < 18446744073709551616) : bits .xor .u64 IntKind.u64.max x = 18446744073709551615 - x := by
  obtain ⟨a, rfl⟩ := Int.eq_ofNat_of_zero_le h.1
  exact u64_not a (by omega)
theorem DivN_w (l n : Int) (hl : 0 ≤ l ∧ l < 18446744073709551616) (hn : 1 ≤ n ∧ n ≤ 9223372036854775807) (w : World) :
    Calls Try.prog 122 #[.agg #[.int .i64 (-1), .int .u64 l], .int .i64 n] w fun e w' => e = .returned (.tuple #[.agg #[.int .i64 (-1), .int .u64 (18446744073709551615 - (18446744073709551615 - l) / n)], .int .i64 (n - 1 - (18446744073709551615 - l) % n), .int .i64 0]) ∧ Since w w' := by
  obtain ⟨k, hk⟩ : ∃ k, k = 18446744073709551615 - l := ⟨_, rfl⟩
  have hx : bits .xor .u64 IntKind.u64.max l = k := by rw [hk]; exact u64_notI l hl
  have hz : bits .xor .i64 (-1) (-1) = 0 := by decide
  have hz2 : bits .xor .i64 (-1) 0 = -1 := by decide
  have hkb : 0 ≤ k ∧ k < 18446744073709551616 := by omega
  rw [← hk]
  have HK := Lib.hid hk
  clear hk
  have hm := Int.emod_nonneg k (show n ≠ 0 by omega)
  have hm2 := Int.emod_lt_of_pos k (show 0 < n by omega)
  have hq : 0 ≤ k / n ∧ k / n ≤ k := ⟨Int.ediv_nonneg hkb.1 (by omega), Int.ediv_le_self _ hkb.1⟩
  obtain ⟨L, rfl⟩ := Int.eq_ofNat_of_zero_le hkb.1
  obtain ⟨D, rfl⟩ := Int.eq_ofNat_of_zero_le (show 0 ≤ n by omega)
  have HD := Lib.hid (fun w => Div64B L D (by omega) (by omega) w)
  obtain ⟨q, HQ⟩ : ∃ q : Int, Hid (q = ((L / D : Nat) : Int)) := ⟨_, rfl⟩
  obtain ⟨r, HR⟩ : ∃ r : Int, Hid (r = ((L % D : Nat) : Int)) := ⟨_, rfl⟩
  have e1 : (L : Int) / (D : Int) = q := by rw [HQ.out]; simp
  have e2 : (L : Int) % (D : Int) = r := by rw [HR.out]; simp
  rw [← HQ.out, ← HR.out] at HD
  rw [e2] at hm hm2
  rw [e1] at hq
  rw [e1, e2]
  have HE := Lib.hid (And.intro e1 e2)
  clear e1 e2
  have hd0 : ((D : Int) == 0) = false := by rw [beq_eq_false_iff_ne]; omega
  have hy : bits .xor .u64 IntKind.u64.max q = 18446744073709551615 - q := u64_notI q (by omega)
  go_enter Try.func122, Try.ntmps122
  go_wp2_with fail
  go_quiet (fail)
  go_wp2_with fail
  refine (HD.out _).mono ?_
  rintro e w2 ⟨rfl, hs⟩
  have hs0 : Since w w2 := Since.trans ((((Since.rfl_ w).alloc _).alloc _).drewN _) hs
  have hb := hs.blk ((Blk.new' (w := w.alloc (.cells #[.int .i64 0, .int .u64 (L : Int)] 147)) (g := w.heap.size + 1) (t := 147) (cs := #[.int .i64 0, .int .u64 0]) (by simp)).drewN _)
  have r0 : w2.cell? ⟨w.heap.size + 1, 0, none⟩ = some (.int .i64 0) := hb.cell 0
  have r1 : w2.cell? ⟨w.heap.size + 1, 1, none⟩ = some (.int .u64 0) := hb.cell 1
  have f0 := hb.frozen 0
  have f1 := hb.frozen 1
  have HS := Lib.hid hs0
  clear hs hs0 hb
  go_wp2_with fail
  refine bodyPost_ret (v := .tuple #[.agg #[.int .i64 (-1), .int .u64 (18446744073709551615 - q)], .int .i64 ((D : Int) - 1 - r), .int .i64 0]) (by simp [results, Try.results122, go_sem, cSetS, cSetO, cellDrew, r0, r1]) rfl ⟨rfl, ?_⟩
  exact (HS.out.setCell (by dsimp only; omega) _).setCell (by dsimp only; omega) _
/-- Div rounds down. -/
theorem Div_w (z n : Int) (hz : -18446744073709551616 ≤ z ∧ z < 18446744073709551616) (hn : 1 ≤ n ∧ n ≤ 9223372036854775807) (w : World) :
    Calls Try.prog 122 #[wideV z, .int .i64 n] w fun e w' => e = .returned (.tuple #[wideV (z / n), .int .i64 (z % n), .int .i64 0]) ∧ Since w w' := by
  have hl := wLo_bd z
  rcases Int.lt_or_le z 0 with h | h
  · have e : wHi z = -1 := by unfold wHi; omega
    have el : wLo z = z + 18446744073709551616 := by unfold wLo; omega
    unfold wideV
    rw [e]
    refine (DivN_w (wLo z) n hl hn w).mono ?_
    rintro _ w' ⟨rfl, hs⟩
    refine ⟨?_, hs⟩
    obtain ⟨y, hy⟩ : ∃ y, y = -z - 1 := ⟨_, rfl⟩
    have ey : 18446744073709551615 - wLo z = y := by omega
    rw [ey]
    have e1 : z = -y - 1 := by omega
    have d1 := Int.mul_ediv_add_emod y n
    have d2 := Int.emod_nonneg y (show n ≠ 0 by omega)
    have d3 := Int.emod_lt_of_pos y (show 0 < n by omega)
    have d5 : 0 ≤ y / n := Int.ediv_nonneg (by omega) (by omega)
    have d6 : y / n ≤ y := Int.ediv_le_self _ (by omega)
    obtain ⟨q, hq⟩ : ∃ q, q = y / n := ⟨_, rfl⟩
    obtain ⟨r, hr⟩ : ∃ r, r = y % n := ⟨_, rfl⟩
    rw [← hq, ← hr] at d1
    rw [← hq] at d5 d6
    rw [← hr] at d2 d3
    have k : z = (n - 1 - r) + n * (-q - 1) := by rw [e1, ← d1]; grind
    have q1 : z / n = -q - 1 := by rw [k, Int.add_mul_ediv_left _ _ (by omega), Int.ediv_eq_zero_of_lt (by omega) (by omega)]; omega
    have q2 : z % n = n - 1 - r := by rw [k, Int.add_mul_emod_self_left, Int.emod_eq_of_lt (by omega) (by omega)]
    rw [q1, q2, ← hq, ← hr]
    have h1 : wHi (-q - 1) = -1 := by unfold wHi; omega
    have h2 : wLo (-q - 1) = 18446744073709551615 - q := by unfold wLo; omega
    rw [h1, h2]
  · have e : wHi z = 0 := by unfold wHi; omega
    have el : wLo z = z := by unfold wLo; omega
    unfold wideV
    rw [e, el]
    refine (DivP_w z n ⟨h, by omega⟩ hn w).mono ?_
    rintro _ w' ⟨rfl, hs⟩
    have h3 : 0 ≤ z / n := Int.ediv_nonneg h (by omega)
    have h4 : z / n ≤ z := Int.ediv_le_self _ h
    have h1 : wHi (z / n) = 0 := by unfold wHi; omega
    have h2 : wLo (z / n) = z / n := by unfold wLo; omega
    exact ⟨by rw [h1, h2], hs⟩

theorem Add_w (x y : Int) (hx : -18446744073709551616 ≤ x ∧ x < 18446744073709551616) (hy : -18446744073709551616 ≤ y ∧ y < 18446744073709551616) (w : World) :
    Calls Try.prog 160 #[wideV x, wideV y] w fun e w' => e = .returned (wideV (x + y)) ∧ Since w w' := by
  have ha := fun (x y c : Int) (h1 : 0 ≤ x) (h2 : 0 ≤ y) (h3 : 0 ≤ c) (h4 : c ≤ 1) w => Add64_run x y c h1 h2 h3 h4 w
  have lx := wLo_bd x
  have ly := wLo_bd y
  have HF : Hid (∀ h l, h = wHi (x + y) → l = wLo (x + y) → wideV (x + y) = .agg #[.int .i64 h, .int .u64 l]) := fun h l e1 e2 => by rw [e1, e2]; rfl
  unfold wideV
  obtain ⟨hx', hX⟩ : ∃ a, Hid (a = wHi x) := ⟨_, rfl⟩
  obtain ⟨lx', lX⟩ : ∃ a, Hid (a = wLo x) := ⟨_, rfl⟩
  obtain ⟨hy', hY⟩ : ∃ a, Hid (a = wHi y) := ⟨_, rfl⟩
  obtain ⟨ly', lY⟩ : ∃ a, Hid (a = wLo y) := ⟨_, rfl⟩
  rw [← hX.out, ← lX.out, ← hY.out, ← lY.out]
  rw [← lX.out] at lx
  rw [← lY.out] at ly
  have a1 := aW_eq hx'
  have a2 := aW_eq hy'
  have c0 : 0 ≤ (lx' + ly') / 18446744073709551616 := by omega
  have c1 : (lx' + ly') / 18446744073709551616 ≤ 1 := by omega
  go_enter Try.func160, Try.ntmps160
  go_wp2_with fail
  refine bodyPost_ret (v := .agg #[.int .i64 (wrap64 (((aW hx' : Int) + (aW hy' : Int) + (lx' + ly') / 18446744073709551616) % 18446744073709551616)), .int .u64 ((lx' + ly') % 18446744073709551616)]) (by simp [results, Try.results160, go_sem]) rfl ⟨?_, (((Since.rfl_ w).alloc _).alloc _).alloc _⟩
  have b1 : -9223372036854775808 ≤ hx' ∧ hx' ≤ 9223372036854775807 := by rw [hX.out]; unfold wHi; omega
  have b2 : -9223372036854775808 ≤ hy' ∧ hy' ≤ 9223372036854775807 := by rw [hY.out]; unfold wHi; omega
  have v1 := aW_val b1
  have v2 := aW_val b2
  have x1 := w_eq x
  have y1 := w_eq y
  rw [← hX.out, ← lX.out] at x1
  rw [← hY.out, ← lY.out] at y1
  have e1 : wrap64 (((aW hx' : Int) + (aW hy' : Int) + (lx' + ly') / 18446744073709551616) % 18446744073709551616) = wHi (x + y) := by
    rw [i64W, v1, v2]
    unfold wHi
    split <;> split <;> omega
  have e2 : (lx' + ly') % 18446744073709551616 = wLo (x + y) := by unfold wLo; omega
  rw [e1, e2]
end Go.Proofs.Ytdbknodifpmmoaa
end
section
namespace Go.Proofs.Ytdbknodifpmmoaa
set_option linter.unusedSimpArgs false
set_option linter.unusedVariables false
open Go.RowKit Go.BigFrame

theorem size_f (n : Int) (h : -9223372036854775808 < n ∧ n ≤ 9223372036854775807) (w : World) :
    Calls Try.prog 157 #[.int .i64 n] w fun e w' => e = .returned (.int .u64 (n.natAbs : Int)) ∧ w = w' := by
  rcases Int.lt_or_le n 0 with h1 | h1
  · have e : IntKind.u64.wrap (-(IntKind.u64.wrap n)) = (n.natAbs : Int) := by rw [uW_eq, uW_eq]; unfold uW; omega
    go_enter Try.func157, Try.ntmps157
    go_wp2
    go_ret
    exact ⟨rfl, rfl⟩
  · have e : IntKind.u64.wrap n = (n.natAbs : Int) := by rw [uW_eq]; unfold uW; omega
    go_enter Try.func157, Try.ntmps157
    go_wp2
    go_ret
    exact ⟨rfl, rfl⟩

theorem gcd_f (a b : Nat) (ha : a < 18446744073709551616) (hb : b < 18446744073709551616) (w : World) :
    Calls Try.prog 158 #[.int .u64 a, .int .u64 b] w fun e w' => e = .returned (.int .u64 (Nat.gcd a b : Int)) ∧ Since w w' := by
  go_enter Try.func158, Try.ntmps158
  go_wp2
  go_loopw [0, 1] (fun x y wr => ∃ c d : Nat, c < 18446744073709551616 ∧ d < 18446744073709551616 ∧ x = .int .u64 c ∧ y = .int .u64 d ∧ Hid (Nat.gcd c d = Nat.gcd a b) ∧ Hid (Since w wr)) (fun _ y _ => (intOf y).toNat)
  case atStart => exact ⟨a, b, ha, hb, rfl, rfl, rfl, Since.rfl_ w⟩
  case round =>
    obtain ⟨c, d, hc, hd, rfl, rfl, HG, HS⟩ := hrel
    rcases Nat.eq_zero_or_pos d with h0 | h0
    · subst h0
      go_wp2_with fail
      go_ret
      exact ⟨ret_int (by have := HG.out; rw [Nat.gcd_zero_right] at this; rw [this]), HS.out⟩
    · have hp : (0 : Int) < (d : Int) := by omega
      have hz : ((d : Int) == 0) = false := by rw [beq_eq_false_iff_ne]; omega
      have hm : c % d < d := Nat.mod_lt _ h0
      obtain ⟨r, HR⟩ : ∃ r, Hid (r = c % d) := ⟨_, rfl⟩
      have hr : (c : Int) % (d : Int) = (r : Int) := by rw [HR.out]; simp
      have hrd : r < d := by rw [HR.out]; exact hm
      have HG2 : Hid (Nat.gcd d r = Nat.gcd a b) := by
        show _ = _
        rw [HR.out, ← HG.out, Nat.gcd_comm c d, Nat.gcd_comm d (c % d)]; exact (Nat.gcd_rec d c).symm
      go_wp2_with fail
      go_quiet (fail)
      go_wp2_with fail
      go_roundw
      case rel => exact ⟨d, r, hd, by omega, rfl, congrArg (Value.int .u64) hr, HG2, HS.out.drewN _⟩
      case measure => simp [intOf]; omega

def fracV (n d : Int) : Value := .agg #[.int .i64 n, .int .i64 d]
theorem Of_f (n : Int) (h : -9223372036854775808 < n ∧ n ≤ 9223372036854775807) (w : World) :
    Calls Try.prog 121 #[.int .i64 n] w fun e w' => e = .returned (fracV n 1) ∧ Since w w' := by
  have hm : max n (-9223372036854775807) = n := by omega
  have HF : Hid (fracV n 1 = .agg #[.int .i64 n, .int .i64 1]) := rfl
  go_enter Try.func121, Try.ntmps121
  go_wp2
  exact bodyPost_ret (v := .agg #[.int .i64 n, .int .i64 1]) (by simp [results, Try.results121, go_sem]) rfl ⟨by rw [HF.out], (Since.rfl_ w).alloc _⟩

/-- A number that is not negative. -/
theorem signed_f (n d : Int) (hn : 0 ≤ n ∧ n ≤ 9223372036854775807) (hd : 0 ≤ d ∧ d ≤ 9223372036854775807) (w : World) :
    Calls Try.prog 159 #[.bool false, .int .u64 n, .int .u64 d] w fun e w' => e = .returned (.tuple #[.agg #[.int .i64 n, .int .i64 d], .int .i64 0]) ∧ Since w w' := by
  have h1 : decide (9223372036854775807 < n) = false := by rw [decide_eq_false_iff_not]; omega
  have h2 : decide (9223372036854775807 < d) = false := by rw [decide_eq_false_iff_not]; omega
  have e1 : wrap64 n = n := w64_id (by omega)
  have e2 : wrap64 d = d := w64_id (by omega)
  go_enter Try.func159, Try.ntmps159
  go_wp2
  exact bodyPost_ret (v := .tuple #[.agg #[.int .i64 n, .int .i64 d], .int .i64 0]) (by simp [results, Try.results159, go_sem]) rfl ⟨rfl, (Since.rfl_ w).alloc _⟩

theorem size_n (n : Int) (h : 0 ≤ n ∧ n ≤ 9223372036854775807) (w : World) :
    Calls Try.prog 157 #[.int .i64 n] w fun e w' => e = .returned (.int .u64 n) ∧ w = w' := by
  have := size_f n (by omega) w
  rw [show (n.natAbs : Int) = n by omega] at this
  exact this
theorem gcd_n (a b g : Int) (ha : 0 ≤ a ∧ a < 18446744073709551616) (hb : 0 ≤ b ∧ b < 18446744073709551616) (hg : g = (Nat.gcd a.toNat b.toNat : Int)) (w : World) :
    Calls Try.prog 158 #[.int .u64 a, .int .u64 b] w fun e w' => e = .returned (.int .u64 g) ∧ Since w w' := by
  have := gcd_f a.toNat b.toNat (by omega) (by omega) w
  rw [show ((a.toNat : Nat) : Int) = a by omega, show ((b.toNat : Nat) : Int) = b by omega, ← hg] at this
  exact this
/-- Make of numbers that are not negative. -/
theorem Make_f (r d g : Int) (hr : 0 ≤ r ∧ r ≤ 9223372036854775807) (hd : 0 < d ∧ d ≤ 9223372036854775807) (hg : g = (Nat.gcd r.toNat d.toNat : Int)) (w : World) :
    Calls Try.prog 125 #[.int .i64 r, .int .i64 d] w fun e w' => e = .returned (.tuple #[fracV (r / g) (d / g), .int .i64 0]) ∧ Since w w' := by
  have g0 : 0 < g := by rw [hg]; have := Nat.gcd_pos_of_pos_right r.toNat (show 0 < d.toNat by omega); omega
  have HG := Lib.hid (fun w => gcd_n r d g (by omega) (by omega) hg w)
  clear hg
  have n1 : 0 ≤ r / g := Int.ediv_nonneg hr.1 (by omega)
  have n2 : r / g ≤ r := Int.ediv_le_self _ hr.1
  have n3 : 0 ≤ d / g := Int.ediv_nonneg (by omega) (by omega)
  have n4 : d / g ≤ d := Int.ediv_le_self _ (by omega)
  obtain ⟨p, HP⟩ : ∃ p, Hid (p = r / g) := ⟨_, rfl⟩
  obtain ⟨q, HQ⟩ : ∃ q, Hid (q = d / g) := ⟨_, rfl⟩
  have k1 : r / g = p := HP.out.symm
  have k2 : d / g = q := HQ.out.symm
  rw [k1] at n1 n2
  rw [k2] at n3 n4
  have t1 : IntKind.u64.wrap (r.tdiv g) = p := by rw [Int.tdiv_eq_ediv_of_nonneg hr.1, k1, uW_eq]; unfold uW; omega
  have t2 : IntKind.u64.wrap (d.tdiv g) = q := by rw [Int.tdiv_eq_ediv_of_nonneg (by omega), k2, uW_eq]; unfold uW; omega
  rw [k1, k2]
  have HSg := Lib.hid (fun w => signed_f p q (by omega) (by omega) w)
  have hz : (d == 0) = false := by rw [beq_eq_false_iff_ne]; omega
  have hz2 : (g == 0) = false := by rw [beq_eq_false_iff_ne]; omega
  have l1 : decide (r < 0) = false := by rw [decide_eq_false_iff_not]; omega
  have l2 : decide (d < 0) = false := by rw [decide_eq_false_iff_not]; omega
  go_enter Try.func125, Try.ntmps125
  go_wp2_with fail
  refine (size_n r hr _).mono ?_
  rintro e w1 ⟨rfl, rfl⟩
  go_wp2_with fail
  refine (size_n d (by omega) _).mono ?_
  rintro e w1 ⟨rfl, rfl⟩
  go_wp2_with fail
  refine (HG.out _).mono ?_
  rintro e w2 ⟨rfl, hs⟩
  have hs0 := Since.trans ((Since.rfl_ w).alloc (.cells #[.int .i64 0, .int .i64 0] 97)) hs
  have hb := hs.blk (Blk.new w 97 #[.int .i64 0, .int .i64 0])
  have HS2 := Lib.hid (And.intro hs0 hb)
  clear hs hs0 hb
  go_upto_region 5 with fail
  apply region_facts 18 (fun w' => Since w2 w')
  case hm => kernel_rfl
  case hB => kernel_rfl
  case hS => exact (Since.rfl_ w2).drew
  case h =>
  simp only [List.take_succ_cons, List.take_zero, List.drop_succ_cons, List.drop_zero]
  apply wpO_det
  case hw => rfl
  case h =>
    intro hFm wx hS_ hF_ K hK
    go_big_quiet_op
    first
      | exact hK _ rfl
      | (apply Exists.intro; refine ⟨fun _ => ?_, ?_⟩; (focus (first | (intro hC; have hC := hC.out; (try simp only [hC, Result.andThen]); first | exact ⟨True.intro, rfl⟩ | exact ⟨rfl, rfl⟩ | rfl))); exact hK _ rfl)
  case k =>
  simp only [Act.put, List.setIfInBounds_toArray, List.set_cons_succ, List.set_cons_zero, List.cons_append, List.nil_append]
  apply wpO_det
  case hw => rfl
  case h =>
    intro hFm wx hS_ hF_ K hK
    go_big_quiet_op
    first
      | exact hK _ rfl
      | (apply Exists.intro; refine ⟨fun _ => ?_, ?_⟩; (focus (first | (intro hC; have hC := hC.out; (try simp only [hC, Result.andThen]); first | exact ⟨True.intro, rfl⟩ | exact ⟨rfl, rfl⟩ | rfl))); exact hK _ rfl)
  case k =>
  simp only [Act.put, List.setIfInBounds_toArray, List.set_cons_succ, List.set_cons_zero, List.cons_append, List.nil_append]
  apply wpO_det
  case hw => rfl
  case h =>
    intro hFm wx hS_ hF_ K hK
    go_big_quiet_op
    first
      | exact hK _ rfl
      | (apply Exists.intro; refine ⟨fun _ => ?_, ?_⟩; (focus (first | (intro hC; have hC := hC.out; (try simp only [hC, Result.andThen]); first | exact ⟨True.intro, rfl⟩ | exact ⟨rfl, rfl⟩ | rfl))); exact hK _ rfl)
  case k =>
  simp only [Act.put, List.setIfInBounds_toArray, List.set_cons_succ, List.set_cons_zero, List.cons_append, List.nil_append]
  apply wpO_det
  case hw => rfl
  case h =>
    intro hFm wx hS_ hF_ K hK
    go_big_quiet_op
    first
      | exact hK _ rfl
      | (apply Exists.intro; refine ⟨fun _ => ?_, ?_⟩; (focus (first | (intro hC; have hC := hC.out; (try simp only [hC, Result.andThen]); first | exact ⟨True.intro, rfl⟩ | exact ⟨rfl, rfl⟩ | rfl))); exact hK _ rfl)
  case k =>
  simp only [Act.put, List.setIfInBounds_toArray, List.set_cons_succ, List.set_cons_zero, List.cons_append, List.nil_append]
  apply wpO_det
  case hw => rfl
  case h =>
    intro hFm wx hS_ hF_ K hK
    go_big_quiet_op
    first
      | exact hK _ rfl
      | (apply Exists.intro; refine ⟨fun _ => ?_, ?_⟩; (focus (first | (intro hC; have hC := hC.out; (try simp only [hC, Result.andThen]); first | exact ⟨True.intro, rfl⟩ | exact ⟨rfl, rfl⟩ | rfl))); exact hK _ rfl)
  case k =>
  simp only [Act.put, List.setIfInBounds_toArray, List.set_cons_succ, List.set_cons_zero, List.cons_append, List.nil_append]
  apply wpO_det
  case hw => rfl
  case h =>
    intro hFm wx hS_ hF_ K hK
    go_big_quiet_op
    first
      | exact hK _ rfl
      | (apply Exists.intro; refine ⟨fun _ => ?_, ?_⟩; (focus (first | (intro hC; have hC := hC.out; (try simp only [hC, Result.andThen]); first | exact ⟨True.intro, rfl⟩ | exact ⟨rfl, rfl⟩ | rfl))); exact hK _ rfl)
  case k =>
  simp only [Act.put, List.setIfInBounds_toArray, List.set_cons_succ, List.set_cons_zero, List.cons_append, List.nil_append]
  apply wpO_skip
  case hw => rfl
  case k =>
  simp only [Act.put, List.setIfInBounds_toArray, List.set_cons_succ, List.set_cons_zero, List.cons_append, List.nil_append]
  apply wpO_skip
  case hw => rfl
  case k =>
  simp only [Act.put, List.setIfInBounds_toArray, List.set_cons_succ, List.set_cons_zero, List.cons_append, List.nil_append]
  apply wpO_det
  case hw => rfl
  case h =>
    intro hFm wx hS_ hF_ K hK
    go_big_quiet_op
    first
      | exact hK _ rfl
      | (apply Exists.intro; refine ⟨fun _ => ?_, ?_⟩; (focus (first | (intro hC; have hC := hC.out; (try simp only [hC, Result.andThen]); first | exact ⟨True.intro, rfl⟩ | exact ⟨rfl, rfl⟩ | rfl))); exact hK _ rfl)
  case k =>
  simp only [Act.put, List.setIfInBounds_toArray, List.set_cons_succ, List.set_cons_zero, List.cons_append, List.nil_append]
  apply wpO_det
  case hw => rfl
  case h =>
    intro hFm wx hS_ hF_ K hK
    go_big_quiet_op
    first
      | exact hK _ rfl
      | (apply Exists.intro; refine ⟨fun _ => ?_, ?_⟩; (focus (first | (intro hC; have hC := hC.out; (try simp only [hC, Result.andThen]); first | exact ⟨True.intro, rfl⟩ | exact ⟨rfl, rfl⟩ | rfl))); exact hK _ rfl)
  case k =>
  simp only [Act.put, List.setIfInBounds_toArray, List.set_cons_succ, List.set_cons_zero, List.cons_append, List.nil_append]
  apply wpO_det
  case hw => rfl
  case h =>
    intro hFm wx hS_ hF_ K hK
    go_big_quiet_op
    first
      | exact hK _ rfl
      | (apply Exists.intro; refine ⟨fun _ => ?_, ?_⟩; (focus (first | (intro hC; have hC := hC.out; (try simp only [hC, Result.andThen]); first | exact ⟨True.intro, rfl⟩ | exact ⟨rfl, rfl⟩ | rfl))); exact hK _ rfl)
  case k =>
  simp only [Act.put, List.setIfInBounds_toArray, List.set_cons_succ, List.set_cons_zero, List.cons_append, List.nil_append]
  apply wpO_det
  case hw => rfl
  case h =>
    intro hFm wx hS_ hF_ K hK
    go_big_quiet_op
    first
      | exact hK _ rfl
      | (apply Exists.intro; refine ⟨fun _ => ?_, ?_⟩; (focus (first | (intro hC; have hC := hC.out; (try simp only [hC, Result.andThen]); first | exact ⟨True.intro, rfl⟩ | exact ⟨rfl, rfl⟩ | rfl))); exact hK _ rfl)
  case k =>
  simp only [Act.put, List.setIfInBounds_toArray, List.set_cons_succ, List.set_cons_zero, List.cons_append, List.nil_append]
  apply wpO_det
  case hw => rfl
  case h =>
    intro hFm wx hS_ hF_ K hK
    go_big_quiet_op
    first
      | exact hK _ rfl
      | (apply Exists.intro; refine ⟨fun _ => ?_, ?_⟩; (focus (first | (intro hC; have hC := hC.out; (try simp only [hC, Result.andThen]); first | exact ⟨True.intro, rfl⟩ | exact ⟨rfl, rfl⟩ | rfl))); exact hK _ rfl)
  case k =>
  simp only [Act.put, List.setIfInBounds_toArray, List.set_cons_succ, List.set_cons_zero, List.cons_append, List.nil_append]
  apply wpO_det
  case hw => rfl
  case h =>
    intro hFm wx hS_ hF_ K hK
    go_big_quiet_op
    first
      | exact hK _ rfl
      | (apply Exists.intro; refine ⟨fun _ => ?_, ?_⟩; (focus (first | (intro hC; have hC := hC.out; (try simp only [hC, Result.andThen]); first | exact ⟨True.intro, rfl⟩ | exact ⟨rfl, rfl⟩ | rfl))); exact hK _ rfl)
  case k =>
  simp only [Act.put, List.setIfInBounds_toArray, List.set_cons_succ, List.set_cons_zero, List.cons_append, List.nil_append]
  apply wpO_det
  case hw => rfl
  case h =>
    intro hFm wx hS_ hF_ K hK
    go_big_quiet_op
    first
      | exact hK _ rfl
      | (apply Exists.intro; refine ⟨fun _ => ?_, ?_⟩; (focus (first | (intro hC; have hC := hC.out; (try simp only [hC, Result.andThen]); first | exact ⟨True.intro, rfl⟩ | exact ⟨rfl, rfl⟩ | rfl))); exact hK _ rfl)
  case k =>
  simp only [Act.put, List.setIfInBounds_toArray, List.set_cons_succ, List.set_cons_zero, List.cons_append, List.nil_append]
  apply wpO_det
  case hw => rfl
  case h =>
    intro hFm wx hS_ hF_ K hK
    go_big_quiet_op
    first
      | exact hK _ rfl
      | (apply Exists.intro; refine ⟨fun _ => ?_, ?_⟩; (focus (first | (intro hC; go_at_call 159; refine (HSg.out _).mono ?_; rintro e w' ⟨rfl, hb⟩; refine ⟨rfl, ?_⟩; exact cls_call hFm hC hb))); exact hK _ rfl)
  case k =>
  simp only [Act.put, List.setIfInBounds_toArray, List.set_cons_succ, List.set_cons_zero, List.cons_append, List.nil_append]
  apply wpO_det
  case hw => rfl
  case h =>
    intro hFm wx hS_ hF_ K hK
    go_big_quiet_op
    first
      | exact hK _ rfl
      | (apply Exists.intro; refine ⟨fun _ => ?_, ?_⟩; (focus (first | (intro hC; have hC := hC.out; (try simp only [hC, Result.andThen]); first | exact ⟨True.intro, rfl⟩ | exact ⟨rfl, rfl⟩ | rfl))); exact hK _ rfl)
  case k =>
  simp only [Act.put, List.setIfInBounds_toArray, List.set_cons_succ, List.set_cons_zero, List.cons_append, List.nil_append]
  apply wpO_det
  case hw => rfl
  case h =>
    intro hFm wx hS_ hF_ K hK
    go_big_quiet_op
    first
      | exact hK _ rfl
      | (apply Exists.intro; refine ⟨fun _ => ?_, ?_⟩; (focus (first | (intro hC; have hC := hC.out; (try simp only [hC, Result.andThen]); first | exact ⟨True.intro, rfl⟩ | exact ⟨rfl, rfl⟩ | rfl))); exact hK _ rfl)
  case k =>
  simp only [Act.put, List.setIfInBounds_toArray, List.set_cons_succ, List.set_cons_zero, List.cons_append, List.nil_append]
  refine wpO_nil ?_
  intro w3 hS hF hB
  (try simp [allF] at hF)
  (try simp [List.pairwise_cons] at hB)
  have hb := hS.blk HS2.out.2
  have HS3 := Lib.hid (HS2.out.1.trans hS)
  have r0 : w3.cell? ⟨w.heap.size, 0, none⟩ = some (.int .i64 0) := hb.cell 0
  have r1 : w3.cell? ⟨w.heap.size, 1, none⟩ = some (.int .i64 0) := hb.cell 1
  have f0 := hb.frozen 0
  have f1 := hb.frozen 1
  clear hb hS
  go_wp2_with fail
  refine bodyPost_ret (v := .tuple #[.agg #[.int .i64 p, .int .i64 q], .int .i64 0]) (by simp [results, Try.results125, go_sem, cSetS, cSetO, cellDrew, r0, r1]) rfl ⟨rfl, ?_⟩
  exact (HS3.out.setCell (Nat.le_refl _) _).setCell (Nat.le_refl _) _

/-- A number in lowest terms. -/
structure FracOk (n d : Int) : Prop where
  n1 : -9223372036854775808 < n
  n2 : n ≤ 9223372036854775807
  d1 : 0 < d
  d2 : d ≤ 9223372036854775807
  g : Nat.gcd n.natAbs d.toNat = 1
theorem Good_f (n d : Int) (h : FracOk n d) (w : World) :
    Calls Try.prog 162 #[fracV n d] w fun e w' => e = .returned (.bool true) ∧ Since w w' := by
  obtain ⟨n1, n2, d1, d2, hg⟩ := h
  have HG := Lib.hid (fun w => gcd_n (n.natAbs : Int) d 1 (by omega) (by omega) (by rw [show ((n.natAbs : Int)).toNat = n.natAbs by omega, hg]; rfl) w)
  have HS1 := Lib.hid (fun w => size_f n (by omega) w)
  obtain ⟨a, HA⟩ : ∃ a : Int, Hid (a = (n.natAbs : Int)) := ⟨_, rfl⟩
  rw [← HA.out] at HG HS1
  have HS2 := Lib.hid (fun w => size_n d (by omega) w)
  have l1 : decide (0 < d) = true := by rw [decide_eq_true_eq]; omega
  have l2 : decide (-9223372036854775808 < n) = true := by rw [decide_eq_true_eq]; omega
  clear hg
  unfold fracV
  go_enter Try.func162, Try.ntmps162
  go_upto_region 1 with fail
  have hb := Blk.new w 97 #[.int .i64 n, .int .i64 d]
  have c0 : (w.alloc (.cells #[.int .i64 n, .int .i64 d] 97)).cell? ⟨w.heap.size, 0, none⟩ = some (.int .i64 n) := hb.cell 0
  have c1 : (w.alloc (.cells #[.int .i64 n, .int .i64 d] 97)).cell? ⟨w.heap.size, 1, none⟩ = some (.int .i64 d) := hb.cell 1
  apply region_facts 19 (fun w' => w'.cell? ⟨w.heap.size, 0, none⟩ = some (.int .i64 n) ∧ w'.cell? ⟨w.heap.size, 1, none⟩ = some (.int .i64 d) ∧ Since w w')
  case hm => kernel_rfl
  case hB => kernel_rfl
  case hS => exact ⟨c0, c1, ((Since.rfl_ w).alloc _).drew⟩
  case h =>
  simp only [List.take_succ_cons, List.take_zero, List.drop_succ_cons, List.drop_zero]
  apply wpO_det
  case hw => rfl
  case h =>
    intro hFm wx hS_ hF_ K hK
    go_big_quiet_op
    first
      | exact hK _ rfl
      | (apply Exists.intro; refine ⟨fun _ => ?_, ?_⟩; (focus (first | (intro hC; have hC := hC.out; (try simp only [hC, Result.andThen]); first | exact ⟨True.intro, rfl⟩ | exact ⟨rfl, rfl⟩ | rfl))); exact hK _ rfl)
  case k =>
  simp only [Act.put, List.setIfInBounds_toArray, List.set_cons_succ, List.set_cons_zero, List.cons_append, List.nil_append]
  apply wpO_det
  case hw => rfl
  case h =>
    intro hFm wx hS_ hF_ K hK
    go_big_quiet_op
    first
      | exact hK _ rfl
      | (apply Exists.intro; refine ⟨fun _ => ?_, ?_⟩; (focus (first | (intro hC; have hC := hC.out; (try simp only [hC, Result.andThen]); first | exact ⟨True.intro, rfl⟩ | exact ⟨rfl, rfl⟩ | rfl))); exact hK _ rfl)
  case k =>
  simp only [Act.put, List.setIfInBounds_toArray, List.set_cons_succ, List.set_cons_zero, List.cons_append, List.nil_append]
  apply wpO_det
  case hw => rfl
  case h =>
    intro hFm wx hS_ hF_ K hK
    go_big_quiet_op
    first
      | exact hK _ rfl
      | (apply Exists.intro; refine ⟨fun _ => ?_, ?_⟩; (focus (first | (intro hC; have hC := hC.out; (try simp only [hC, Result.andThen]); first | exact ⟨True.intro, rfl⟩ | exact ⟨rfl, rfl⟩ | rfl))); exact hK _ rfl)
  case k =>
  simp only [Act.put, List.setIfInBounds_toArray, List.set_cons_succ, List.set_cons_zero, List.cons_append, List.nil_append]
  apply wpO_det
  case hw => rfl
  case h =>
    intro hFm wx hS_ hF_ K hK
    go_big_quiet_op
    first
      | exact hK _ rfl
      | (apply Exists.intro; refine ⟨fun _ => ?_, ?_⟩; (focus (first | (intro hC; have hC := hC.out; (try simp only [hC, Result.andThen]); first | exact ⟨True.intro, rfl⟩ | exact ⟨rfl, rfl⟩ | rfl))); exact hK _ rfl)
  case k =>
  simp only [Act.put, List.setIfInBounds_toArray, List.set_cons_succ, List.set_cons_zero, List.cons_append, List.nil_append]
  apply wpO_det
  case hw => rfl
  case h =>
    intro hFm wx hS_ hF_ K hK
    go_big_quiet_op
    first
      | exact hK _ rfl
      | (apply Exists.intro; refine ⟨fun _ => ?_, ?_⟩; (focus (first | (intro hC; have hC := hC.out; (try simp only [hC, Result.andThen]); first | exact ⟨True.intro, rfl⟩ | exact ⟨rfl, rfl⟩ | rfl))); exact hK _ rfl)
  case k =>
  simp only [Act.put, List.setIfInBounds_toArray, List.set_cons_succ, List.set_cons_zero, List.cons_append, List.nil_append]
  apply wpO_det
  case hw => rfl
  case h =>
    intro hFm wx hS_ hF_ K hK
    go_big_quiet_op
    first
      | exact hK _ rfl
      | (apply Exists.intro; refine ⟨fun _ => ?_, ?_⟩; (focus (first | (intro hC; have hC := hC.out; (try simp only [hC, Result.andThen]); first | exact ⟨True.intro, rfl⟩ | exact ⟨rfl, rfl⟩ | rfl))); exact hK _ rfl)
  case k =>
  simp only [Act.put, List.setIfInBounds_toArray, List.set_cons_succ, List.set_cons_zero, List.cons_append, List.nil_append]
  apply wpO_det
  case hw => rfl
  case h =>
    intro hFm wx hS_ hF_ K hK
    go_big_quiet_op
    first
      | exact hK _ rfl
      | (apply Exists.intro; refine ⟨fun _ => ?_, ?_⟩; (focus (first | (intro hC; have hC := hC.out; (try simp only [hC, Result.andThen]); first | exact ⟨True.intro, rfl⟩ | exact ⟨rfl, rfl⟩ | rfl))); exact hK _ rfl)
  case k =>
  simp only [Act.put, List.setIfInBounds_toArray, List.set_cons_succ, List.set_cons_zero, List.cons_append, List.nil_append]
  apply wpO_det
  case hw => rfl
  case h =>
    intro hFm wx hS_ hF_ K hK
    go_big_quiet_op
    first
      | exact hK _ rfl
      | (apply Exists.intro; refine ⟨fun _ => ?_, ?_⟩; (focus (first | (intro hC; have hC := hC.out; (try simp only [hC, Result.andThen]); first | exact ⟨True.intro, rfl⟩ | exact ⟨rfl, rfl⟩ | rfl))); exact hK _ rfl)
  case k =>
  simp only [Act.put, List.setIfInBounds_toArray, List.set_cons_succ, List.set_cons_zero, List.cons_append, List.nil_append]
  apply wpO_det
  case hw => rfl
  case h =>
    intro hFm wx hS_ hF_ K hK
    go_big_quiet_op
    first
      | exact hK _ rfl
      | (apply Exists.intro; refine ⟨fun _ => ?_, ?_⟩; (focus (first | (intro hC; have hC := hC.out; (try simp only [hC, Result.andThen]); first | exact ⟨True.intro, rfl⟩ | exact ⟨rfl, rfl⟩ | rfl))); exact hK _ rfl)
  case k =>
  simp only [Act.put, List.setIfInBounds_toArray, List.set_cons_succ, List.set_cons_zero, List.cons_append, List.nil_append]
  apply wpO_det
  case hw => rfl
  case h =>
    intro hFm wx hS_ hF_ K hK
    go_big_quiet_op
    first
      | exact hK _ rfl
      | (apply Exists.intro; refine ⟨fun _ => ?_, ?_⟩; (focus (first | (intro hC; have hC := hC.out; (try simp only [hC, Result.andThen]); first | exact ⟨True.intro, rfl⟩ | exact ⟨rfl, rfl⟩ | rfl))); exact hK _ rfl)
  case k =>
  simp only [Act.put, List.setIfInBounds_toArray, List.set_cons_succ, List.set_cons_zero, List.cons_append, List.nil_append]
  apply wpO_det
  case hw => rfl
  case h =>
    intro hFm wx hS_ hF_ K hK
    go_big_quiet_op
    first
      | exact hK _ rfl
      | (apply Exists.intro; refine ⟨fun _ => ?_, ?_⟩; (focus (first | (intro hC; have hC := hC.out; (try simp only [hC, Result.andThen]); first | exact ⟨True.intro, rfl⟩ | exact ⟨rfl, rfl⟩ | rfl))); exact hK _ rfl)
  case k =>
  simp only [Act.put, List.setIfInBounds_toArray, List.set_cons_succ, List.set_cons_zero, List.cons_append, List.nil_append]
  apply wpO_det
  case hw => rfl
  case h =>
    intro hFm wx hS_ hF_ K hK
    go_big_quiet_op
    first
      | exact hK _ rfl
      | (apply Exists.intro; refine ⟨fun _ => ?_, ?_⟩; (focus (first | (intro hC; go_at_call 157; refine (HS1.out _).mono ?_; rintro e w' ⟨rfl, rfl⟩; exact ⟨rfl, hC⟩))); exact hK _ rfl)
  case k =>
  simp only [Act.put, List.setIfInBounds_toArray, List.set_cons_succ, List.set_cons_zero, List.cons_append, List.nil_append]
  apply wpO_det
  case hw => rfl
  case h =>
    intro hFm wx hS_ hF_ K hK
    go_big_quiet_op
    first
      | exact hK _ rfl
      | (apply Exists.intro; refine ⟨fun _ => ?_, ?_⟩; (focus (first | (intro hC; have hC := hC.out; (try simp only [hC, Result.andThen]); first | exact ⟨True.intro, rfl⟩ | exact ⟨rfl, rfl⟩ | rfl))); exact hK _ rfl)
  case k =>
  simp only [Act.put, List.setIfInBounds_toArray, List.set_cons_succ, List.set_cons_zero, List.cons_append, List.nil_append]
  apply wpO_det
  case hw => rfl
  case h =>
    intro hFm wx hS_ hF_ K hK
    go_big_quiet_op
    first
      | exact hK _ rfl
      | (apply Exists.intro; refine ⟨fun _ => ?_, ?_⟩; (focus (first | (intro hC; have hC := hC.out; (try simp only [hC, Result.andThen]); first | exact ⟨True.intro, rfl⟩ | exact ⟨rfl, rfl⟩ | rfl))); exact hK _ rfl)
  case k =>
  simp only [Act.put, List.setIfInBounds_toArray, List.set_cons_succ, List.set_cons_zero, List.cons_append, List.nil_append]
  apply wpO_det
  case hw => rfl
  case h =>
    intro hFm wx hS_ hF_ K hK
    go_big_quiet_op
    first
      | exact hK _ rfl
      | (apply Exists.intro; refine ⟨fun _ => ?_, ?_⟩; (focus (first | (intro hC; go_at_call 157; refine (HS2.out _).mono ?_; rintro e w' ⟨rfl, rfl⟩; exact ⟨rfl, hC⟩))); exact hK _ rfl)
  case k =>
  simp only [Act.put, List.setIfInBounds_toArray, List.set_cons_succ, List.set_cons_zero, List.cons_append, List.nil_append]
  apply wpO_det
  case hw => rfl
  case h =>
    intro hFm wx hS_ hF_ K hK
    go_big_quiet_op
    first
      | exact hK _ rfl
      | (apply Exists.intro; refine ⟨fun _ => ?_, ?_⟩; (focus (first | (intro hC; go_at_call 158; refine (HG.out _).mono ?_; rintro e w' ⟨rfl, hb⟩; refine ⟨rfl, ?_⟩; exact cls_call hFm hC hb))); exact hK _ rfl)
  case k =>
  simp only [Act.put, List.setIfInBounds_toArray, List.set_cons_succ, List.set_cons_zero, List.cons_append, List.nil_append]
  apply wpO_det
  case hw => rfl
  case h =>
    intro hFm wx hS_ hF_ K hK
    go_big_quiet_op
    first
      | exact hK _ rfl
      | (apply Exists.intro; refine ⟨fun _ => ?_, ?_⟩; (focus (first | (intro hC; have hC := hC.out; (try simp only [hC, Result.andThen]); first | exact ⟨True.intro, rfl⟩ | exact ⟨rfl, rfl⟩ | rfl))); exact hK _ rfl)
  case k =>
  simp only [Act.put, List.setIfInBounds_toArray, List.set_cons_succ, List.set_cons_zero, List.cons_append, List.nil_append]
  apply wpO_det
  case hw => rfl
  case h =>
    intro hFm wx hS_ hF_ K hK
    go_big_quiet_op
    first
      | exact hK _ rfl
      | (apply Exists.intro; refine ⟨fun _ => ?_, ?_⟩; (focus (first | (intro hC; have hC := hC.out; (try simp only [hC, Result.andThen]); first | exact ⟨True.intro, rfl⟩ | exact ⟨rfl, rfl⟩ | rfl))); exact hK _ rfl)
  case k =>
  simp only [Act.put, List.setIfInBounds_toArray, List.set_cons_succ, List.set_cons_zero, List.cons_append, List.nil_append]
  apply wpO_det
  case hw => rfl
  case h =>
    intro hFm wx hS_ hF_ K hK
    go_big_quiet_op
    first
      | exact hK _ rfl
      | (apply Exists.intro; refine ⟨fun _ => ?_, ?_⟩; (focus (first | (intro hC; have hC := hC.out; (try simp only [hC, Result.andThen]); first | exact ⟨True.intro, rfl⟩ | exact ⟨rfl, rfl⟩ | rfl))); exact hK _ rfl)
  case k =>
  simp only [Act.put, List.setIfInBounds_toArray, List.set_cons_succ, List.set_cons_zero, List.cons_append, List.nil_append]
  refine wpO_nil ?_
  intro w3 hS hF hB
  (try simp [allF] at hF)
  (try simp [List.pairwise_cons] at hB)
  have HS3 := Lib.hid hS.2.2
  clear hS
  go_wp2_with fail
  go_ret
  exact ⟨rfl, HS3.out⟩
theorem fit_f (n d : Int) (h : FracOk n d) (w : World) :
    Calls Try.prog 127 #[fracV n d] w fun e w' => e = .returned (fracV n d) ∧ Since w w' := by
  have HG := Lib.hid (fun w => Good_f n d h w)
  have HF : Hid (fracV n d = .agg #[.int .i64 n, .int .i64 d]) := rfl
  rw [HF.out] at HG ⊢
  clear h
  go_enter Try.func127, Try.ntmps127
  go_wp2_with fail
  refine (HG.out _).mono ?_
  rintro e w1 ⟨rfl, hs⟩
  have hs0 := Since.trans (((Since.rfl_ w).alloc (.cells #[.int .i64 n, .int .i64 d] 97)).alloc (.cells #[.int .i64 0, .int .i64 0] 97)) hs
  have hb := hs.blk ((Blk.new w 97 #[.int .i64 n, .int .i64 d]).alloc (.cells #[.int .i64 0, .int .i64 0] 97))
  have hb2 := hs.blk (Blk.new' (w := w.alloc (.cells #[.int .i64 n, .int .i64 d] 97)) (g := w.heap.size + 1) (t := 97) (cs := #[.int .i64 0, .int .i64 0]) (by simp))
  have c0 : w1.cell? ⟨w.heap.size, 0, none⟩ = some (.int .i64 n) := hb.cell 0
  have c1 : w1.cell? ⟨w.heap.size, 1, none⟩ = some (.int .i64 d) := hb.cell 1
  have r0 : w1.cell? ⟨w.heap.size + 1, 0, none⟩ = some (.int .i64 0) := hb2.cell 0
  have r1 : w1.cell? ⟨w.heap.size + 1, 1, none⟩ = some (.int .i64 0) := hb2.cell 1
  have f0 := hb2.frozen 0
  have f1 := hb2.frozen 1
  have HS := Lib.hid hs0
  clear hs hs0 hb hb2
  go_wp2_with fail
  refine bodyPost_ret (v := .agg #[.int .i64 n, .int .i64 d]) (by simp [results, Try.results127, go_sem, cSetS, cSetO, cellDrew, r0, r1]) rfl ⟨rfl, ?_⟩
  exact (HS.out.setCell (by dsimp only; omega) _).setCell (by dsimp only; omega) _
end Go.Proofs.Ytdbknodifpmmoaa
end
section
namespace Go.Proofs.Ytdbknodifpmmoaa
set_option linter.unusedSimpArgs false
set_option linter.unusedVariables false
open Go.RowKit Go.BigFrame

theorem divide_w (z n : Int) (hz : -18446744073709551616 ≤ z ∧ z < 18446744073709551616) (hn : 1 ≤ n ∧ n ≤ 9223372036854775807) (w : World) :
    Calls Try.prog 161 #[wideV z, .int .i64 n] w fun e w' => e = .returned (.tuple #[wideV (z / n), .int .i64 (z % n), .int .i64 0]) ∧ Since w w' := by
  have HD := Lib.hid (fun w => Div_w z n hz hn w)
  unfold wideV at HD ⊢
  obtain ⟨a, HA⟩ : ∃ a, Hid (a = wHi z) := ⟨_, rfl⟩
  obtain ⟨b, HB⟩ : ∃ b, Hid (b = wLo z) := ⟨_, rfl⟩
  obtain ⟨c, HC⟩ : ∃ c, Hid (c = wHi (z / n)) := ⟨_, rfl⟩
  obtain ⟨d, HDD⟩ : ∃ d, Hid (d = wLo (z / n)) := ⟨_, rfl⟩
  obtain ⟨r, HR⟩ : ∃ r, Hid (r = z % n) := ⟨_, rfl⟩
  rw [← HA.out, ← HB.out, ← HC.out, ← HDD.out, ← HR.out] at HD
  rw [← HA.out, ← HB.out, ← HC.out, ← HDD.out, ← HR.out]
  clear hz hn
  go_enter Try.func161, Try.ntmps161
  go_wp2_with fail
  refine (HD.out _).mono ?_
  rintro e w1 ⟨rfl, hs⟩
  have hs0 := Since.trans (((Since.rfl_ w).alloc (.cells #[.int .i64 a, .int .u64 b] 147)).alloc (.cells #[.int .i64 0, .int .u64 0] 147)) hs
  have hb2 := hs.blk (Blk.new' (w := w.alloc (.cells #[.int .i64 a, .int .u64 b] 147)) (g := w.heap.size + 1) (t := 147) (cs := #[.int .i64 0, .int .u64 0]) (by simp))
  have r0 : w1.cell? ⟨w.heap.size + 1, 0, none⟩ = some (.int .i64 0) := hb2.cell 0
  have r1 : w1.cell? ⟨w.heap.size + 1, 1, none⟩ = some (.int .u64 0) := hb2.cell 1
  have f0 := hb2.frozen 0
  have f1 := hb2.frozen 1
  have HS := Lib.hid hs0
  clear hs hs0 hb2
  go_wp2_with fail
  refine bodyPost_ret (v := .tuple #[.agg #[.int .i64 c, .int .u64 d], .int .i64 r, .int .i64 0]) (by simp [results, Try.results161, go_sem, cSetS, cSetO, cellDrew, r0, r1]) rfl ⟨rfl, ?_⟩
  exact (HS.out.setCell (by dsimp only; omega) _).setCell (by dsimp only; omega) _

theorem parts_f (n d : Int) (hn : -9223372036854775808 < n ∧ n ≤ 9223372036854775807) (hd : 0 < d ∧ d ≤ 9223372036854775807) (w : World) :
    Calls Try.prog 128 #[.agg #[.int .i64 n, .int .i64 d]] w fun e w' => e = .returned (.tuple #[.int .i64 (n / d), .int .i64 (n % d)]) ∧ Since w w' := by
  have hz : (d == 0) = false := by rw [beq_eq_false_iff_ne]; omega
  have m0 := Int.emod_nonneg n (show d ≠ 0 by omega)
  have m1 := Int.emod_lt_of_pos n hd.1
  have dm := Int.mul_ediv_add_emod n d
  obtain ⟨Q, HQ⟩ : ∃ Q, Hid (Q = n.tdiv d) := ⟨_, rfl⟩
  obtain ⟨R, HR⟩ : ∃ R, Hid (R = n.tmod d) := ⟨_, rfl⟩
  have q1 : n.tdiv d = Q := HQ.out.symm
  have r1 : n.tmod d = R := HR.out.symm
  have key : (0 ≤ R → n / d = Q ∧ n % d = R) ∧ (R < 0 → n / d = Q - 1 ∧ n % d = R + d) ∧ -9223372036854775808 < Q ∧ Q ≤ 9223372036854775807 ∧ -d < R ∧ R < d := by
    have e1 := Int.mul_tdiv_add_tmod n d
    rw [q1, r1] at e1
    have rb : -d < R ∧ R < d := by
      rw [HR.out]
      exact ⟨Int.lt_tmod_of_pos n hd.1, Int.tmod_lt_of_pos n hd.1⟩
    have uniq : ∀ q r : Int, d * q + r = n → 0 ≤ r → r < d → n / d = q ∧ n % d = r := by
      intro q r e h0 h1
      rw [← e]
      exact ⟨by rw [Int.add_comm, Int.add_mul_ediv_left _ _ (by omega), Int.ediv_eq_zero_of_lt h0 h1]; omega, by rw [Int.add_comm, Int.add_mul_emod_self_left, Int.emod_eq_of_lt h0 h1]⟩
    refine ⟨fun h => uniq Q R e1 h rb.2, fun h => uniq (Q - 1) (R + d) (by rw [← e1]; grind) (by omega) (by omega), ?_, ?_, rb⟩
    · have := Int.natAbs_tdiv_le_natAbs n d
      rw [q1] at this; omega
    · have := Int.natAbs_tdiv_le_natAbs n d
      rw [q1] at this; omega
  obtain ⟨k1, k2, k3, k4, k5, k6⟩ := key
  have K1 := Lib.hid k1
  have K2 := Lib.hid k2
  have w1 : wrap64 Q = Q := w64_id (by omega)
  have w2 : IntKind.i64.wrap Q = Q := by rw [IntKind.wrap_i64]; omega
  clear k1 k2 dm m0 m1
  have c0 : (w.alloc (.cells #[.int .i64 n, .int .i64 d] 97)).cell? ⟨w.heap.size, 0, none⟩ = some (.int .i64 n) := (Blk.new w 97 #[.int .i64 n, .int .i64 d]).cell 0
  have c1 : (w.alloc (.cells #[.int .i64 n, .int .i64 d] 97)).cell? ⟨w.heap.size, 1, none⟩ = some (.int .i64 d) := (Blk.new w 97 #[.int .i64 n, .int .i64 d]).cell 1
  rcases Int.lt_or_le R 0 with h | h
  · go_enter Try.func128, Try.ntmps128
    go_upto_region 1 with fail
    go_quiet (fail)
    go_wp2_with fail
    go_quiet (fail)
    go_wp2_with fail
    go_ret2
    obtain ⟨e1, e2⟩ := K2.out h
    exact ⟨by rw [e1, e2]; rfl, (((Since.rfl_ w).alloc _).drewN _).drewN _⟩
  · go_enter Try.func128, Try.ntmps128
    go_upto_region 1 with fail
    go_quiet (fail)
    go_wp2_with fail
    go_ret2
    obtain ⟨e1, e2⟩ := K1.out h
    exact ⟨by rw [e1, e2]; rfl, ((Since.rfl_ w).alloc _).drewN _⟩

/-- The nearest integer, the greater one of two. -/
def rndF (n d : Int) : Int := (2 * n + d) / (2 * d)
theorem rndF_parts {n d : Int} (hd : 0 < d) : rndF n d = n / d + (if d - n % d ≤ n % d then 1 else 0) := by
  have m0 := Int.emod_nonneg n (show d ≠ 0 by omega)
  have m1 := Int.emod_lt_of_pos n hd
  have dm := Int.mul_ediv_add_emod n d
  obtain ⟨q, hq⟩ : ∃ q, q = n / d := ⟨_, rfl⟩
  obtain ⟨r, hr⟩ : ∃ r, r = n % d := ⟨_, rfl⟩
  rw [← hq, ← hr] at dm ⊢
  rw [← hr] at m0 m1
  unfold rndF
  split
  · rw [show 2 * n + d = (2 * r - d) + (2 * d) * (q + 1) by rw [← dm]; grind, Int.add_mul_ediv_left _ _ (by omega), Int.ediv_eq_zero_of_lt (by omega) (by omega)]; omega
  · rw [show 2 * n + d = (2 * r + d) + (2 * d) * q by rw [← dm]; grind, Int.add_mul_ediv_left _ _ (by omega), Int.ediv_eq_zero_of_lt (by omega) (by omega)]; omega
theorem Round_f (n d : Int) (h : FracOk n d) (w : World) :
    Calls Try.prog 102 #[.agg #[.int .i64 n, .int .i64 d]] w fun e w' => e = .returned (.int .i64 (rndF n d)) ∧ Since w w' := by
  have hd := h.d1
  have hd2 := h.d2
  have hn := h.n1
  have hn2 := h.n2
  have HF : Hid (∀ w, Calls Try.prog 127 #[.agg #[.int .i64 n, .int .i64 d]] w fun e w' => e = .returned (.agg #[.int .i64 n, .int .i64 d]) ∧ Since w w') := fun w => fit_f n d h w
  have HP := Lib.hid (fun w => parts_f n d ⟨hn, hn2⟩ ⟨hd, hd2⟩ w)
  have HV := Lib.hid (rndF_parts (n := n) hd)
  have m0 := Int.emod_nonneg n (show d ≠ 0 by omega)
  have m1 := Int.emod_lt_of_pos n hd
  have dm := Int.mul_ediv_add_emod n d
  have q0 : -9223372036854775808 < n / d ∧ n / d ≤ 9223372036854775807 ∧ (d - n % d ≤ n % d → n / d < 9223372036854775807) := by
    have := Int.natAbs_ediv_le_natAbs n d
    refine ⟨by omega, by omega, fun hk => ?_⟩
    rcases Int.lt_or_le (n / d) 0 with h0 | h0
    · omega
    · have h1 := Int.mul_nonneg (show 0 ≤ d - 2 by omega) h0
      rw [Int.sub_mul] at h1
      omega
  obtain ⟨q, HQ⟩ : ∃ q, Hid (q = n / d) := ⟨_, rfl⟩
  obtain ⟨r, HR⟩ : ∃ r, Hid (r = n % d) := ⟨_, rfl⟩
  rw [← HQ.out, ← HR.out] at HP HV
  rw [← HR.out] at m0 m1
  rw [← HQ.out, ← HR.out] at q0
  have Q0 := Lib.hid q0.2.2
  have q1 := q0.1
  have q2 := q0.2.1
  clear q0
  clear dm h
  go_enter Try.func102, Try.ntmps102
  go_wp2_with fail
  refine (HF.out _).mono ?_
  rintro e w1 ⟨rfl, hs⟩
  have hb1 := hs.blk (Blk.new w 97 #[.int .i64 n, .int .i64 d])
  have HS1 := Lib.hid (Since.trans ((Since.rfl_ w).alloc (.cells #[.int .i64 n, .int .i64 d] 97)) hs)
  have c0 : w1.cell? ⟨w.heap.size, 0, none⟩ = some (.int .i64 n) := hb1.cell 0
  have c1 : w1.cell? ⟨w.heap.size, 1, none⟩ = some (.int .i64 d) := hb1.cell 1
  have f0 := hb1.frozen 0
  have f1 := hb1.frozen 1
  have HB1 := Lib.hid hb1
  clear hs hb1
  go_upto_region 2 with fail
  refine atW (fun w' => Since w w' ∧ Blk w' w.heap.size 97 #[.int .i64 n, .int .i64 d]) ⟨(HS1.out.setCell (Nat.le_refl _) _).setCell (Nat.le_refl _) _, ((HB1.out.set_ 0 (.int .i64 n)).set_ 1 (.int .i64 d))⟩ ?_
  clear HS1 HB1 c0 c1 f0 f1
  rintro w2 ⟨hs, hb2⟩
  have c0 : w2.cell? ⟨w.heap.size, 0, none⟩ = some (.int .i64 n) := hb2.cell 0
  have c1 : w2.cell? ⟨w.heap.size, 1, none⟩ = some (.int .i64 d) := hb2.cell 1
  have HS2 := Lib.hid (And.intro hs hb2)
  clear hs hb2
  go_wp2_with fail
  refine (HP.out _).mono ?_
  rintro e w3 ⟨rfl, hs⟩
  have hb3 := hs.blk HS2.out.2
  have HS3 := Lib.hid (HS2.out.1.trans hs)
  clear hs c0 c1 HS2
  have c1 : w3.cell? ⟨w.heap.size, 1, none⟩ = some (.int .i64 d) := hb3.cell 1
  clear hb3
  by_cases hk : d - r ≤ r
  · have HK := Lib.hid hk
    have q3 := Q0.out hk
    go_wp2_with fail
    go_ret
    exact ⟨ret_int (by rw [HV.out, if_pos HK.out]), HS3.out⟩
  · have HK := Lib.hid hk
    have hk2 : r < d - r := by omega
    go_wp2_with fail
    go_ret
    exact ⟨ret_int (by rw [HV.out, if_neg (by omega)]; omega), HS3.out⟩
end Go.Proofs.Ytdbknodifpmmoaa
end
