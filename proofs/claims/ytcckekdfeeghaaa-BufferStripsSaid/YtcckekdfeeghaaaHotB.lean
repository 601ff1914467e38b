/-
  Walks of hot.part.least, most, cut and hot.Meets: what each returns, in plain functions. Conditions: bounds of the numbers.
-/
import Derived.Test.YtcckekdfeeghaaaHotA
import Derived.Test.YtcckekdfeeghaaaTail
namespace Go.Proofs.Ytcckekdfeeghaaa
set_option linter.unusedSimpArgs false
set_option linter.unusedVariables false
open Go.RowKit Go.BigFrame

abbrev Bnd := Int × Int × Bool
def leastLo (lo : Bnd) (n d : Int) (closed : Bool) : Bnd := if leastT lo.1 lo.2.1 (bnN n d) (bnD d) closed then (bnN n d, bnD d, closed) else lo
def mostHi (hi : Bnd) (n d : Int) (closed : Bool) : Bnd := if mostT hi.1 hi.2.1 (bnN n d) (bnD d) closed then (bnN n d, bnD d, closed) else hi
def partV (lo hi : Bnd) : Array Value := part6 lo.1 lo.2.1 lo.2.2 hi.1 hi.2.1 hi.2.2

theorem least_any (g : Nat) (lo hi : Bnd) (n d : Int) (closed : Bool) (w : World) (hb : Blk w g 78 (partV lo hi)) :
    Calls Try.prog 100 #[.pointer (some ⟨g, 0, none⟩), .int .i64 n, .int .i64 d, .bool closed] w fun e w' => e = .returned (.tuple #[]) ∧ Blk w' g 78 (partV (leastLo lo n d closed) hi) ∧ Only g w w' := by
  obtain ⟨ln, ld, lc⟩ := lo
  obtain ⟨hn, hd, hc⟩ := hi
  by_cases hd0 : 0 ≤ d
  · have e1 : bnN n d = n := by unfold bnN; rw [if_neg (by omega)]
    have e2 : bnD d = d := by unfold bnD; rw [if_neg (by omega)]
    unfold leastLo leastT
    simp only [e1, e2]
    by_cases h1 : 0 < bndCmp n d ln ld
    · rw [if_pos (.inl h1)]; exact least_pA g ln ld hn hd n d lc hc closed w hb hd0 h1
    · by_cases h2 : bndCmp n d ln ld = 0
      · cases closed
        · rw [if_pos (.inr ⟨h2, rfl⟩)]; exact least_pB g ln ld hn hd n d lc hc w hb hd0 h2
        · rw [if_neg (by rintro (h | ⟨_, h⟩); exact h1 h; cases h)]; exact least_pC g ln ld hn hd n d lc hc w hb hd0 h2
      · rw [if_neg (by rintro (h | ⟨h, _⟩); exact h1 h; exact h2 h)]; exact least_pD g ln ld hn hd n d lc hc closed w hb hd0 (by omega)
  · have e1 : bnN n d = wrap64 (-n) := by unfold bnN; rw [if_pos (by omega)]
    have e2 : bnD d = wrap64 (-d) := by unfold bnD; rw [if_pos (by omega)]
    unfold leastLo leastT
    simp only [e1, e2]
    by_cases h1 : 0 < bndCmp (wrap64 (-n)) (wrap64 (-d)) ln ld
    · rw [if_pos (.inl h1)]; exact least_nA g ln ld hn hd n d lc hc closed w hb (by omega) h1
    · by_cases h2 : bndCmp (wrap64 (-n)) (wrap64 (-d)) ln ld = 0
      · cases closed
        · rw [if_pos (.inr ⟨h2, rfl⟩)]; exact least_nB g ln ld hn hd n d lc hc w hb (by omega) h2
        · rw [if_neg (by rintro (h | ⟨_, h⟩); exact h1 h; cases h)]; exact least_nC g ln ld hn hd n d lc hc w hb (by omega) h2
      · rw [if_neg (by rintro (h | ⟨h, _⟩); exact h1 h; exact h2 h)]; exact least_nD g ln ld hn hd n d lc hc closed w hb (by omega) (by omega)

theorem most_any (g : Nat) (lo hi : Bnd) (n d : Int) (closed : Bool) (w : World) (hb : Blk w g 78 (partV lo hi)) :
    Calls Try.prog 101 #[.pointer (some ⟨g, 0, none⟩), .int .i64 n, .int .i64 d, .bool closed] w fun e w' => e = .returned (.tuple #[]) ∧ Blk w' g 78 (partV lo (mostHi hi n d closed)) ∧ Only g w w' := by
  obtain ⟨ln, ld, lc⟩ := lo
  obtain ⟨hn, hd, hc⟩ := hi
  by_cases hd0 : 0 ≤ d
  · have e1 : bnN n d = n := by unfold bnN; rw [if_neg (by omega)]
    have e2 : bnD d = d := by unfold bnD; rw [if_neg (by omega)]
    unfold mostHi mostT
    simp only [e1, e2]
    by_cases h1 : bndCmp n d hn hd < 0
    · rw [if_pos (.inl h1)]; exact most_pA g ln ld hn hd n d lc hc closed w hb hd0 h1
    · by_cases h2 : bndCmp n d hn hd = 0
      · cases closed
        · rw [if_pos (.inr ⟨h2, rfl⟩)]; exact most_pB g ln ld hn hd n d lc hc w hb hd0 h2
        · rw [if_neg (by rintro (h | ⟨_, h⟩); exact h1 h; cases h)]; exact most_pC g ln ld hn hd n d lc hc w hb hd0 h2
      · rw [if_neg (by rintro (h | ⟨h, _⟩); exact h1 h; exact h2 h)]; exact most_pD g ln ld hn hd n d lc hc closed w hb hd0 (by omega)
  · have e1 : bnN n d = wrap64 (-n) := by unfold bnN; rw [if_pos (by omega)]
    have e2 : bnD d = wrap64 (-d) := by unfold bnD; rw [if_pos (by omega)]
    unfold mostHi mostT
    simp only [e1, e2]
    by_cases h1 : bndCmp (wrap64 (-n)) (wrap64 (-d)) hn hd < 0
    · rw [if_pos (.inl h1)]; exact most_nA g ln ld hn hd n d lc hc closed w hb (by omega) h1
    · by_cases h2 : bndCmp (wrap64 (-n)) (wrap64 (-d)) hn hd = 0
      · cases closed
        · rw [if_pos (.inr ⟨h2, rfl⟩)]; exact most_nB g ln ld hn hd n d lc hc w hb (by omega) h2
        · rw [if_neg (by rintro (h | ⟨_, h⟩); exact h1 h; cases h)]; exact most_nC g ln ld hn hd n d lc hc w hb (by omega) h2
      · rw [if_neg (by rintro (h | ⟨h, _⟩); exact h1 h; exact h2 h)]; exact most_nD g ln ld hn hd n d lc hc closed w hb (by omega) (by omega)

def cutLo (lo : Bnd) (f d : Int) : Bnd := if 0 < d then leastLo lo (-f) d true else if d < 0 then leastLo lo (2 - f) d false else lo
def cutHi (hi : Bnd) (f d : Int) : Bnd := if 0 < d then mostHi hi (2 - f) d false else if d < 0 then mostHi hi (-f) d true else hi
def cutOk (f d : Int) : Bool := if 0 < d then true else if d < 0 then true else (decide (0 ≤ f) && decide (f < 2))

theorem cut_any (g : Nat) (lo hi : Bnd) (f d : Int) (w : World) (hb : Blk w g 78 (partV lo hi)) (h1 : -1099511627776 ≤ f) (h2 : f ≤ 1099511627776) :
    Calls Try.prog 56 #[.pointer (some ⟨g, 0, none⟩), .int .i64 f, .int .i64 d] w fun e w' => e = .returned (.bool (cutOk f d)) ∧ Blk w' g 78 (partV (cutLo lo f d) (cutHi hi f d)) ∧ Only g w w' := by
  by_cases k1 : 0 < d
  · unfold cutLo cutHi cutOk
    rw [if_pos k1, if_pos k1, if_pos k1]
    have HB := Lib.hid hb
    clear hb
    go_enter Try.func56, Try.ntmps56
    go_wp2_with fail
    refine (least_any g lo hi _ _ _ _ HB.out).mono ?_
    rintro e w1 ⟨rfl, hb1, ho1⟩
    have HB1 := Lib.hid hb1
    have HO1 := Lib.hid ho1
    clear hb1 ho1
    go_wp2_with fail
    refine (most_any g _ hi _ _ _ _ HB1.out).mono ?_
    rintro e w2 ⟨rfl, hb2, ho2⟩
    have HB2 := Lib.hid hb2
    have HO2 := Lib.hid (HO1.out.trans ho2)
    clear hb2 ho2
    go_wp2
    go_ret
    exact ⟨rfl, HB2.out, HO2.out⟩
  · by_cases k2 : d < 0
    · unfold cutLo cutHi cutOk
      rw [if_neg k1, if_neg k1, if_neg k1, if_pos k2, if_pos k2, if_pos k2]
      have HB := Lib.hid hb
      clear hb
      go_enter Try.func56, Try.ntmps56
      go_wp2_with fail
      refine (most_any g lo hi _ _ _ _ HB.out).mono ?_
      rintro e w1 ⟨rfl, hb1, ho1⟩
      have HB1 := Lib.hid hb1
      have HO1 := Lib.hid ho1
      clear hb1 ho1
      go_wp2_with fail
      refine (least_any g lo _ _ _ _ _ HB1.out).mono ?_
      rintro e w2 ⟨rfl, hb2, ho2⟩
      have HB2 := Lib.hid hb2
      have HO2 := Lib.hid (HO1.out.trans ho2)
      clear hb2 ho2
      go_wp2
      go_ret
      exact ⟨rfl, HB2.out, HO2.out⟩
    · unfold cutLo cutHi cutOk
      rw [if_neg k1, if_neg k1, if_neg k1, if_neg k2, if_neg k2, if_neg k2]
      obtain rfl : d = 0 := by omega
      have HB := Lib.hid hb
      clear hb
      by_cases k3 : 0 ≤ f
      all_goals
        go_enter Try.func56, Try.ntmps56
        go_wp2
        go_ret
        exact ⟨ret_bool (by first | (simp; done) | (simp; omega) | (simp [k3]; done)), HB.out, (Since.rfl_ w).only g⟩

theorem clampI_bd (x : Int) : -1048576 ≤ clampI x ∧ clampI x ≤ 1048576 := by unfold clampI; omega

def meetsLo (f1 d1 f2 d2 : Int) : Bnd := cutLo (cutLo (0, 1, true) f1 d1) f2 d2
def meetsHi (f1 d1 f2 d2 : Int) : Bnd := cutHi (cutHi (1, 1, true) f1 d1) f2 d2
/-- Whether a range has a number. -/
def endE (lo hi : Bnd) : Bool := if bndCmp lo.1 lo.2.1 hi.1 hi.2.1 < 0 then true else if bndCmp lo.1 lo.2.1 hi.1 hi.2.1 = 0 then lo.2.2 && hi.2.2 else false
def meetsE (f1 d1 f2 d2 : Int) : Bool := endE (meetsLo f1 d1 f2 d2) (meetsHi f1 d1 f2 d2)
/-- hot.Meets at clamped points. -/
def meetsV (ax ay bx by_ px py : Int) : Bool := cutOk (2 * (ax - px) + 1) (2 * (bx - ax)) && cutOk (2 * (ay - py) + 1) (2 * (by_ - ay)) && meetsE (2 * (ax - px) + 1) (2 * (bx - ax)) (2 * (ay - py) + 1) (2 * (by_ - ay))

end Go.Proofs.Ytcckekdfeeghaaa
