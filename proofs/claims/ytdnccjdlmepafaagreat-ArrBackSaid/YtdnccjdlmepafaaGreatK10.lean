/-
  Walks of seg.place, seg.along, seg.Snap. Conditions: those that each lemma names.
-/
import Derived.Test.YtdnccjdlmepafaaGreatK09
set_option linter.unusedSimpArgs false
set_option linter.unusedVariables false
set_option linter.constructorNameAsVariable false
namespace Go.Proofs.YtdnccjdlmepafaaGreat
section
open Go.RowKit Go.BigFrame
theorem place_s (x y : Int) (hx : -1048576 ≤ x ∧ x ≤ 1048576) (hy : -1048576 ≤ y ∧ y ≤ 1048576) (w : World) :
  Calls Tryz.prog 120 #[.agg #[.int .i64 x, .int .i64 y]] w fun e w' => e = .returned (.agg #[.int .i64 x, .int .i64 1, .int .i64 y, .int .i64 1]) ∧ Since w w' := by
 have H1 : Hid (∀ w, Calls Tryz.prog 149 #[.int .i64 x] w fun e w' => e = .returned (.agg #[.int .i64 x, .int .i64 1]) ∧ Since w w') := fun w => Of_f x (by omega) w
 have H2 : Hid (∀ w, Calls Tryz.prog 149 #[.int .i64 y] w fun e w' => e = .returned (.agg #[.int .i64 y, .int .i64 1]) ∧ Since w w') := fun w => Of_f y (by omega) w
 go_enter Tryz.func120, Tryz.ntmps120
 go_upto_region 1 with fail
 obtain ⟨G, HG⟩ : ∃ G, G = w.heap.size := ⟨_, rfl⟩
 rw [← HG]
 refine atW (fun w' => Since w w' ∧ Blk w' G 36 #[.int .i64 x, .int .i64 y] ∧ Blk w' (G + 1) 124 #[.int .i64 0, .int .i64 0, .int .i64 0, .int .i64 0]) ⟨((Since.rfl_ w).alloc _).alloc _, (Blk.new' HG).alloc _, Blk.new' (by simp [HG])⟩ ?_
 rintro w1 ⟨hs, ba, bb⟩
 have HGG := Lib.hid HG
 clear HG
 have KF := Lib.hid (fun w' (h : Since w1 w') => (show w'.cell? ⟨G, 0, none⟩ = some (.int .i64 x) ∧ w'.cell? ⟨G, 1, none⟩ = some (.int .i64 y) from ⟨(h.blk ba).cell 0, (h.blk ba).cell 1⟩))
 have HW1 := Lib.hid (And.intro hs bb)
 clear hs ba bb
 apply region_facts 7 (fun w' => Since w1 w')
 case hm => kernel_rfl
 case hB => kernel_rfl
 case hS => exact (Since.rfl_ w1).drew
 case h =>
 simp only [List.take_succ_cons, List.take_zero, List.drop_succ_cons, List.drop_zero]
 iterate 2 (apply wpO_det; (case hw => rfl); (case h => intro hFm wx hS_ hF_ K hK; go_big_quiet_op; first | exact hK _ rfl | (apply Exists.intro; refine ⟨fun _ => ?_, ?_⟩; (focus (first | (intro hC; have hC := KF.out _ hC.out.1; (try simp only [hC, Result.andThen]); first | exact ⟨True.intro, rfl⟩ | exact ⟨rfl, rfl⟩ | rfl))); exact hK _ rfl)); (case' k => simp only [Act.put, List.setIfInBounds_toArray, List.set_cons_succ, List.set_cons_zero, List.cons_append, List.nil_append]))
 (apply wpO_det; (case hw => rfl); (case h => intro hFm wx hS_ hF_ K hK; go_big_quiet_op; first | exact hK _ rfl | (apply Exists.intro; refine ⟨fun _ => ?_, ?_⟩; (focus (first | (intro hC; go_at_call 149; refine (H1.out _).mono ?_; rintro e w' ⟨rfl, hb⟩; refine ⟨rfl, ?_⟩; exact cls_call hFm hC hb))); exact hK _ rfl)); (case' k => simp only [Act.put, List.setIfInBounds_toArray, List.set_cons_succ, List.set_cons_zero, List.cons_append, List.nil_append]))
 iterate 2 (apply wpO_det; (case hw => rfl); (case h => intro hFm wx hS_ hF_ K hK; go_big_quiet_op; first | exact hK _ rfl | (apply Exists.intro; refine ⟨fun _ => ?_, ?_⟩; (focus (first | (intro hC; have hC := KF.out _ hC.out.1; (try simp only [hC, Result.andThen]); first | exact ⟨True.intro, rfl⟩ | exact ⟨rfl, rfl⟩ | rfl))); exact hK _ rfl)); (case' k => simp only [Act.put, List.setIfInBounds_toArray, List.set_cons_succ, List.set_cons_zero, List.cons_append, List.nil_append]))
 (apply wpO_det; (case hw => rfl); (case h => intro hFm wx hS_ hF_ K hK; go_big_quiet_op; first | exact hK _ rfl | (apply Exists.intro; refine ⟨fun _ => ?_, ?_⟩; (focus (first | (intro hC; go_at_call 149; refine (H2.out _).mono ?_; rintro e w' ⟨rfl, hb⟩; refine ⟨rfl, ?_⟩; exact cls_call hFm hC hb))); exact hK _ rfl)); (case' k => simp only [Act.put, List.setIfInBounds_toArray, List.set_cons_succ, List.set_cons_zero, List.cons_append, List.nil_append]))
 (apply wpO_det; (case hw => rfl); (case h => intro hFm wx hS_ hF_ K hK; go_big_quiet_op; first | exact hK _ rfl | (apply Exists.intro; refine ⟨fun _ => ?_, ?_⟩; (focus (first | (intro hC; have hC := KF.out _ hC.out.1; (try simp only [hC, Result.andThen]); first | exact ⟨True.intro, rfl⟩ | exact ⟨rfl, rfl⟩ | rfl))); exact hK _ rfl)); (case' k => simp only [Act.put, List.setIfInBounds_toArray, List.set_cons_succ, List.set_cons_zero, List.cons_append, List.nil_append]))
 refine wpO_nil ?_
 intro w2 hS hF hB
 (try simp [allF] at hF)
 (try simp [List.pairwise_cons] at hB)
 have hb := hS.blk HW1.out.2
 have HW2 := Lib.hid (HW1.out.1.trans hS)
 have r_0 := hb.cell 0
 have r_1 := hb.cell 1
 have r_2 := hb.cell 2
 have r_3 := hb.cell 3
 simp only [List.getElem?_toArray, List.getElem?_cons_zero, List.getElem?_cons_succ] at r_0 r_1 r_2 r_3
 have f0 := hb.frozen 0
 have f1 := hb.frozen 1
 have f2 := hb.frozen 2
 have f3 := hb.frozen 3
 clear hS hF hB hb
 go_wp2_with fail
 refine bodyPost_ret (v := .agg #[.int .i64 x, .int .i64 1, .int .i64 y, .int .i64 1]) (by simp [results, Tryz.results120, go_sem, cSetS, cSetO, cellDrew, r_0, r_1, r_2, r_3]) rfl ⟨rfl, ?_⟩
 have hG := HGG.out
 exact (((HW2.out.setCell (by dsimp only; omega) _).setCell (by dsimp only; omega) _).setCell (by dsimp only; omega) _).setCell (by dsimp only; omega) _
theorem Snap_s (xn xd yn yd : Int) (h1 : FracOk xn xd) (h2 : FracOk yn yd) (w : World) :
  Calls Tryz.prog 101 #[.agg #[.int .i64 xn, .int .i64 xd, .int .i64 yn, .int .i64 yd]] w fun e w' => e = .returned (.agg #[.int .i64 (clampI (rndF xn xd)), .int .i64 (clampI (rndF yn yd))]) ∧ Since w w' := by
 have H1 := Lib.hid (fun w => Round_f xn xd h1 w)
 have H2 := Lib.hid (fun w => Round_f yn yd h2 w)
 have H3 := Lib.hid (fun w => Clamp_any (rndF xn xd) (rndF yn yd) w)
 obtain ⟨rx, HX⟩ : ∃ a, Hid (a = rndF xn xd) := ⟨_, rfl⟩
 obtain ⟨ry, HY⟩ : ∃ a, Hid (a = rndF yn yd) := ⟨_, rfl⟩
 rw [← HX.out, ← HY.out] at H3
 rw [← HX.out] at H1
 rw [← HY.out] at H2
 rw [← HX.out, ← HY.out]
 obtain ⟨cx, HCX⟩ : ∃ a, Hid (a = clampI rx) := ⟨_, rfl⟩
 obtain ⟨cy, HCY⟩ : ∃ a, Hid (a = clampI ry) := ⟨_, rfl⟩
 rw [← HCX.out, ← HCY.out] at H3 ⊢
 clear h1 h2
 go_enter Tryz.func101, Tryz.ntmps101
 go_upto_region 1 with fail
 obtain ⟨G, HG⟩ : ∃ G, G = w.heap.size := ⟨_, rfl⟩
 rw [← HG]
 refine atW (fun w' => Since w w' ∧ Blk w' G 124 #[.int .i64 xn, .int .i64 xd, .int .i64 yn, .int .i64 yd] ∧ Blk w' (G + 1) 36 #[.int .i64 0, .int .i64 0]) ⟨((Since.rfl_ w).alloc _).alloc _, (Blk.new' HG).alloc _, Blk.new' (by simp [HG])⟩ ?_
 rintro w1 ⟨hs, ba, bb⟩
 have HGG := Lib.hid HG
 clear HG
 have KF := Lib.hid (fun w' (h : Since w1 w') => (show w'.cell? ⟨G, 0, none⟩ = some (.int .i64 xn) ∧ w'.cell? ⟨G, 1, none⟩ = some (.int .i64 xd) ∧ w'.cell? ⟨G, 2, none⟩ = some (.int .i64 yn) ∧ w'.cell? ⟨G, 3, none⟩ = some (.int .i64 yd) from ⟨(h.blk ba).cell 0, (h.blk ba).cell 1, (h.blk ba).cell 2, (h.blk ba).cell 3⟩))
 have HW1 := Lib.hid (And.intro hs bb)
 clear hs ba bb
 apply region_facts 8 (fun w' => Since w1 w')
 case hm => kernel_rfl
 case hB => kernel_rfl
 case hS => exact (Since.rfl_ w1).drew
 case h =>
 simp only [List.take_succ_cons, List.take_zero, List.drop_succ_cons, List.drop_zero]
 iterate 2 (apply wpO_det; (case hw => rfl); (case h => intro hFm wx hS_ hF_ K hK; go_big_quiet_op; first | exact hK _ rfl | (apply Exists.intro; refine ⟨fun _ => ?_, ?_⟩; (focus (first | (intro hC; have hC := KF.out _ hC.out.1; (try simp only [hC, Result.andThen]); first | exact ⟨True.intro, rfl⟩ | exact ⟨rfl, rfl⟩ | rfl))); exact hK _ rfl)); (case' k => simp only [Act.put, List.setIfInBounds_toArray, List.set_cons_succ, List.set_cons_zero, List.cons_append, List.nil_append]))
 (apply wpO_det; (case hw => rfl); (case h => intro hFm wx hS_ hF_ K hK; go_big_quiet_op; first | exact hK _ rfl | (apply Exists.intro; refine ⟨fun _ => ?_, ?_⟩; (focus (first | (intro hC; go_at_call 122; refine (H1.out _).mono ?_; rintro e w' ⟨rfl, hb⟩; refine ⟨rfl, ?_⟩; exact cls_call hFm hC hb))); exact hK _ rfl)); (case' k => simp only [Act.put, List.setIfInBounds_toArray, List.set_cons_succ, List.set_cons_zero, List.cons_append, List.nil_append]))
 iterate 2 (apply wpO_det; (case hw => rfl); (case h => intro hFm wx hS_ hF_ K hK; go_big_quiet_op; first | exact hK _ rfl | (apply Exists.intro; refine ⟨fun _ => ?_, ?_⟩; (focus (first | (intro hC; have hC := KF.out _ hC.out.1; (try simp only [hC, Result.andThen]); first | exact ⟨True.intro, rfl⟩ | exact ⟨rfl, rfl⟩ | rfl))); exact hK _ rfl)); (case' k => simp only [Act.put, List.setIfInBounds_toArray, List.set_cons_succ, List.set_cons_zero, List.cons_append, List.nil_append]))
 (apply wpO_det; (case hw => rfl); (case h => intro hFm wx hS_ hF_ K hK; go_big_quiet_op; first | exact hK _ rfl | (apply Exists.intro; refine ⟨fun _ => ?_, ?_⟩; (focus (first | (intro hC; go_at_call 122; refine (H2.out _).mono ?_; rintro e w' ⟨rfl, hb⟩; refine ⟨rfl, ?_⟩; exact cls_call hFm hC hb))); exact hK _ rfl)); (case' k => simp only [Act.put, List.setIfInBounds_toArray, List.set_cons_succ, List.set_cons_zero, List.cons_append, List.nil_append]))
 (apply wpO_det; (case hw => rfl); (case h => intro hFm wx hS_ hF_ K hK; go_big_quiet_op; first | exact hK _ rfl | (apply Exists.intro; refine ⟨fun _ => ?_, ?_⟩; (focus (first | (intro hC; have hC := KF.out _ hC.out.1; (try simp only [hC, Result.andThen]); first | exact ⟨True.intro, rfl⟩ | exact ⟨rfl, rfl⟩ | rfl))); exact hK _ rfl)); (case' k => simp only [Act.put, List.setIfInBounds_toArray, List.set_cons_succ, List.set_cons_zero, List.cons_append, List.nil_append]))
 (apply wpO_det; (case hw => rfl); (case h => intro hFm wx hS_ hF_ K hK; go_big_quiet_op; first | exact hK _ rfl | (apply Exists.intro; refine ⟨fun _ => ?_, ?_⟩; (focus (first | (intro hC; go_at_call 69; refine (H3.out _).mono ?_; rintro e w' ⟨rfl, hb⟩; refine ⟨rfl, ?_⟩; exact cls_call hFm hC hb))); exact hK _ rfl)); (case' k => simp only [Act.put, List.setIfInBounds_toArray, List.set_cons_succ, List.set_cons_zero, List.cons_append, List.nil_append]))
 refine wpO_nil ?_
 intro w2 hS hF hB
 (try simp [allF] at hF)
 (try simp [List.pairwise_cons] at hB)
 have hb := hS.blk HW1.out.2
 have HW2 := Lib.hid (HW1.out.1.trans hS)
 have r0 : w2.cell? ⟨G + 1, 0, none⟩ = some (.int .i64 0) := hb.cell 0
 have r1 : w2.cell? ⟨G + 1, 1, none⟩ = some (.int .i64 0) := hb.cell 1
 have f0 := hb.frozen 0
 have f1 := hb.frozen 1
 clear hS hF hB hb
 go_wp2_with fail
 refine bodyPost_ret (v := .agg #[.int .i64 cx, .int .i64 cy]) (by simp [results, Tryz.results101, go_sem, cSetS, cSetO, cellDrew, r0, r1]) rfl ⟨rfl, ?_⟩
 have hG := HGG.out
 exact (HW2.out.setCell (by dsimp only; omega) _).setCell (by dsimp only; omega) _
structure AlongM (fr way num den q r g p d s : Int) : Prop where
 hg : g = (Nat.gcd r.toNat den.toNat : Int)
 hm : -1048577 ≤ fr + q ∧ fr + q ≤ 1048577
 hp : p = r / g
 hd : d = den / g
 pd : 0 ≤ p ∧ p < d
 dl : d ≤ 8796093022208
 hs : s = (fr + q) * d + p
 sb : -9223372036854775808 < s ∧ s ≤ 9223372036854775807
 ok : FracOk p d
 val : s * den = (fr * den + way * num) * d
theorem along_math {fr way num den : Int} (hd : 0 < den ∧ den ≤ 8796093022208) (hb : -(1048576 * den) ≤ fr * den + way * num ∧ fr * den + way * num ≤ 1048576 * den) :
  ∃ g p d s, AlongM fr way num den (way * num / den) (way * num % den) g p d s := by
 have m0 := Int.emod_nonneg (way * num) (show den ≠ 0 by omega)
 have m1 := Int.emod_lt_of_pos (way * num) hd.1
 have dm := Int.mul_ediv_add_emod (way * num) den
 generalize way * num / den = q at *
 generalize way * num % den = r at *
 obtain ⟨gn, hgn⟩ : ∃ gn, gn = Nat.gcd r.toNat den.toNat := ⟨_, rfl⟩
 have gpos : 0 < gn := by rw [hgn]; exact Nat.gcd_pos_of_pos_right _ (by omega)
 obtain ⟨pn, hpn⟩ : gn ∣ r.toNat := by rw [hgn]; exact Nat.gcd_dvd_left _ _
 obtain ⟨dn, hdn⟩ : gn ∣ den.toNat := by rw [hgn]; exact Nat.gcd_dvd_right _ _
 have er : r = (gn : Int) * pn := by rw [← Int.natCast_mul, ← hpn]; omega
 have ed : den = (gn : Int) * dn := by rw [← Int.natCast_mul, ← hdn]; omega
 have dpos : 0 < dn := by
  rcases Nat.eq_zero_or_pos dn with h | h
  ·rw [h] at ed; simp at ed; omega
  ·exact h
 have cop : Nat.gcd pn dn = 1 := by
  have : Nat.gcd (gn * pn) (gn * dn) = gn * Nat.gcd pn dn := Nat.gcd_mul_left _ _ _
  rw [← hpn, ← hdn, ← hgn] at this
  exact Nat.eq_of_mul_eq_mul_left gpos (by omega)
 have plt : pn < dn := by
  have : gn * pn < gn * dn := by rw [← hpn, ← hdn]; omega
  exact Nat.lt_of_mul_lt_mul_left this
 have dle : (dn : Int) ≤ den := by
  have : 1 * dn ≤ gn * dn := Nat.mul_le_mul_right dn gpos
  rw [← hdn] at this; omega
 -- the sum lies in the box
 have key : (fr + q) * den + r = fr * den + way * num := by rw [← dm]; grind
 have mb : -1048576 ≤ fr + q ∧ fr + q ≤ 1048576 := by
  constructor
  ·refine Classical.byContradiction fun hn => ?_
   have := Int.mul_le_mul_of_nonneg_right (show fr + q ≤ -1048577 by omega) (show 0 ≤ den by omega)
   omega
  ·refine Classical.byContradiction fun hn => ?_
   have := Int.mul_le_mul_of_nonneg_right (show 1048577 ≤ fr + q by omega) (show 0 ≤ den by omega)
   omega
 have sb0 : -(1048576 * (dn : Int)) ≤ (fr + q) * dn + pn ∧ (fr + q) * dn + pn ≤ 1048576 * (dn : Int) := by
  have e : (gn : Int) * ((fr + q) * dn + pn) = fr * den + way * num := by rw [← key, ed, er]; grind
  rw [← e, ed] at hb
  have gp : (0 : Int) < gn := by omega
  constructor
  ·refine Int.le_of_mul_le_mul_left ?_ gp
   have : (gn : Int) * -(1048576 * (dn : Int)) = -(1048576 * ((gn : Int) * dn)) := by grind
   omega
  ·refine Int.le_of_mul_le_mul_left ?_ gp
   have : (gn : Int) * (1048576 * (dn : Int)) = 1048576 * ((gn : Int) * dn) := by grind
   omega
 have sb : -9223372036854775808 < (fr + q) * dn + pn ∧ (fr + q) * dn + pn ≤ 9223372036854775807 := by
  rcases Nat.eq_zero_or_pos pn with h0 | h0
  ·rw [h0, Nat.gcd_zero_left] at cop
   subst cop
   omega
  ·have a1 : (fr + q) * dn ≤ 1048575 * dn ∨ fr + q = 1048576 := by
    rcases Int.lt_or_le (fr + q) 1048576 with h | h
    ·exact .inl (Int.mul_le_mul_of_nonneg_right (by omega) (by omega))
    ·exact .inr (by omega)
   have a2 : -1048576 * dn ≤ (fr + q) * (dn : Int) := Int.mul_le_mul_of_nonneg_right (by omega) (by omega)
   rcases a1 with a1 | a1
   ·omega
   ·rw [a1] at sb0; omega
 refine ⟨gn, pn, dn, (fr + q) * dn + pn, by rw [hgn], by omega, ?_, ?_, ⟨by omega, by omega⟩, by omega, rfl, sb, ⟨by omega, by omega, by omega, by omega, by simpa using cop⟩, ?_⟩
 ·rw [er, Int.mul_ediv_cancel_left _ (by omega)]
 ·rw [ed, Int.mul_ediv_cancel_left _ (by omega)]
 ·rw [← key, er]
  grind
end
end Go.Proofs.YtdnccjdlmepafaaGreat
