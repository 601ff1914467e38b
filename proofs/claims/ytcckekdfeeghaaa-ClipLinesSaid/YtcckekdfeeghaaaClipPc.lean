/-
  The walk of terrref3.PartOf: the part of a segment in a box, its ends rounded. Conditions: a right segment and box; where a part is found its ends lie in [0, 1].
-/
import Derived.Test.YtcckekdfeeghaaaClipPa
import Derived.Test.YtcckekdfeeghaaaClipPb
import Derived.Test.YtcckekdfeeghaaaFactsT
namespace Go.Proofs.Ytcckekdfeeghaaa
set_option linter.unusedSimpArgs false
set_option linter.unusedVariables false
open Go.RowKit Go.BigFrame

/-- What is known of the two ends of a part that is found. -/
def endsR (r : PSt) : Prop := r.2.2 = true → (0 ≤ r.1.1 ∧ r.1.1 ≤ r.1.2 ∧ 0 < r.1.2 ∧ r.1.2 ≤ 2097152) ∧ (0 ≤ r.2.1.1 ∧ r.2.1.1 ≤ r.2.1.2 ∧ 0 < r.2.1.2 ∧ r.2.1.2 ≤ 2097152)
theorem endsR_step {ax ay dx dy lx ly hx hy : Int} {f : Nat → Rat2} {i : Nat} {st : PSt} (h : endsR st) (g1 : good2 (f i)) (g2 : good2 (f (i + 1))) : endsR (partStep ax ay dx dy lx ly hx hy f i st) := by
  unfold partStep
  split
  · rename_i hc
    obtain ⟨hr, -⟩ := hc
    unfold rangeB at hr
    rw [Bool.and_eq_true, Bool.and_eq_true, ltR_iff, decide_eq_true_eq, decide_eq_true_eq] at hr
    obtain ⟨⟨h1, h2⟩, h3⟩ := hr
    have k1 : (f i).1 ≤ (f i).2 := by
      have a1 : (f (i + 1)).1 * (f i).2 ≤ (f (i + 1)).2 * (f i).2 := Int.mul_le_mul_of_nonneg_right h3 (by have := g1.2.1; omega)
      have a2 : (f i).1 * (f (i + 1)).2 ≤ (f i).2 * (f (i + 1)).2 := by rw [Int.mul_comm (f i).2]; omega
      exact Int.le_of_mul_le_mul_right a2 g2.2.1
    have k2 : 0 ≤ (f (i + 1)).1 := by
      have a1 : 0 ≤ (f i).1 * (f (i + 1)).2 := Int.mul_nonneg h2 (by have := g2.2.1; omega)
      have a2 : 0 * (f i).2 ≤ (f (i + 1)).1 * (f i).2 := by omega
      exact Int.le_of_mul_le_mul_right a2 g1.2.1
    intro _
    refine ⟨?_, k2, h3, g2.2.1, g2.2.2⟩
    dsimp only
    split
    · rename_i hs
      exact (h hs).1
    · exact ⟨h2, k1, g1.2.1, g1.2.2⟩
  · exact h
theorem endsR_run {ax ay dx dy lx ly hx hy : Int} {f : Nat → Rat2} : ∀ (k i : Nat) (st : PSt), (∀ j, j ≤ i + k → good2 (f j)) → endsR st → endsR (partRun ax ay dx dy lx ly hx hy f k i st)
  | 0, i, st, hg, h => h
  | k + 1, i, st, hg, h => by
    rw [partRun]
    exact endsR_run k (i + 1) _ (fun j hj => hg j (by omega)) (endsR_step h (hg i (by omega)) (hg (i + 1) (by omega)))

theorem PartV.good {ax ay cx cy lx ly hx hy : Int} {r : PSt} (h : PartV ax ay cx cy lx ly hx hy r) (h1 : okP ax ay = true) (h2 : okP cx cy = true) (h3 : okB lx ly hx hy = true) : endsR r := by
  rw [okP_iff] at h1 h2
  rw [okB_iff] at h3
  obtain ⟨⟨a1, a2⟩, a3, a4⟩ := h1
  obtain ⟨⟨c1, c2⟩, c3, c4⟩ := h2
  obtain ⟨⟨⟨b1, b2⟩, b3, b4⟩, ⟨⟨b5, b6⟩, b7, b8⟩, b9, b10⟩ := h3
  by_cases hac : ax = cx ∧ ay = cy
  · rw [h.1 hac]; intro h; cases h
  · obtain ⟨f, -, hs, rfl⟩ := h.2 hac
    have hn := tsL_two ax ay cx cy lx ly hx hy 2 2
    have hgd := tsL_good (ax := ax) (ay := ay) (cx := cx) (cy := cy) (lx := lx) (ly := ly) (hx := hx) (hy := hy) (i := 2) (j := 2) (by omega) (by omega) (by omega) (by omega) (by omega) (by omega)
    refine endsR_run _ _ _ (fun j hj => ?_) (fun h => by cases h)
    obtain ⟨k, hk, e⟩ := hs.2 j (by omega)
    rw [e]; exact hgd k hk

def atP (ax ay cx cy : Int) (s : Rat2) : Int × Int := (ax + rnd ((cx - ax) * s.1) s.2, ay + rnd ((cy - ay) * s.1) s.2)
def ptT (p : Int × Int) : Value := .agg #[.int .i64 p.1, .int .i64 p.2]
def PartOfV (ax ay cx cy : Int) (r : PSt) : Value :=
  .tuple #[ptT (if r.2.2 = true then atP ax ay cx cy r.1 else (0, 0)), ptT (if r.2.2 = true then atP ax ay cx cy r.2.1 else (0, 0)), .bool (r.2.2 && (r.1.1 == 0)), .bool (r.2.2 && (r.2.1.1 == r.2.1.2)), .bool r.2.2]

set_option maxRecDepth 100000 in
set_option maxHeartbeats 1000000 in
theorem PartOf_any (ax ay cx cy lx ly hx hy : Int) (w : World) (h1 : okP ax ay = true) (h2 : okP cx cy = true) (h3 : okB lx ly hx hy = true) :
    Calls Try.prog 34 #[.agg #[.int .i64 ax, .int .i64 ay], .agg #[.int .i64 cx, .int .i64 cy], .agg #[.int .i64 lx, .int .i64 ly, .int .i64 hx, .int .i64 hy]] w fun e w' => (∃ r : PSt, e = .returned (PartOfV ax ay cx cy r) ∧ PartV ax ay cx cy lx ly hx hy r) ∧ Since w w' := by
  have HP := Lib.hid (fun w => Part_any ax ay cx cy lx ly hx hy w h1 h2 h3)
  have HK := Lib.hid (And.intro h1 (And.intro h2 h3))
  clear h1 h2 h3
  go_enter Try.func34, Try.ntmps34
  go_upto_region 1 with fail
  refine atW (fun w' => Blk w' w.heap.size 23 #[.int .i64 ax, .int .i64 ay] ∧ Blk w' (w.heap.size + 1) 23 #[.int .i64 cx, .int .i64 cy] ∧ Blk w' (w.heap.size + 1 + 1) 28 #[.int .i64 lx, .int .i64 ly, .int .i64 hx, .int .i64 hy] ∧
    Blk w' (w.heap.size + 1 + 1 + 1) 23 #[.int .i64 0, .int .i64 0] ∧ Blk w' (w.heap.size + 1 + 1 + 1 + 1) 23 #[.int .i64 0, .int .i64 0] ∧ Since w w') ⟨((((Blk.new w _ _).alloc _).alloc _).alloc _).alloc _, (((Blk.new' (by simp)).alloc _).alloc _).alloc _, ((Blk.new' (by simp)).alloc _).alloc _, (Blk.new' (by simp)).alloc _, Blk.new' (by simp), (((((Since.rfl_ w).alloc _).alloc _).alloc _).alloc _).alloc _⟩ ?_
  rintro w1 ⟨ha, hc, hb, hp, hq, hs⟩
  have a_0 := ha.cell 0
  have a_1 := ha.cell 1
  have a_f0 := ha.frozen 0
  have a_f1 := ha.frozen 1
  simp only [List.getElem?_toArray, List.getElem?_cons_zero, List.getElem?_cons_succ] at a_0 a_1
  have c_0 := hc.cell 0
  have c_1 := hc.cell 1
  have c_f0 := hc.frozen 0
  have c_f1 := hc.frozen 1
  simp only [List.getElem?_toArray, List.getElem?_cons_zero, List.getElem?_cons_succ] at c_0 c_1
  have b_0 := hb.cell 0
  have b_1 := hb.cell 1
  have b_2 := hb.cell 2
  have b_3 := hb.cell 3
  simp only [List.getElem?_toArray, List.getElem?_cons_zero, List.getElem?_cons_succ] at b_0 b_1 b_2 b_3
  have HE := Lib.hid (And.intro ha (And.intro hc (And.intro hp (And.intro hq hs))))
  clear ha hc hb hp hq hs
  go_wp2_with fail
  refine (HP.out _).mono ?_
  rintro e w2 ⟨⟨r, rfl, hr⟩, hs⟩
  have HEnd := Lib.hid (hr.good HK.out.1 HK.out.2.1 HK.out.2.2)
  have HR := Lib.hid hr
  have HE2 := Lib.hid (And.intro (hs.blk HE.out.1) (And.intro (hs.blk HE.out.2.1) (And.intro (hs.blk HE.out.2.2.1) (And.intro (hs.blk HE.out.2.2.2.1) (HE.out.2.2.2.2.trans hs)))))
  clear hr hs HE HP a_0 a_1 a_f0 a_f1 c_0 c_1 c_f0 c_f1 b_0 b_1 b_2 b_3
  go_upto_if 23 with fail
  refine atW (fun w' => Blk w' w.heap.size 23 #[.int .i64 ax, .int .i64 ay] ∧ Blk w' (w.heap.size + 1) 23 #[.int .i64 cx, .int .i64 cy] ∧ Blk w' (w.heap.size + 1 + 1 + 1) 23 #[.int .i64 0, .int .i64 0] ∧ Blk w' (w.heap.size + 1 + 1 + 1 + 1) 23 #[.int .i64 0, .int .i64 0] ∧ Since w w' ∧
    Blk w' w2.heap.size 106 #[.int .i64 r.1.1, .int .i64 r.1.2] ∧ Blk w' (w2.heap.size + 1) 106 #[.int .i64 r.2.1.1, .int .i64 r.2.1.2]) ?hw ?_
  case hw => exact ⟨(HE2.out.1.alloc _).alloc _, (HE2.out.2.1.alloc _).alloc _, (HE2.out.2.2.1.alloc _).alloc _, (HE2.out.2.2.2.1.alloc _).alloc _, (HE2.out.2.2.2.2.alloc _).alloc _, (Blk.new _ _ _).alloc _, Blk.new' (by simp)⟩
  rintro w3 ⟨ha, hc, hp, hq, hs, h11, h12⟩
  have l2 := HE2.out.2.2.2.1.lt
  have hw2 : w.heap.size ≤ w2.heap.size := HE2.out.2.2.2.2.size
  obtain ⟨G, HG⟩ : ∃ G, G = w2.heap.size := ⟨_, rfl⟩
  rw [← HG] at h11 h12 l2 hw2 ⊢
  clear HG HE2
  cases hf : r.2.2
  · have p_0 := hp.cell 0
    have p_1 := hp.cell 1
    have p_f0 := hp.frozen 0
    have p_f1 := hp.frozen 1
    simp only [List.getElem?_toArray, List.getElem?_cons_zero, List.getElem?_cons_succ] at p_0 p_1
    have q_0 := hq.cell 0
    have q_1 := hq.cell 1
    have q_f0 := hq.frozen 0
    have q_f1 := hq.frozen 1
    simp only [List.getElem?_toArray, List.getElem?_cons_zero, List.getElem?_cons_succ] at q_0 q_1
    have HS := Lib.hid hs
    have HV : Hid (PartOfV ax ay cx cy r = .tuple #[.agg #[.int .i64 0, .int .i64 0], .agg #[.int .i64 0, .int .i64 0], .bool false, .bool false, .bool false]) := by show _ = _; unfold PartOfV; rw [hf]; rfl
    clear ha hc hp hq hs h11 h12
    go_upto_region 3 with fail
    go_region
    all_goals
      go_wp2_with fail
      refine bodyPost_ret (v := .tuple #[.agg #[.int .i64 0, .int .i64 0], .agg #[.int .i64 0, .int .i64 0], .bool false, .bool false, .bool false]) (by simp [results, Try.results34, go_sem, cSetS, cSetO, p_0, p_1, q_0, q_1, cellDrew]) rfl ⟨⟨r, by rw [HV.out], HR.out⟩, ?_⟩
      exact ((((HS.out.setCell (by dsimp only; omega) _).setCell (by dsimp only; omega) _).setCell (by dsimp only; omega) _).setCell (by dsimp only; omega) _).drew
  · obtain ⟨⟨e1, e2, e3, e4⟩, e5, e6, e7, e8⟩ := HEnd.out hf
    go_upto_region 5 with fail
    have s_0 := h11.cell 0
    have s_1 := h11.cell 1
    have s_f0 := h11.frozen 0
    have s_f1 := h11.frozen 1
    simp only [List.getElem?_toArray, List.getElem?_cons_zero, List.getElem?_cons_succ] at s_0 s_1
    have t_0 := h12.cell 0
    have t_1 := h12.cell 1
    have t_f0 := h12.frozen 0
    have t_f1 := h12.frozen 1
    simp only [List.getElem?_toArray, List.getElem?_cons_zero, List.getElem?_cons_succ] at t_0 t_1
    obtain ⟨P1, HP1⟩ : ∃ P1, Hid (P1 = atP ax ay cx cy r.1) := ⟨_, rfl⟩
    obtain ⟨P2, HP2⟩ : ∃ P2, Hid (P2 = atP ax ay cx cy r.2.1) := ⟨_, rfl⟩
    have A1 := Lib.hid (fun w' ha hc => atR_any w.heap.size (w.heap.size + 1) ax ay cx cy r.1.1 r.1.2 w' ha hc HK.out.1 HK.out.2.1 e1 e2 e3 e4)
    have A2 := Lib.hid (fun w' ha hc => atR_any w.heap.size (w.heap.size + 1) ax ay cx cy r.2.1.1 r.2.1.2 w' ha hc HK.out.1 HK.out.2.1 e5 e6 e7 e8)
    letI TT : Tgt := ⟨fun g => if g = w.heap.size + 1 + 1 + 1 then some (.cells #[.int .i64 (atP ax ay cx cy r.1).1, .int .i64 (atP ax ay cx cy r.1).2] 23) else if g = w.heap.size + 1 + 1 + 1 + 1 then some (.cells #[.int .i64 (atP ax ay cx cy r.2.1).1, .int .i64 (atP ax ay cx cy r.2.1).2] 23) else none⟩
    have KT : ∀ g, g ≠ w.heap.size + 1 + 1 + 1 → g ≠ w.heap.size + 1 + 1 + 1 + 1 → Tgt.T g = none := fun g h1 h2 => by
      show (if _ then _ else if _ then _ else _) = _
      rw [if_neg h1, if_neg h2]
    have KB : ∀ w', SinceT w3 w' → Blk w' w.heap.size 23 #[.int .i64 ax, .int .i64 ay] ∧ Blk w' (w.heap.size + 1) 23 #[.int .i64 cx, .int .i64 cy] ∧ Blk w' G 106 #[.int .i64 r.1.1, .int .i64 r.1.2] ∧ Blk w' (G + 1) 106 #[.int .i64 r.2.1.1, .int .i64 r.2.1.2] := fun w' h =>
      ⟨h.blk (KT _ (by omega) (by omega)) ha, h.blk (KT _ (by omega) (by omega)) hc, h.blk (KT _ (by omega) (by omega)) h11, h.blk (KT _ (by omega) (by omega)) h12⟩
    have KF : ∀ w', SinceT w3 w' → w'.cell? ⟨G, 0, none⟩ = some (.int .i64 r.1.1) ∧ w'.cell? ⟨G, 1, none⟩ = some (.int .i64 r.1.2) ∧ w'.cell? ⟨G + 1, 0, none⟩ = some (.int .i64 r.2.1.1) ∧ w'.cell? ⟨G + 1, 1, none⟩ = some (.int .i64 r.2.1.2) := fun w' h =>
      ⟨(KB w' h).2.2.1.cell 0, (KB w' h).2.2.1.cell 1, (KB w' h).2.2.2.cell 0, (KB w' h).2.2.2.cell 1⟩
    have KB := Lib.hid KB
    have KF := Lib.hid KF
    have hl3 := h12.lt
    have HH := Lib.hid (And.intro hp (And.intro hq hs))
    clear ha hc h11 h12 hp hq hs e1 e2 e3 e4 e5 e6 e7 e8 s_0 s_1 s_f0 s_f1 t_0 t_1 t_f0 t_f1
    apply region_factsT 19 (fun w' => SinceT w3 w')
    case hm => kernel_rfl
    case hB => kernel_rfl
    case hS => exact (SinceT.rfl_ w3).drew
    case hmono => exact (fun _ _ h k => h.trans k)
    case hTb => exact (fun g hg => KT g (by omega) (by omega))
    case h =>
    simp only [List.take_succ_cons, List.take_zero, List.drop_succ_cons, List.drop_zero]
    apply wpO_detT
    case hw => rfl
    case h =>
      intro hFm wx hS_ hF_ K hK
      go_big_quiet_op
      first
        | exact hK _ rfl
        | (apply Exists.intro; refine ⟨fun _ => ?_, ?_⟩; (focus (first | (intro hC; have hC := KF.out _ hC.out.1; (try simp only [hC, Result.andThen]); first | exact ⟨True.intro, rfl⟩ | exact ⟨rfl, rfl⟩ | rfl))); exact hK _ rfl)
    case k =>
    simp only [Act.put, List.setIfInBounds_toArray, List.set_cons_succ, List.set_cons_zero, List.cons_append, List.nil_append]
    apply wpO_detT
    case hw => rfl
    case h =>
      intro hFm wx hS_ hF_ K hK
      go_big_quiet_op
      first
        | exact hK _ rfl
        | (apply Exists.intro; refine ⟨fun _ => ?_, ?_⟩; (focus (first | (intro hC; have hC := KF.out _ hC.out.1; (try simp only [hC, Result.andThen]); first | exact ⟨True.intro, rfl⟩ | exact ⟨rfl, rfl⟩ | rfl))); exact hK _ rfl)
    case k =>
    simp only [Act.put, List.setIfInBounds_toArray, List.set_cons_succ, List.set_cons_zero, List.cons_append, List.nil_append]
    apply wpO_detT
    case hw => rfl
    case h =>
      intro hFm wx hS_ hF_ K hK
      go_big_quiet_op
      first
        | exact hK _ rfl
        | (apply Exists.intro; refine ⟨fun _ => ?_, ?_⟩; (focus (first | (intro hC; go_at_call 82; refine (A1.out _ (KB.out _ hC.out.1).1 (KB.out _ hC.out.1).2.1).mono ?_; rintro e w' ⟨rfl, hb⟩; refine ⟨rfl, ?_⟩; exact cls_callT (fun _ _ h k => h.trans k) hFm hC hb))); exact hK _ rfl)
    case k =>
    simp only [Act.put, List.setIfInBounds_toArray, List.set_cons_succ, List.set_cons_zero, List.cons_append, List.nil_append]
    apply wpO_detT
    case hw => rfl
    case h =>
      intro hFm wx hS_ hF_ K hK
      go_big_quiet_op
      first
        | exact hK _ rfl
        | (apply Exists.intro; refine ⟨fun _ => ?_, ?_⟩; (focus (first | (intro hC; have hC := KF.out _ hC.out.1; (try simp only [hC, Result.andThen]); first | exact ⟨True.intro, rfl⟩ | exact ⟨rfl, rfl⟩ | rfl))); exact hK _ rfl)
    case k =>
    simp only [Act.put, List.setIfInBounds_toArray, List.set_cons_succ, List.set_cons_zero, List.cons_append, List.nil_append]
    apply wpO_detT
    case hw => rfl
    case h =>
      intro hFm wx hS_ hF_ K hK
      go_big_quiet_op
      first
        | exact hK _ rfl
        | (apply Exists.intro; refine ⟨fun _ => ?_, ?_⟩; (focus (first | (intro hC; have hC := KF.out _ hC.out.1; (try simp only [hC, Result.andThen]); first | exact ⟨True.intro, rfl⟩ | exact ⟨rfl, rfl⟩ | rfl))); exact hK _ rfl)
    case k =>
    simp only [Act.put, List.setIfInBounds_toArray, List.set_cons_succ, List.set_cons_zero, List.cons_append, List.nil_append]
    apply wpO_detT
    case hw => rfl
    case h =>
      intro hFm wx hS_ hF_ K hK
      go_big_quiet_op
      first
        | exact hK _ rfl
        | (apply Exists.intro; refine ⟨fun _ => ?_, ?_⟩; (focus (first | (intro hC; go_at_call 82; refine (A2.out _ (KB.out _ hC.out.1).1 (KB.out _ hC.out.1).2.1).mono ?_; rintro e w' ⟨rfl, hb⟩; refine ⟨rfl, ?_⟩; exact cls_callT (fun _ _ h k => h.trans k) hFm hC hb))); exact hK _ rfl)
    case k =>
    simp only [Act.put, List.setIfInBounds_toArray, List.set_cons_succ, List.set_cons_zero, List.cons_append, List.nil_append]
    apply wpO_detT
    case hw => rfl
    case h =>
      intro hFm wx hS_ hF_ K hK
      go_big_quiet_op
      first
        | exact hK _ rfl
        | (apply Exists.intro; refine ⟨fun _ => ?_, ?_⟩; (focus (first | (intro hC; have hC := KF.out _ hC.out.1; (try simp only [hC, Result.andThen]); first | exact ⟨True.intro, rfl⟩ | exact ⟨rfl, rfl⟩ | rfl))); exact hK _ rfl)
    case k =>
    simp only [Act.put, List.setIfInBounds_toArray, List.set_cons_succ, List.set_cons_zero, List.cons_append, List.nil_append]
    apply wpO_detT
    case hw => rfl
    case h =>
      intro hFm wx hS_ hF_ K hK
      go_big_quiet_op
      first
        | exact hK _ rfl
        | (apply Exists.intro; refine ⟨fun _ => ?_, ?_⟩; (focus (first | (intro hC; have hC := KF.out _ hC.out.1; (try simp only [hC, Result.andThen]); first | exact ⟨True.intro, rfl⟩ | exact ⟨rfl, rfl⟩ | rfl))); exact hK _ rfl)
    case k =>
    simp only [Act.put, List.setIfInBounds_toArray, List.set_cons_succ, List.set_cons_zero, List.cons_append, List.nil_append]
    apply wpO_detT
    case hw => rfl
    case h =>
      intro hFm wx hS_ hF_ K hK
      go_big_quiet_op
      first
        | exact hK _ rfl
        | (apply Exists.intro; refine ⟨fun _ => ?_, ?_⟩; (focus (first | (intro hC; have hC := KF.out _ hC.out.1; (try simp only [hC, Result.andThen]); first | exact ⟨True.intro, rfl⟩ | exact ⟨rfl, rfl⟩ | rfl))); exact hK _ rfl)
    case k =>
    simp only [Act.put, List.setIfInBounds_toArray, List.set_cons_succ, List.set_cons_zero, List.cons_append, List.nil_append]
    apply wpO_detT
    case hw => rfl
    case h =>
      intro hFm wx hS_ hF_ K hK
      go_big_quiet_op
      first
        | exact hK _ rfl
        | (apply Exists.intro; refine ⟨fun _ => ?_, ?_⟩; (focus (first | (intro hC; have hC := KF.out _ hC.out.1; (try simp only [hC, Result.andThen]); first | exact ⟨True.intro, rfl⟩ | exact ⟨rfl, rfl⟩ | rfl))); exact hK _ rfl)
    case k =>
    simp only [Act.put, List.setIfInBounds_toArray, List.set_cons_succ, List.set_cons_zero, List.cons_append, List.nil_append]
    apply wpO_detT
    case hw => rfl
    case h =>
      intro hFm wx hS_ hF_ K hK
      go_big_quiet_op
      first
        | exact hK _ rfl
        | (apply Exists.intro; refine ⟨fun _ => ?_, ?_⟩; (focus (first | (intro hC; have hC := KF.out _ hC.out.1; (try simp only [hC, Result.andThen]); first | exact ⟨True.intro, rfl⟩ | exact ⟨rfl, rfl⟩ | rfl))); exact hK _ rfl)
    case k =>
    simp only [Act.put, List.setIfInBounds_toArray, List.set_cons_succ, List.set_cons_zero, List.cons_append, List.nil_append]
    apply wpO_detT
    case hw => rfl
    case h =>
      intro hFm wx hS_ hF_ K hK
      go_big_quiet_op
      first
        | exact hK _ rfl
        | (apply Exists.intro; refine ⟨fun _ => ?_, ?_⟩; (focus (first | (intro hC; have hC := KF.out _ hC.out.1; (try simp only [hC, Result.andThen]); first | exact ⟨True.intro, rfl⟩ | exact ⟨rfl, rfl⟩ | rfl))); exact hK _ rfl)
    case k =>
    simp only [Act.put, List.setIfInBounds_toArray, List.set_cons_succ, List.set_cons_zero, List.cons_append, List.nil_append]
    apply wpO_detT
    case hw => rfl
    case h =>
      intro hFm wx hS_ hF_ K hK
      go_big_quiet_op
      first
        | exact hK _ rfl
        | (apply Exists.intro; refine ⟨fun _ => ?_, ?_⟩; (focus (first | (intro hC; have hC := KF.out _ hC.out.1; (try simp only [hC, Result.andThen]); first | exact ⟨True.intro, rfl⟩ | exact ⟨rfl, rfl⟩ | rfl))); exact hK _ rfl)
    case k =>
    simp only [Act.put, List.setIfInBounds_toArray, List.set_cons_succ, List.set_cons_zero, List.cons_append, List.nil_append]
    apply wpO_detT
    case hw => rfl
    case h =>
      intro hFm wx hS_ hF_ K hK
      go_big_quiet_op
      first
        | exact hK _ rfl
        | (apply Exists.intro; refine ⟨fun _ => ?_, ?_⟩; (focus (first | (intro hC; have hC := KF.out _ hC.out.1; (try simp only [hC, Result.andThen]); first | exact ⟨True.intro, rfl⟩ | exact ⟨rfl, rfl⟩ | rfl))); exact hK _ rfl)
    case k =>
    simp only [Act.put, List.setIfInBounds_toArray, List.set_cons_succ, List.set_cons_zero, List.cons_append, List.nil_append]
    have K3 : Tgt.T (w.heap.size + 1 + 1 + 1) = some (.cells #[.int .i64 (atP ax ay cx cy r.1).1, .int .i64 (atP ax ay cx cy r.1).2] 23 (0, 0)) := if_pos rfl
    have K4 : Tgt.T (w.heap.size + 1 + 1 + 1 + 1) = some (.cells #[.int .i64 (atP ax ay cx cy r.2.1).1, .int .i64 (atP ax ay cx cy r.2.1).2] 23 (0, 0)) := (if_neg (by omega)).trans (if_pos rfl)
    apply wpO_anyT (R := (fun _ w' => Blk w' (w.heap.size + 1 + 1 + 1) 23 #[.int .i64 (atP ax ay cx cy r.1).1, .int .i64 (atP ax ay cx cy r.1).2]))
    case hR => exact (fun _ _ _ h k => k.blkT K3 h)
    case hw => rfl
    case h =>
      intro wx hS_ hF_
      unfold runVT
      (obtain ⟨x, y, hb⟩ := two_T hS_ HH.out.1 K3; have c0 := hb.cell 0; have c1 := hb.cell 1; have f0 := hb.frozen 0; have f1 := hb.frozen 1; simp only [List.getElem?_toArray, List.getElem?_cons_zero, List.getElem?_cons_succ] at c0 c1; have hr := Lib.hid (store2_T hb K3); simp [go_sem, c0, c1, f0, f1, cSetS, cSetO]; exact hr.out)
    case k =>
    intro v3
    simp only [Act.put, List.setIfInBounds_toArray, List.set_cons_succ, List.set_cons_zero, List.cons_append, List.nil_append]
    apply wpO_anyT (R := (fun _ w' => Blk w' (w.heap.size + 1 + 1 + 1 + 1) 23 #[.int .i64 (atP ax ay cx cy r.2.1).1, .int .i64 (atP ax ay cx cy r.2.1).2]))
    case hR => exact (fun _ _ _ h k => k.blkT K4 h)
    case hw => rfl
    case h =>
      intro wx hS_ hF_
      unfold runVT
      (obtain ⟨x, y, hb⟩ := two_T hS_ HH.out.2.1 K4; have c0 := hb.cell 0; have c1 := hb.cell 1; have f0 := hb.frozen 0; have f1 := hb.frozen 1; simp only [List.getElem?_toArray, List.getElem?_cons_zero, List.getElem?_cons_succ] at c0 c1; have hr := Lib.hid (store2_T hb K4); simp [go_sem, c0, c1, f0, f1, cSetS, cSetO]; exact hr.out)
    case k =>
    intro v4
    simp only [Act.put, List.setIfInBounds_toArray, List.set_cons_succ, List.set_cons_zero, List.cons_append, List.nil_append]
    apply wpO_detT
    case hw => rfl
    case h =>
      intro hFm wx hS_ hF_ K hK
      go_big_quiet_op
      first
        | exact hK _ rfl
        | (apply Exists.intro; refine ⟨fun _ => ?_, ?_⟩; (focus (first | (intro hC; have hC := KF.out _ hC.out.1; (try simp only [hC, Result.andThen]); first | exact ⟨True.intro, rfl⟩ | exact ⟨rfl, rfl⟩ | rfl))); exact hK _ rfl)
    case k =>
    simp only [Act.put, List.setIfInBounds_toArray, List.set_cons_succ, List.set_cons_zero, List.cons_append, List.nil_append]
    apply wpO_detT
    case hw => rfl
    case h =>
      intro hFm wx hS_ hF_ K hK
      go_big_quiet_op
      first
        | exact hK _ rfl
        | (apply Exists.intro; refine ⟨fun _ => ?_, ?_⟩; (focus (first | (intro hC; have hC := KF.out _ hC.out.1; (try simp only [hC, Result.andThen]); first | exact ⟨True.intro, rfl⟩ | exact ⟨rfl, rfl⟩ | rfl))); exact hK _ rfl)
    case k =>
    simp only [Act.put, List.setIfInBounds_toArray, List.set_cons_succ, List.set_cons_zero, List.cons_append, List.nil_append]
    apply wpO_detT
    case hw => rfl
    case h =>
      intro hFm wx hS_ hF_ K hK
      go_big_quiet_op
      first
        | exact hK _ rfl
        | (apply Exists.intro; refine ⟨fun _ => ?_, ?_⟩; (focus (first | (intro hC; have hC := KF.out _ hC.out.1; (try simp only [hC, Result.andThen]); first | exact ⟨True.intro, rfl⟩ | exact ⟨rfl, rfl⟩ | rfl))); exact hK _ rfl)
    case k =>
    simp only [Act.put, List.setIfInBounds_toArray, List.set_cons_succ, List.set_cons_zero, List.cons_append, List.nil_append]
    refine wpO_nilT ?_
    intro w5 hS hF hB
    (try simp [allF] at hF)
    (try simp [List.pairwise_cons] at hB)
    obtain ⟨hb1, hb2⟩ := hF
    have p_0 := hb1.cell 0
    have p_1 := hb1.cell 1
    have p_f0 := hb1.frozen 0
    have p_f1 := hb1.frozen 1
    simp only [List.getElem?_toArray, List.getElem?_cons_zero, List.getElem?_cons_succ] at p_0 p_1
    have q_0 := hb2.cell 0
    have q_1 := hb2.cell 1
    have q_f0 := hb2.frozen 0
    have q_f1 := hb2.frozen 1
    simp only [List.getElem?_toArray, List.getElem?_cons_zero, List.getElem?_cons_succ] at q_0 q_1
    have HS := Lib.hid (hS.since HH.out.2.2 (fun g hg => KT g (by omega) (by omega)))
    have HV : Hid (PartOfV ax ay cx cy r = .tuple #[.agg #[.int .i64 (atP ax ay cx cy r.1).1, .int .i64 (atP ax ay cx cy r.1).2], .agg #[.int .i64 (atP ax ay cx cy r.2.1).1, .int .i64 (atP ax ay cx cy r.2.1).2], .bool (r.1.1 == 0), .bool (r.2.1.1 == r.2.1.2), .bool true]) := by show _ = _; unfold PartOfV; rw [hf]; simp [ptT]
    clear hS hB hb1 hb2 K3 K4 KT KB KF A1 A2 HP1 HP2
    go_wp2_with fail
    trace_state
    refine bodyPost_ret (v := .tuple #[.agg #[.int .i64 (atP ax ay cx cy r.1).1, .int .i64 (atP ax ay cx cy r.1).2], .agg #[.int .i64 (atP ax ay cx cy r.2.1).1, .int .i64 (atP ax ay cx cy r.2.1).2], .bool (r.1.1 == 0), .bool (r.2.1.1 == r.2.1.2), .bool true]) (by simp [results, Try.results34, go_sem, cSetS, cSetO, p_0, p_1, q_0, q_1, cellDrew]) rfl ⟨⟨r, by rw [HV.out], HR.out⟩, HS.out⟩
end Go.Proofs.Ytcckekdfeeghaaa
