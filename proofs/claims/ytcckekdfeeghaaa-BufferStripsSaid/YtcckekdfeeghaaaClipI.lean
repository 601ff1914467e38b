/-
  Walks of box.Of, box.Hit. Conditions: bounds of the numbers.
-/
import Derived.Test.YtcckekdfeeghaaaClipH
import Derived.Test.YtcckekdfeeghaaaClipC
namespace Go.Proofs.Ytcckekdfeeghaaa
set_option linter.unusedSimpArgs false
set_option linter.unusedVariables false
open Go.RowKit Go.BigFrame
attribute [local go_sem ↓] eqPt neqPt
attribute [local go_sem] max2_int min2_int max_two min_two

abbrev BoxT := Int × Int × Int × Int
def clampP (p : Pt2) : Pt2 := (clampI p.1, clampI p.2)
def joinP (b : BoxT) (p : Pt2) : BoxT := (min b.1 p.1, min b.2.1 p.2, max b.2.2.1 p.1, max b.2.2.2 p.2)
/-- The least box of points. -/
def ofV : List Pt2 → BoxT
  | [] => (0, 0, 0, 0)
  | p :: l => (l.map clampP).foldl joinP ((clampP p).1, (clampP p).2, (clampP p).1, (clampP p).2)
def ofK (l : List Pt2) (k : Nat) : BoxT := ofV (l.take k)
theorem ofK_succ {l : List Pt2} {k : Nat} (h : k < l.length) (hk : 0 < k) : ofK l (k + 1) = joinP (ofK l k) (clampP (pAt l k)) := by
  unfold ofK
  rw [List.take_succ_eq_append_getElem h]
  have hp : pAt l k = l[k] := by unfold pAt; simp [List.getD, h]
  cases hl : l.take k with
  | nil => simp at hl; rcases hl with hl | hl; · omega
           · subst hl; simp at h
  | cons p t => simp [ofV, hp]
theorem ofK_one {l : List Pt2} (h : 0 < l.length) : ofK l 1 = joinP ((clampP (pAt l 0)).1, (clampP (pAt l 0)).2, (clampP (pAt l 0)).1, (clampP (pAt l 0)).2) (clampP (pAt l 0)) := by
  cases l with
  | nil => simp at h
  | cons p t => simp [ofK, ofV, joinP, pAt]

set_option maxHeartbeats 1000000 in
theorem Of_any (v : Value) (l : List Pt2) (w : World) (hl : l.length ≤ 1000000000000000) (hv : PtsS w v l) :
    Calls Try.prog 25 #[v] w fun e w' => e = .returned (.agg #[.int .i64 (ofV l).1, .int .i64 (ofV l).2.1, .int .i64 (ofV l).2.2.1, .int .i64 (ofV l).2.2.2]) ∧ Since w w' := by
  obtain ⟨a, c, rfl, hv⟩ := hv
  have HV := Lib.hid hv
  clear hv
  go_enter Try.func25, Try.ntmps25
  go_wp2_with fail
  go_loopw [8] (fun v wr => ∃ k : Nat, k ≤ l.length ∧ v = .int .i64 k ∧ Blk wr w.heap.size 28 #[.int .i64 0, .int .i64 0, .int .i64 0, .int .i64 0] ∧
    Blk wr (w.heap.size + 1) 28 #[.int .i64 (ofK l k).1, .int .i64 (ofK l k).2.1, .int .i64 (ofK l k).2.2.1, .int .i64 (ofK l k).2.2.2] ∧ Since w wr) (fun v _ => l.length - (intOf v).toNat)
  case atStart => exact ⟨0, Nat.zero_le _, rfl, (Blk.new w _ _).alloc _, Blk.new' (by simp), ((Since.rfl_ w).alloc _).alloc _⟩
  case round =>
    obtain ⟨k, hk, rfl, hr, hb, hs⟩ := hrel
    rcases Nat.lt_or_ge k l.length with hlt | hge
    · obtain ⟨g, o, ha, e0, e1⟩ := HV.out k hlt
      subst ha
      replace e0 := keepC hs _ _ e0
      replace e1 := keepC hs _ _ e1
      have HR := Lib.hid hr
      have HB := Lib.hid hb
      have HS := Lib.hid hs
      clear hr hb hs
      go_wp2_with fail
      refine (ClampS_any _ _ _).mono ?_
      rintro e w1 ⟨rfl, hs⟩
      have hp := hs.blk (Blk.new wr 23 #[.int .i64 (pAt l k).1, .int .i64 (pAt l k).2])
      have HP1 := Lib.hid hp
      have HR1 := Lib.hid (hs.blk (HR.out.alloc (.cells #[.int .i64 (pAt l k).1, .int .i64 (pAt l k).2] 23)))
      have HB1 := Lib.hid (hs.blk (HB.out.alloc (.cells #[.int .i64 (pAt l k).1, .int .i64 (pAt l k).2] 23)))
      have HS1 := Lib.hid ((HS.out.alloc (.cells #[.int .i64 (pAt l k).1, .int .i64 (pAt l k).2] 23)).trans hs)
      have l1 := HR.out.lt
      have l2 := HB.out.lt
      have l3 : wr.heap.size < w1.heap.size := hp.lt
      have l4 : w.heap.size ≤ wr.heap.size := HS.out.size
      have p_0 := hp.cell 0
      have p_1 := hp.cell 1
      have p_f0 := hp.frozen 0
      have p_f1 := hp.frozen 1
      simp only [List.getElem?_toArray, List.getElem?_cons_zero, List.getElem?_cons_succ] at p_0 p_1
      clear hs hp HR HB HS e0 e1
      obtain ⟨bk, HBK⟩ : ∃ bk : BoxT, Hid (bk = if k = 0 then ((clampP (pAt l k)).1, (clampP (pAt l k)).2, (clampP (pAt l k)).1, (clampP (pAt l k)).2) else ofK l k) := ⟨_, rfl⟩
      have HK1 : Hid (ofK l (k + 1) = joinP bk (clampP (pAt l k))) := by
        show _ = _
        rw [HBK.out]
        split
        · next h => subst h; exact ofK_one hlt
        · exact ofK_succ hlt (by omega)
      go_upto_if 16 with fail
      go_cut [] from 9 to 25 (fun w' => Blk w' wr.heap.size 23 #[.int .i64 (clampP (pAt l k)).1, .int .i64 (clampP (pAt l k)).2] ∧ Blk w' w.heap.size 28 #[.int .i64 0, .int .i64 0, .int .i64 0, .int .i64 0] ∧
        Blk w' (w.heap.size + 1) 28 #[.int .i64 bk.1, .int .i64 bk.2.1, .int .i64 bk.2.2.1, .int .i64 bk.2.2.2] ∧ Since w w')
      case first =>
        rcases k with _ | k
        · have E : Hid (bk = ((clampP (pAt l 0)).1, (clampP (pAt l 0)).2, (clampP (pAt l 0)).1, (clampP (pAt l 0)).2)) := by show _ = _; rw [HBK.out, if_pos rfl]
          have c0 : w1.cell? ⟨w.heap.size + 1, 0, none⟩ = some (.int .i64 (ofK l 0).1) := HB1.out.cell 0
          have c1 : w1.cell? ⟨w.heap.size + 1, 1, none⟩ = some (.int .i64 (ofK l 0).2.1) := HB1.out.cell 1
          have c2 : w1.cell? ⟨w.heap.size + 1, 2, none⟩ = some (.int .i64 (ofK l 0).2.2.1) := HB1.out.cell 2
          have c3 : w1.cell? ⟨w.heap.size + 1, 3, none⟩ = some (.int .i64 (ofK l 0).2.2.2) := HB1.out.cell 3
          have f0 := HB1.out.frozen 0
          have f1 := HB1.out.frozen 1
          have f2 := HB1.out.frozen 2
          have f3 := HB1.out.frozen 3
          have n1 : ¬ wr.heap.size = w.heap.size + 1 := by omega
          have n2 : ¬ w.heap.size + 1 = wr.heap.size := by omega
          go_wp2_with fail
          go_meet
          rw [E.out]
          refine ⟨?_, ?_, ?_, ?_⟩
          · exact (((HP1.out.pair.far (by dsimp only; omega) _).far (by dsimp only; omega) _).far (by dsimp only; omega) _).far (by dsimp only; omega) _
          · exact (((((HR1.out.far (by dsimp only; omega) _).far (by dsimp only; omega) _).far (by dsimp only; omega) _).far (by dsimp only; omega) _).far (by dsimp only; omega) _).far (by dsimp only; omega) _
          · exact (((((HB1.out.far (by dsimp only; omega) _).far (by dsimp only; omega) _).set_ 0 _).set_ 1 _).set_ 2 _).set_ 3 _
          · exact (((((HS1.out.setCell (by dsimp only; omega) _).setCell (by dsimp only; omega) _).setCell (by dsimp only; omega) _).setCell (by dsimp only; omega) _).setCell (by dsimp only; omega) _).setCell (by dsimp only; omega) _
        · have E : Hid (bk = ofK l (k + 1)) := by show _ = _; rw [HBK.out, if_neg (by omega)]
          have hz : ((((k + 1 : Nat) : Int)) == 0) = false := by rw [beq_eq_false_iff_ne]; omega
          go_wp2_with fail
          go_meet
          rw [E.out]
          exact ⟨HP1.out.pair, (HR1.out.far (by dsimp only; omega) _).far (by dsimp only; omega) _, (HB1.out.far (by dsimp only; omega) _).far (by dsimp only; omega) _, (HS1.out.setCell (by dsimp only; omega) _).setCell (by dsimp only; omega) _⟩
      case rest =>
        obtain ⟨hp, hr, hb, hs⟩ := hcut
        obtain ⟨w2, rfl⟩ : ∃ w2, w2 = wc := ⟨_, rfl⟩
        clear p_0 p_1 p_f0 p_f1 HP1 HR1 HB1 HS1
        have HP2 := Lib.hid hp
        have HR2 := Lib.hid hr
        have HB2 := Lib.hid hb
        have HS2 := Lib.hid hs
        have l5 := hp.lt
        have c0 : w2.cell? ⟨w.heap.size + 1, 0, none⟩ = some (.int .i64 bk.1) := hb.cell 0
        have c1 : w2.cell? ⟨w.heap.size + 1, 1, none⟩ = some (.int .i64 bk.2.1) := hb.cell 1
        have c2 : w2.cell? ⟨w.heap.size + 1, 2, none⟩ = some (.int .i64 bk.2.2.1) := hb.cell 2
        have c3 : w2.cell? ⟨w.heap.size + 1, 3, none⟩ = some (.int .i64 bk.2.2.2) := hb.cell 3
        have p0 : w2.cell? ⟨wr.heap.size, 0, none⟩ = some (.int .i64 (clampP (pAt l k)).1) := hp.cell 0
        have p1 : w2.cell? ⟨wr.heap.size, 1, none⟩ = some (.int .i64 (clampP (pAt l k)).2) := hp.cell 1
        clear hp hr hb hs
        go_wp2_with fail
        refine (Join_any _ _ _ _ _ _ _ _ _).mono ?_
        rintro e w3 ⟨rfl, hs⟩
        have hb := hs.blk HB2.out
        have HR3 := Lib.hid (hs.blk HR2.out)
        have HB3 := Lib.hid hb
        have HS3 := Lib.hid (HS2.out.trans hs)
        have d0 : w3.cell? ⟨w.heap.size + 1, 0, none⟩ = some (.int .i64 bk.1) := hb.cell 0
        have d1 : w3.cell? ⟨w.heap.size + 1, 1, none⟩ = some (.int .i64 bk.2.1) := hb.cell 1
        have d2 : w3.cell? ⟨w.heap.size + 1, 2, none⟩ = some (.int .i64 bk.2.2.1) := hb.cell 2
        have d3 : w3.cell? ⟨w.heap.size + 1, 3, none⟩ = some (.int .i64 bk.2.2.2) := hb.cell 3
        have f0 := hb.frozen 0
        have f1 := hb.frozen 1
        have f2 := hb.frozen 2
        have f3 := hb.frozen 3
        clear hb hs c0 c1 c2 c3 p0 p1
        go_wp2_with fail
        go_roundw
        case rel =>
          refine ⟨k + 1, by omega, by go_num, ?_, ?_, ?_⟩
          · exact (((HR3.out.far (by dsimp only; omega) _).far (by dsimp only; omega) _).far (by dsimp only; omega) _).far (by dsimp only; omega) _
          · rw [HK1.out]; exact (((HB3.out.set_ 0 _).set_ 1 _).set_ 2 _).set_ 3 _
          · exact (((HS3.out.setCell (by dsimp only; omega) _).setCell (by dsimp only; omega) _).setCell (by dsimp only; omega) _).setCell (by dsimp only; omega) _
        case measure => simp [intOf]; omega
    · obtain rfl : k = l.length := by omega
      have hE : ofK l l.length = ofV l := by unfold ofK; rw [List.take_length]
      rw [hE] at hb
      have c0 : wr.cell? ⟨w.heap.size + 1, 0, none⟩ = some (.int .i64 (ofV l).1) := hb.cell 0
      have c1 : wr.cell? ⟨w.heap.size + 1, 1, none⟩ = some (.int .i64 (ofV l).2.1) := hb.cell 1
      have c2 : wr.cell? ⟨w.heap.size + 1, 2, none⟩ = some (.int .i64 (ofV l).2.2.1) := hb.cell 2
      have c3 : wr.cell? ⟨w.heap.size + 1, 3, none⟩ = some (.int .i64 (ofV l).2.2.2) := hb.cell 3
      have r0 := hr.cell 0
      have r1 := hr.cell 1
      have r2 := hr.cell 2
      have r3 := hr.cell 3
      have f0 := hr.frozen 0
      have f1 := hr.frozen 1
      have f2 := hr.frozen 2
      have f3 := hr.frozen 3
      simp only [List.getElem?_toArray, List.getElem?_cons_zero, List.getElem?_cons_succ] at r0 r1 r2 r3
      have HS := Lib.hid hs
      have l4 := hr.lt
      clear hr hb hs hE
      go_wp2
      refine bodyPost_ret (v := .agg #[.int .i64 (ofV l).1, .int .i64 (ofV l).2.1, .int .i64 (ofV l).2.2.1, .int .i64 (ofV l).2.2.2]) (by simp [results, Try.results25, go_sem, cSetS, cSetO, r0, r1, r2, r3]) rfl ⟨rfl, ?_⟩
      exact (((HS.out.setCell (by dsimp only; omega) _).setCell (by dsimp only; omega) _).setCell (by dsimp only; omega) _).setCell (by dsimp only; omega) _

theorem OkB_val {lx ly hx hy : Int} {b : Bool} (h : okB lx ly hx hy = b) (w : World) : Calls Try.prog 67 #[.agg #[.int .i64 lx, .int .i64 ly, .int .i64 hx, .int .i64 hy]] w fun e w' => e = .returned (.bool b) ∧ Since w w' := h ▸ OkB_any lx ly hx hy w
theorem clamp_id {x y : Int} (h : okP x y = true) : clampI x = x ∧ clampI y = y := by rw [okP_iff] at h; unfold clampI; omega
theorem Clamp_val {x y : Int} (h : okP x y = true) (w : World) : Calls Try.prog 55 #[.agg #[.int .i64 x, .int .i64 y]] w fun e w' => e = .returned (.agg #[.int .i64 x, .int .i64 y]) ∧ Since w w' := by
  have := ClampS_any x y w
  rwa [(clamp_id h).1, (clamp_id h).2] at this
theorem pts_two {w : World} {g : Nat} {ax ay cx cy : Int} (h : Blk w g 23 #[.int .i64 ax, .int .i64 ay, .int .i64 cx, .int .i64 cy]) : PtsS w (.slice (some ⟨g, 0, none⟩) 2 2) [(ax, ay), (cx, cy)] :=
  ⟨_, _, rfl, fun i hi => ⟨g, 0, rfl, by
    have : i = 0 ∨ i = 1 := by simp at hi; omega
    rcases this with rfl | rfl
    · exact ⟨h.cell 0, h.cell 1⟩
    · exact ⟨h.cell 2, h.cell 3⟩⟩⟩
def meetOf (lx ly hx hy ax ay cx cy : Int) : Bool := meetV lx ly hx hy (ofV [(ax, ay), (cx, cy)]).1 (ofV [(ax, ay), (cx, cy)]).2.1 (ofV [(ax, ay), (cx, cy)]).2.2.1 (ofV [(ax, ay), (cx, cy)]).2.2.2
theorem MeetOf_val {lx ly hx hy ax ay cx cy : Int} {b : Bool} (h : meetOf lx ly hx hy ax ay cx cy = b) (w : World) : Calls Try.prog 79 #[.agg #[.int .i64 lx, .int .i64 ly, .int .i64 hx, .int .i64 hy], .agg #[.int .i64 (ofV [(ax, ay), (cx, cy)]).1, .int .i64 (ofV [(ax, ay), (cx, cy)]).2.1, .int .i64 (ofV [(ax, ay), (cx, cy)]).2.2.1, .int .i64 (ofV [(ax, ay), (cx, cy)]).2.2.2]] w fun e w' =>
    e = .returned (.bool b) ∧ Since w w' := h ▸ Meet_any _ _ _ _ _ _ _ _ w
def cornersV (lx ly hx hy : Int) : List Pt2 := [(lx, ly), (hx, ly), (hx, hy), (lx, hy)]
def leftK (lx ly hx hy ax ay cx cy : Int) (k : Nat) : Bool := ((cornersV lx ly hx hy).take k).any fun p => decide (0 ≤ turnV ax ay cx cy p.1 p.2)
def rightK (lx ly hx hy ax ay cx cy : Int) (k : Nat) : Bool := ((cornersV lx ly hx hy).take k).any fun p => decide (turnV ax ay cx cy p.1 p.2 ≤ 0)
def hitV (lx ly hx hy ax ay cx cy : Int) : Bool := meetOf lx ly hx hy ax ay cx cy && (leftK lx ly hx hy ax ay cx cy 4 && rightK lx ly hx hy ax ay cx cy 4)

set_option maxRecDepth 100000 in
set_option maxHeartbeats 2000000 in
theorem Hit_any (lx ly hx hy ax ay cx cy : Int) (w : World) (hb : okB lx ly hx hy = true) (ha : okP ax ay = true) (hc : okP cx cy = true) :
    Calls Try.prog 30 #[.agg #[.int .i64 lx, .int .i64 ly, .int .i64 hx, .int .i64 hy], .agg #[.int .i64 ax, .int .i64 ay], .agg #[.int .i64 cx, .int .i64 cy]] w fun e w' => e = .returned (.bool (hitV lx ly hx hy ax ay cx cy)) ∧ Since w w' := by
  have HF : Hid (hitV lx ly hx hy ax ay cx cy = (meetOf lx ly hx hy ax ay cx cy && (leftK lx ly hx hy ax ay cx cy 4 && rightK lx ly hx hy ax ay cx cy 4))) := rfl
  have HO := Lib.hid (And.intro hb (And.intro ha hc))
  clear hb ha hc
  go_enter Try.func30, Try.ntmps30
  go_upto_region 1 with fail
  refine atW (fun w' => Blk w' w.heap.size 28 #[.int .i64 lx, .int .i64 ly, .int .i64 hx, .int .i64 hy] ∧ Blk w' (w.heap.size + 1) 23 #[.int .i64 ax, .int .i64 ay] ∧ Blk w' (w.heap.size + 1 + 1) 23 #[.int .i64 cx, .int .i64 cy] ∧ Since w w')
    ⟨((Blk.new w _ _).alloc _).alloc _, (Blk.new' (by simp)).alloc _, Blk.new' (by simp), (((Since.rfl_ w).alloc _).alloc _).alloc _⟩ ?_
  rintro w1 ⟨hb, ha, hc, hs⟩
  have b0 : w1.cell? ⟨w.heap.size, 0, none⟩ = some (.int .i64 lx) := hb.cell 0
  have b1 : w1.cell? ⟨w.heap.size, 1, none⟩ = some (.int .i64 ly) := hb.cell 1
  have b2 : w1.cell? ⟨w.heap.size, 2, none⟩ = some (.int .i64 hx) := hb.cell 2
  have b3 : w1.cell? ⟨w.heap.size, 3, none⟩ = some (.int .i64 hy) := hb.cell 3
  have a0 : w1.cell? ⟨w.heap.size + 1, 0, none⟩ = some (.int .i64 ax) := ha.cell 0
  have a1 : w1.cell? ⟨w.heap.size + 1, 1, none⟩ = some (.int .i64 ay) := ha.cell 1
  have c0 : w1.cell? ⟨w.heap.size + 1 + 1, 0, none⟩ = some (.int .i64 cx) := hc.cell 0
  have c1 : w1.cell? ⟨w.heap.size + 1 + 1, 1, none⟩ = some (.int .i64 cy) := hc.cell 1
  have HB := Lib.hid (And.intro hb (And.intro ha (And.intro hc hs)))
  clear hb ha hc hs
  obtain ⟨bm, HBM⟩ : ∃ bm : Bool, Hid (meetOf lx ly hx hy ax ay cx cy = bm) := ⟨_, rfl⟩
  go_cut [23] (fun v23 w' => v23 = .bool (!bm) ∧ Since w1 w')
  case first =>
    as_aux_lemma =>
    apply region_facts 12 (fun w' => w'.cell? ⟨w.heap.size, 0, none⟩ = some (.int .i64 lx) ∧ w'.cell? ⟨w.heap.size, 1, none⟩ = some (.int .i64 ly) ∧ w'.cell? ⟨w.heap.size, 2, none⟩ = some (.int .i64 hx) ∧ w'.cell? ⟨w.heap.size, 3, none⟩ = some (.int .i64 hy) ∧
          w'.cell? ⟨w.heap.size + 1, 0, none⟩ = some (.int .i64 ax) ∧ w'.cell? ⟨w.heap.size + 1, 1, none⟩ = some (.int .i64 ay) ∧ w'.cell? ⟨w.heap.size + 1 + 1, 0, none⟩ = some (.int .i64 cx) ∧ w'.cell? ⟨w.heap.size + 1 + 1, 1, none⟩ = some (.int .i64 cy) ∧ Since w1 w')
    case hm => kernel_rfl
    case hB => kernel_rfl
    case hS => exact ⟨b0, b1, b2, b3, a0, a1, c0, c1, (Since.rfl_ w1).drew⟩
    case h =>
    simp only [List.take_succ_cons, List.take_zero, List.drop_succ_cons, List.drop_zero]
    apply wpO_det
    case hw => rfl
    case h =>
      intro hFm wx hS_ hF_ K hK
      go_big_quiet_op
      first
        | exact hK _ rfl
        | (apply Exists.intro; refine ⟨fun _ => ?_, ?_⟩; (focus (first | (intro hC; have hC := hC.out; (try simp only [hC, Result.andThen]); first | exact ⟨True.intro, rfl⟩ | exact ⟨rfl, rfl⟩ | rfl))); exact hK _ rfl)
    case k =>
    simp only [Act.put, List.setIfInBounds_toArray, List.set_cons_succ, List.set_cons_zero, List.cons_append, List.nil_append]
    apply wpO_det
    case hw => rfl
    case h =>
      intro hFm wx hS_ hF_ K hK
      go_big_quiet_op
      first
        | exact hK _ rfl
        | (apply Exists.intro; refine ⟨fun _ => ?_, ?_⟩; (focus (first | (intro hC; go_at_call 67; refine (OkB_val HO.out.1 _).mono ?_; rintro e w' ⟨rfl, hb⟩; refine ⟨rfl, ?_⟩; exact cls_call hFm hC hb))); exact hK _ rfl)
    case k =>
    simp only [Act.put, List.setIfInBounds_toArray, List.set_cons_succ, List.set_cons_zero, List.cons_append, List.nil_append]
    apply wpO_det
    case hw => rfl
    case h =>
      intro hFm wx hS_ hF_ K hK
      go_big_quiet_op
      first
        | exact hK _ rfl
        | (apply Exists.intro; refine ⟨fun _ => ?_, ?_⟩; (focus (first | (intro hC; have hC := hC.out; (try simp only [hC, Result.andThen]); first | exact ⟨True.intro, rfl⟩ | exact ⟨rfl, rfl⟩ | rfl))); exact hK _ rfl)
    case k =>
    simp only [Act.put, List.setIfInBounds_toArray, List.set_cons_succ, List.set_cons_zero, List.cons_append, List.nil_append]
    apply wpO_det
    case hw => rfl
    case h =>
      intro hFm wx hS_ hF_ K hK
      go_big_quiet_op
      first
        | exact hK _ rfl
        | (apply Exists.intro; refine ⟨fun _ => ?_, ?_⟩; (focus (first | (intro hC; have hC := hC.out; (try simp only [hC, Result.andThen]); first | exact ⟨True.intro, rfl⟩ | exact ⟨rfl, rfl⟩ | rfl))); exact hK _ rfl)
    case k =>
    simp only [Act.put, List.setIfInBounds_toArray, List.set_cons_succ, List.set_cons_zero, List.cons_append, List.nil_append]
    apply wpO_det
    case hw => rfl
    case h =>
      intro hFm wx hS_ hF_ K hK
      go_big_quiet_op
      first
        | exact hK _ rfl
        | (apply Exists.intro; refine ⟨fun _ => ?_, ?_⟩; (focus (first | (intro hC; have hC := hC.out; (try simp only [hC, Result.andThen]); first | exact ⟨True.intro, rfl⟩ | exact ⟨rfl, rfl⟩ | rfl))); exact hK _ rfl)
    case k =>
    simp only [Act.put, List.setIfInBounds_toArray, List.set_cons_succ, List.set_cons_zero, List.cons_append, List.nil_append]
    apply wpO_det
    case hw => rfl
    case h =>
      intro hFm wx hS_ hF_ K hK
      go_big_quiet_op
      first
        | exact hK _ rfl
        | (apply Exists.intro; refine ⟨fun _ => ?_, ?_⟩; (focus (first | (intro hC; have hC := hC.out; (try simp only [hC, Result.andThen]); first | exact ⟨True.intro, rfl⟩ | exact ⟨rfl, rfl⟩ | rfl))); exact hK _ rfl)
    case k =>
    simp only [Act.put, List.setIfInBounds_toArray, List.set_cons_succ, List.set_cons_zero, List.cons_append, List.nil_append]
    apply wpO_det
    case hw => rfl
    case h =>
      intro hFm wx hS_ hF_ K hK
      go_big_quiet_op
      first
        | exact hK _ rfl
        | (apply Exists.intro; refine ⟨fun _ => ?_, ?_⟩; (focus (first | (intro hC; have hC := hC.out; (try simp only [hC, Result.andThen]); first | exact ⟨True.intro, rfl⟩ | exact ⟨rfl, rfl⟩ | rfl))); exact hK _ rfl)
    case k =>
    simp only [Act.put, List.setIfInBounds_toArray, List.set_cons_succ, List.set_cons_zero, List.cons_append, List.nil_append]
    apply wpO_mk (f := fun g => .slice (some ⟨g, 0, none⟩) 2 2) (t := 23) (cs := #[.int .i64 ax, .int .i64 ay, .int .i64 cx, .int .i64 cy])
    case hi => (intro g g' h; simpa using h)
    case hw => rfl
    case h => (intro w; simp [go_sem])
    case k =>
    intro g1
    simp only [Act.put, List.setIfInBounds_toArray, List.set_cons_succ, List.set_cons_zero, List.cons_append, List.nil_append]
    apply wpO_det
    case hw => rfl
    case h =>
      intro hFm wx hS_ hF_ K hK
      go_big_quiet_op
      first
        | exact hK _ rfl
        | (apply Exists.intro; refine ⟨fun _ => ?_, ?_⟩; (focus (first | (intro hC; obtain ⟨⟨hb', hle⟩, -⟩ := hC.out.2.1; go_at_call 25; refine (Of_any _ [(ax, ay), (cx, cy)] _ (show 2 ≤ 1000000000000000 by decide) (pts_two hb')).mono ?_; rintro e w' ⟨rfl, hb⟩; refine ⟨rfl, ?_⟩; exact cls_call hFm hC hb))); exact hK _ rfl)
    case k =>
    simp only [Act.put, List.setIfInBounds_toArray, List.set_cons_succ, List.set_cons_zero, List.cons_append, List.nil_append]
    apply wpO_det
    case hw => rfl
    case h =>
      intro hFm wx hS_ hF_ K hK
      go_big_quiet_op
      first
        | exact hK _ rfl
        | (apply Exists.intro; refine ⟨fun _ => ?_, ?_⟩; (focus (first | (intro hC; go_at_call 79; refine (MeetOf_val HBM.out _).mono ?_; rintro e w' ⟨rfl, hb⟩; refine ⟨rfl, ?_⟩; exact cls_call hFm hC hb))); exact hK _ rfl)
    case k =>
    simp only [Act.put, List.setIfInBounds_toArray, List.set_cons_succ, List.set_cons_zero, List.cons_append, List.nil_append]
    apply wpO_det
    case hw => rfl
    case h =>
      intro hFm wx hS_ hF_ K hK
      go_big_quiet_op
      first
        | exact hK _ rfl
        | (apply Exists.intro; refine ⟨fun _ => ?_, ?_⟩; (focus (first | (intro hC; have hC := hC.out; (try simp only [hC, Result.andThen]); first | exact ⟨True.intro, rfl⟩ | exact ⟨rfl, rfl⟩ | rfl))); exact hK _ rfl)
    case k =>
    simp only [Act.put, List.setIfInBounds_toArray, List.set_cons_succ, List.set_cons_zero, List.cons_append, List.nil_append]
    apply wpO_det
    case hw => rfl
    case h =>
      intro hFm wx hS_ hF_ K hK
      go_big_quiet_op
      first
        | exact hK _ rfl
        | (apply Exists.intro; refine ⟨fun _ => ?_, ?_⟩; (focus (first | (intro hC; have hC := hC.out; (try simp only [hC, Result.andThen]); first | exact ⟨True.intro, rfl⟩ | exact ⟨rfl, rfl⟩ | rfl))); exact hK _ rfl)
    case k =>
    simp only [Act.put, List.setIfInBounds_toArray, List.set_cons_succ, List.set_cons_zero, List.cons_append, List.nil_append]
    refine wpO_nil ?_
    intro w2 hS hF hB
    (try simp [allF] at hF)
    (try simp [List.pairwise_cons] at hB)
    have HS := Lib.hid hS.2.2.2.2.2.2.2.2
    clear hS
    go_wp2_with fail
    go_meet
    exact ⟨rfl, HS.out⟩
  case rest =>
    obtain ⟨rfl, hs⟩ := hcut
    obtain ⟨w2, rfl⟩ : ∃ w2, w2 = wc := ⟨_, rfl⟩
    have HS2 := Lib.hid hs
    have hb := hs.blk HB.out.1
    have ha := hs.blk HB.out.2.1
    have hc := hs.blk HB.out.2.2.1
    have HB2 := Lib.hid (And.intro hb (And.intro ha (And.intro hc (HB.out.2.2.2.trans hs))))
    have a0' : w2.cell? ⟨w.heap.size + 1, 0, none⟩ = some (.int .i64 ax) := ha.cell 0
    have a1' : w2.cell? ⟨w.heap.size + 1, 1, none⟩ = some (.int .i64 ay) := ha.cell 1
    have c0' : w2.cell? ⟨w.heap.size + 1 + 1, 0, none⟩ = some (.int .i64 cx) := hc.cell 0
    have c1' : w2.cell? ⟨w.heap.size + 1 + 1, 1, none⟩ = some (.int .i64 cy) := hc.cell 1
    clear hs hb ha hc HB b0 b1 b2 b3 a0 a1 c0 c1 HS2
    cases bm
    · go_wp2
      go_ret
      exact ⟨ret_bool (by rw [HF.out, HBM.out]; rfl), HB2.out.2.2.2⟩
    · go_upto_region 3 with fail
      go_cut [] (fun w' => Blk w' w.heap.size 28 #[.int .i64 lx, .int .i64 ly, .int .i64 hx, .int .i64 hy] ∧ Blk w' (w.heap.size + 1) 23 #[.int .i64 ax, .int .i64 ay] ∧ Blk w' (w.heap.size + 1 + 1) 23 #[.int .i64 cx, .int .i64 cy] ∧ Since w w')
      case first =>
        as_aux_lemma =>
        apply region_facts 4 (fun w' => w'.cell? ⟨w.heap.size + 1, 0, none⟩ = some (.int .i64 ax) ∧ w'.cell? ⟨w.heap.size + 1, 1, none⟩ = some (.int .i64 ay) ∧ w'.cell? ⟨w.heap.size + 1 + 1, 0, none⟩ = some (.int .i64 cx) ∧ w'.cell? ⟨w.heap.size + 1 + 1, 1, none⟩ = some (.int .i64 cy) ∧ Since w2 w')
        case hm => kernel_rfl
        case hB => kernel_rfl
        case hS => exact ⟨a0', a1', c0', c1', (Since.rfl_ w2).drew⟩
        case h =>
        simp only [List.take_succ_cons, List.take_zero, List.drop_succ_cons, List.drop_zero]
        apply wpO_det
        case hw => rfl
        case h =>
          intro hFm wx hS_ hF_ K hK
          go_big_quiet_op
          first
            | exact hK _ rfl
            | (apply Exists.intro; refine ⟨fun _ => ?_, ?_⟩; (focus (first | (intro hC; have hC := hC.out; (try simp only [hC, Result.andThen]); first | exact ⟨True.intro, rfl⟩ | exact ⟨rfl, rfl⟩ | rfl))); exact hK _ rfl)
        case k =>
        simp only [Act.put, List.setIfInBounds_toArray, List.set_cons_succ, List.set_cons_zero, List.cons_append, List.nil_append]
        apply wpO_det
        case hw => rfl
        case h =>
          intro hFm wx hS_ hF_ K hK
          go_big_quiet_op
          first
            | exact hK _ rfl
            | (apply Exists.intro; refine ⟨fun _ => ?_, ?_⟩; (focus (first | (intro hC; go_at_call 55; refine (Clamp_val HO.out.2.1 _).mono ?_; rintro e w' ⟨rfl, hb⟩; refine ⟨rfl, ?_⟩; exact cls_call hFm hC hb))); exact hK _ rfl)
        case k =>
        simp only [Act.put, List.setIfInBounds_toArray, List.set_cons_succ, List.set_cons_zero, List.cons_append, List.nil_append]
        apply wpO_det
        case hw => rfl
        case h =>
          intro hFm wx hS_ hF_ K hK
          go_big_quiet_op
          first
            | exact hK _ rfl
            | (apply Exists.intro; refine ⟨fun _ => ?_, ?_⟩; (focus (first | (intro hC; have hC := hC.out; (try simp only [hC, Result.andThen]); first | exact ⟨True.intro, rfl⟩ | exact ⟨rfl, rfl⟩ | rfl))); exact hK _ rfl)
        case k =>
        simp only [Act.put, List.setIfInBounds_toArray, List.set_cons_succ, List.set_cons_zero, List.cons_append, List.nil_append]
        apply wpO_det
        case hw => rfl
        case h =>
          intro hFm wx hS_ hF_ K hK
          go_big_quiet_op
          first
            | exact hK _ rfl
            | (apply Exists.intro; refine ⟨fun _ => ?_, ?_⟩; (focus (first | (intro hC; go_at_call 55; refine (Clamp_val HO.out.2.2 _).mono ?_; rintro e w' ⟨rfl, hb⟩; refine ⟨rfl, ?_⟩; exact cls_call hFm hC hb))); exact hK _ rfl)
        case k =>
        simp only [Act.put, List.setIfInBounds_toArray, List.set_cons_succ, List.set_cons_zero, List.cons_append, List.nil_append]
        refine wpO_nil ?_
        intro w3 hS hF hB
        (try simp [allF] at hF)
        (try simp [List.pairwise_cons] at hB)
        have hs := hS.2.2.2.2
        have hb := hs.blk HB2.out.1
        have ha := hs.blk HB2.out.2.1
        have hc := hs.blk HB2.out.2.2.1
        have HB3 := Lib.hid (And.intro hb (And.intro ha (And.intro hc (HB2.out.2.2.2.trans hs))))
        have a_0 := ha.cell 0
        have a_1 := ha.cell 1
        have a_f0 := ha.frozen 0
        have a_f1 := ha.frozen 1
        simp only [List.getElem?_toArray, List.getElem?_cons_zero, List.getElem?_cons_succ] at a_0 a_1
        have c_0 := hc.cell 0
        have c_1 := hc.cell 1
        have c_f0 := hc.frozen 0
        have c_f1 := hc.frozen 1
        simp only [List.getElem?_toArray, List.getElem?_cons_zero, List.getElem?_cons_succ] at c_0 c_1
        clear hS hs hb ha hc a0' a1' c0' c1'
        go_wp2_with fail
        go_meet
        refine ⟨(((HB3.out.1.far (by dsimp only; omega) _).far (by dsimp only; omega) _).far (by dsimp only; omega) _).far (by dsimp only; omega) _, ?_, ?_, ?_⟩
        · exact ((((HB3.out.2.1.set_ 0 _).set_ 1 _).far (by dsimp only; omega) _).far (by dsimp only; omega) _)
        · exact ((((HB3.out.2.2.1.far (by dsimp only; omega) _).far (by dsimp only; omega) _).set_ 0 _).set_ 1 _)
        · exact (((HB3.out.2.2.2.setCell (by dsimp only; omega) _).setCell (by dsimp only; omega) _).setCell (by dsimp only; omega) _).setCell (by dsimp only; omega) _
      case rest =>
        obtain ⟨hb, ha, hc, hs⟩ := hcut
        obtain ⟨w3, rfl⟩ : ∃ w3, w3 = wc := ⟨_, rfl⟩
        clear HB2 a0' a1' c0' c1'
        have b0 : w3.cell? ⟨w.heap.size, 0, none⟩ = some (.int .i64 lx) := hb.cell 0
        have b1 : w3.cell? ⟨w.heap.size, 1, none⟩ = some (.int .i64 ly) := hb.cell 1
        have b2 : w3.cell? ⟨w.heap.size, 2, none⟩ = some (.int .i64 hx) := hb.cell 2
        have b3 : w3.cell? ⟨w.heap.size, 3, none⟩ = some (.int .i64 hy) := hb.cell 3
        have HA := Lib.hid ha
        have HC := Lib.hid hc
        have HS := Lib.hid hs
        have lc := hc.lt
        clear hb ha hc hs
        go_wp2_with fail
        go_loopw [7, 8, 48] (fun v7 v8 v48 wr => ∃ k : Nat, k ≤ 4 ∧ v48 = .int .i64 k ∧ v7 = .bool (leftK lx ly hx hy ax ay cx cy k) ∧ v8 = .bool (rightK lx ly hx hy ax ay cx cy k) ∧ Blk wr (w.heap.size + 1) 23 #[.int .i64 ax, .int .i64 ay] ∧ Blk wr (w.heap.size + 1 + 1) 23 #[.int .i64 cx, .int .i64 cy] ∧
          Blk wr w3.heap.size 23 #[.int .i64 lx, .int .i64 ly, .int .i64 hx, .int .i64 ly, .int .i64 hx, .int .i64 hy, .int .i64 lx, .int .i64 hy] ∧ Since w wr) (fun _ _ v _ => 4 - (intOf v).toNat)
        case atStart => exact ⟨0, by omega, rfl, rfl, rfl, HA.out.alloc _, HC.out.alloc _, Blk.new _ _ _, HS.out.alloc _⟩
        case round =>
          obtain ⟨k, hk, rfl, rfl, rfl, ha, hc, hb, hs⟩ := hrel
          rcases Nat.lt_or_ge k 4 with hlt | hge
          · have hkc : k < (cornersV lx ly hx hy).length := hlt
            obtain ⟨px, HPX⟩ : ∃ px : Int, Hid (px = (pAt (cornersV lx ly hx hy) k).1) := ⟨_, rfl⟩
            obtain ⟨py, HPY⟩ : ∃ py : Int, Hid (py = (pAt (cornersV lx ly hx hy) k).2) := ⟨_, rfl⟩
            have ec : (cornersV lx ly hx hy)[k] = (px, py) := by
              rw [HPX.out, HPY.out]; unfold pAt
              simp [List.getD, hkc]
            have e0 : wr.cell? ⟨w3.heap.size, k * 2, none⟩ = some (.int .i64 px) := by
              rw [HPX.out, hb.cell]
              have : k = 0 ∨ k = 1 ∨ k = 2 ∨ k = 3 := by omega
              rcases this with rfl | rfl | rfl | rfl <;> rfl
            have e1 : wr.cell? ⟨w3.heap.size, k * 2 + 1, none⟩ = some (.int .i64 py) := by
              rw [HPY.out, hb.cell]
              have : k = 0 ∨ k = 1 ∨ k = 2 ∨ k = 3 := by omega
              rcases this with rfl | rfl | rfl | rfl <;> rfl
            have HL1 : Hid (leftK lx ly hx hy ax ay cx cy (k + 1) = (leftK lx ly hx hy ax ay cx cy k || decide (0 ≤ turnV ax ay cx cy px py))) := by
              show _ = _
              unfold leftK; rw [List.take_succ_eq_append_getElem hkc, List.any_append, ec]; simp
            have HR1 : Hid (rightK lx ly hx hy ax ay cx cy (k + 1) = (rightK lx ly hx hy ax ay cx cy k || decide (turnV ax ay cx cy px py ≤ 0))) := by
              show _ = _
              unfold rightK; rw [List.take_succ_eq_append_getElem hkc, List.any_append, ec]; simp
            have a0 : wr.cell? ⟨w.heap.size + 1, 0, none⟩ = some (.int .i64 ax) := ha.cell 0
            have a1 : wr.cell? ⟨w.heap.size + 1, 1, none⟩ = some (.int .i64 ay) := ha.cell 1
            have c0 : wr.cell? ⟨w.heap.size + 1 + 1, 0, none⟩ = some (.int .i64 cx) := hc.cell 0
            have c1 : wr.cell? ⟨w.heap.size + 1 + 1, 1, none⟩ = some (.int .i64 cy) := hc.cell 1
            have lb := hb.lt
            have la := ha.lt
            have lc2 := hc.lt
            have HA2 := Lib.hid (ha.alloc (.cells #[.int .i64 px, .int .i64 py] 23))
            have HC2 := Lib.hid (hc.alloc (.cells #[.int .i64 px, .int .i64 py] 23))
            have HB2 := Lib.hid (hb.alloc (.cells #[.int .i64 px, .int .i64 py] 23))
            have HS2 := Lib.hid (hs.alloc (.cells #[.int .i64 px, .int .i64 py] 23))
            obtain ⟨bl, HBL⟩ : ∃ bl : Bool, Hid (leftK lx ly hx hy ax ay cx cy k = bl) := ⟨_, rfl⟩
            obtain ⟨br, HBR⟩ : ∃ br : Bool, Hid (rightK lx ly hx hy ax ay cx cy k = br) := ⟨_, rfl⟩
            rw [HBL.out] at HL1
            rw [HBR.out] at HR1
            rw [HBL.out, HBR.out]
            clear ha hc hb hs HA HC HS b0 b1 b2 b3 ec
            go_wp2_with fail
            refine (Turn_any _ _ _ _ _ _ _).mono ?_
            rintro e w4 ⟨rfl, hs⟩
            have HA3 := Lib.hid (hs.blk HA2.out)
            have HC3 := Lib.hid (hs.blk HC2.out)
            have HB3 := Lib.hid (hs.blk HB2.out)
            have HS3 := Lib.hid (HS2.out.trans hs)
            clear hs a0 a1 c0 c1 e0 e1 HA2 HC2 HB2 HS2
            obtain ⟨n, HN⟩ : ∃ n : Int, Hid (turnV ax ay cx cy px py = n) := ⟨_, rfl⟩
            rw [HN.out] at HL1 HR1 ⊢
            cases bl <;> cases br
            all_goals
              go_wp2_with fail
              go_roundw
              case rel => exact ⟨k + 1, by omega, by go_num, by rw [HL1.out]; simp, by rw [HR1.out]; simp, HA3.out, HC3.out, HB3.out, HS3.out⟩
              case measure => simp [intOf]; omega
          · obtain rfl : k = 4 := by omega
            have HS4 := Lib.hid hs
            clear ha hc hb hs
            obtain ⟨bl, HBL⟩ : ∃ bl : Bool, Hid (leftK lx ly hx hy ax ay cx cy 4 = bl) := ⟨_, rfl⟩
            obtain ⟨br, HBR⟩ : ∃ br : Bool, Hid (rightK lx ly hx hy ax ay cx cy 4 = br) := ⟨_, rfl⟩
            rw [HBL.out, HBR.out]
            cases bl
            all_goals
              go_wp2
              go_ret
              exact ⟨ret_bool (by rw [HF.out, HBM.out, HBL.out, HBR.out]; simp), HS4.out⟩
end Go.Proofs.Ytcckekdfeeghaaa
