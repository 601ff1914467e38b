/-
  The walk of terrref3.Wrapped. Conditions: the points have a hull with three corners.
-/
import Derived.Test.YtcckekdfeeghaaaBufN
namespace Go.Proofs.Ytcckekdfeeghaaa
set_option linter.unusedSimpArgs false
set_option linter.unusedVariables false
open Go.RowKit Go.BigFrame
attribute [local go_sem ↓] eqPt neqPt

/-- What is known while the reference goes round. -/
structure WrW (w W : World) (gf g5 g6 B : Nat) (f p nx : Pt2) (vo : Value) (out : List Pt2) : Prop where
  s : Since w W
  bf : Blk W gf 23 #[.int .i64 f.1, .int .i64 f.2]
  b5 : Blk W g5 23 #[.int .i64 p.1, .int .i64 p.2]
  b6 : Blk W g6 23 #[.int .i64 nx.1, .int .i64 nx.2]
  row : W.ownsRow B 23 2 vo out.length (out.flatMap ptV)
theorem WrW.since {w W W' : World} {gf g5 g6 B : Nat} {f p nx : Pt2} {vo : Value} {out : List Pt2} (h : WrW w W gf g5 g6 B f p nx vo out) (k : Since W W') : WrW w W' gf g5 g6 B f p nx vo out :=
  ⟨h.s.trans k, k.blk h.bf, k.blk h.b5, k.blk h.b6, own_since k h.row⟩
theorem WrW.set {w W : World} {gf g5 g6 B : Nat} {f p nx q : Pt2} {vo : Value} {out : List Pt2} (h : WrW w W gf g5 g6 B f p nx vo out) (h1 : gf ≠ g6) (h2 : g5 ≠ g6) (h3 : some g6 ≠ vo.ownBlock) (h4 : w.heap.size ≤ g6) :
    WrW w ((W.setCell ⟨g6, 0, none⟩ (.int .i64 q.1)).setCell ⟨g6, 1, none⟩ (.int .i64 q.2)) gf g5 g6 B f p q vo out :=
  ⟨(h.s.setCell h4 _).setCell h4 _, (h.bf.far h1 _).far h1 _, (h.b5.far h2 _).far h2 _, Blk.mine h.b6, own_far (own_far h.row h3 _) h3 _⟩
def wrapB (p nx q : Pt2) : Bool := ((nx.1 == p.1) && (nx.2 == p.2)) || decide (crs p nx q < 0) || ((crs p nx q == 0) && onR p q nx)
theorem wrapStep_self (p nx : Pt2) : wrapStep p nx p = nx := by unfold wrapStep; rw [if_pos rfl]
theorem wrapStep_b {p nx q : Pt2} (h : q ≠ p) : wrapStep p nx q = if wrapB p nx q = true then q else nx := by
  unfold wrapStep
  rw [if_neg h]
  have e : wrapB p nx q = true ↔ (nx = p ∨ crs p nx q < 0 ∨ (crs p nx q = 0 ∧ onR p q nx = true)) := by
    unfold wrapB
    simp only [Bool.or_eq_true, Bool.and_eq_true, beq_iff_eq, decide_eq_true_eq, or_assoc, Prod.ext_iff]
  by_cases h : wrapB p nx q = true
  · rw [if_pos h, if_pos (e.1 h)]
  · rw [if_neg h, if_neg (fun k => h (e.2 k))]
theorem OnR_val {a b x : Pt2} {c : Bool} (ha : okP a.1 a.2 = true) (hb : okP b.1 b.2 = true) (hx : okP x.1 x.2 = true) (h : onR a b x = c) (w : World) :
    Calls Try.prog 91 #[.agg #[.int .i64 a.1, .int .i64 a.2], .agg #[.int .i64 b.1, .int .i64 b.2], .agg #[.int .i64 x.1, .int .i64 x.2]] w fun e w' => e = .returned (.bool c) ∧ Since w w' := h ▸ OnR_any ha hb hx w

set_option maxRecDepth 100000 in
set_option maxHeartbeats 4000000 in
theorem Wrapped_any (v : Value) (l H : List Pt2) (w : World) (hv : PtsS w v l) (hlen : l.length ≤ 1000000) (hok : ∀ q ∈ l, okP q.1 q.2 = true) (hR : Ring3 l H) (hHl : H.length ≤ 1000000) :
    Calls Try.prog 46 #[v] w fun e w' => ∃ v', e = .returned v' ∧ w'.ownsRow w.heap.size 23 2 v' H.length (H.flatMap ptV) ∧ Since w w' := by
  have HV := Lib.hid hv
  obtain ⟨a, c, rfl, -⟩ := hv
  have n3 := hR.n3
  have hl0 : 0 < l.length := by
    have := hR.mem 0 (by omega)
    cases l with
    | nil => cases this
    | cons x r => simp
  have HRR := Lib.hid hR
  have HOK := Lib.hid hok
  clear hR hok
  obtain ⟨f, HF⟩ : ∃ f, Hid (f = pAt H 0) := ⟨_, rfl⟩
  go_enter Try.func46, Try.ntmps46
  go_wp2_with fail
  refine (Min_any _ l _ HV.out hl0 (by omega)).mono ?_
  rintro e w1 ⟨m, rfl, hm, hs⟩
  have hmf : m = f := by rw [HF.out]; exact HRR.out.least hm.1 hm.2
  subst hmf
  have HS1 := Lib.hid hs
  have hw1 := hs.size
  clear hs hm
  obtain ⟨gf, HGF⟩ : ∃ gf, gf = w1.heap.size := ⟨_, rfl⟩
  go_wp2_with fail
  rw [← HGF]
  refine atW (fun w' => Since w w' ∧ Blk w' gf 23 #[.int .i64 m.1, .int .i64 m.2] ∧ w'.ownsRow (gf + 1) 23 2 (.slice (some ⟨gf + 1, 0, none⟩) 1 1) 1 ([m].flatMap ptV)) ⟨(HS1.out.alloc _).alloc _, (Blk.new' HGF).alloc _, ?_⟩ ?_
  · exact (Blk.new' (by simp [HGF])).row (size := 2) (n := 1) (cap := 1) (Nat.le_refl _) (Nat.le_refl _) (by unfold maxLen; omega) rfl rfl
  rintro w2 ⟨hs, hb, ho⟩
  have HO2 := Lib.hid ho
  have HW2 := Lib.hid (And.intro hs hb)
  have hgf : w.heap.size ≤ gf := by omega
  clear hs hb ho HS1 HGF
  go_loopw [4] (fun v4 wr => ∃ i : Nat, i + 1 ≤ H.length ∧ Hid (wr.ownsRow (gf + 1) 23 2 v4 (i + 1) ((H.take (i + 1)).flatMap ptV)) ∧ Hid (Since w wr ∧ Blk wr gf 23 #[.int .i64 m.1, .int .i64 m.2])) (fun v _ => H.length - lenV v)
  case atStart =>
    refine ⟨0, by omega, ?_, HW2⟩
    have : H.take 1 = [m] := by
      rw [HF.out]
      cases H with
      | nil => simp at n3
      | cons x r => rfl
    show World.ownsRow _ _ _ _ _ _ _
    rw [this]; exact HO2.out
  case round =>
    clear HO2 HW2
    obtain ⟨i, hi, HO, HW⟩ := hrel
    obtain ⟨n, hn⟩ : ∃ n, n = i + 1 := ⟨_, rfl⟩
    have HN := Lib.hid hn
    rw [← hn] at HO hi
    have hni : i < n := by omega
    clear hn
    obtain ⟨go, co, rfl⟩ := own_some HO.out (by omega)
    obtain ⟨p, HP⟩ : ∃ p : Pt2, Hid (p = pAt H i) := ⟨_, rfl⟩
    have hlt4 := HO.out.lt go rfl
    have htk : (H.take n).length = n := by rw [List.length_take]; omega
    have hq := (own_ptsB HO.out htk.symm hlt4.2).pts
    obtain ⟨a', c', hv, hpts⟩ := hq
    injection hv with hv1 hv2 hv3
    subst hv1 hv3
    obtain ⟨g', o', ha, p0, p1⟩ := hpts i (by omega)
    injection ha with ha
    injection ha with ha1 ha2
    subst ha1 ha2
    rw [pAt_take (by omega), ← HP.out, Nat.zero_add] at p0 p1
    have f0 : wr.cell? ⟨gf, 0, none⟩ = some (.int .i64 m.1) := HW.out.2.cell 0
    have f1 : wr.cell? ⟨gf, 1, none⟩ = some (.int .i64 m.2) := HW.out.2.cell 1
    have hgl := HW.out.2.lt
    have iw : IntKind.i64.wrap ((n : Int) - 1) = (i : Int) := by
      have := HN.out
      rw [i64w, show (n : Int) - 1 = i by omega]; exact wrap_id (by omega)
    have j0 : (0 : Int) ≤ (i : Int) := by omega
    have j1 : (i : Int) < (n : Int) := by omega
    have hne1 : ¬ wr.heap.size = go := by omega
    have hne2 : ¬ wr.heap.size + 1 = go := by omega
    have hne3 : ¬ wr.heap.size = gf := by omega
    have hne4 : ¬ wr.heap.size + 1 = gf := by omega
    clear hpts hv2 htk
    go_upto_region 3 with fail
    go_cut [5, 6] from 14 to 60 (fun v5 v6 w' => ∃ g5 g6 : Nat, v5 = .pointer (some ⟨g5, 0, none⟩) ∧ v6 = .pointer (some ⟨g6, 0, none⟩) ∧ Blk w' g5 23 #[.int .i64 p.1, .int .i64 p.2] ∧ Blk w' g6 23 #[.int .i64 m.1, .int .i64 m.2] ∧ g5 ≠ g6 ∧ wr.heap.size ≤ g5 ∧ wr.heap.size ≤ g6 ∧ Since wr w')
    case first =>
      go_region_held3 (fun w' => w'.cell? ⟨go, i * 2, none⟩ = some (.int .i64 p.1) ∧ w'.cell? ⟨go, i * 2 + 1, none⟩ = some (.int .i64 p.2) ∧ w'.cell? ⟨gf, 0, none⟩ = some (.int .i64 m.1) ∧ w'.cell? ⟨gf, 1, none⟩ = some (.int .i64 m.2)) ((simp (maxDischargeDepth := 9) [*, World.cell?_alloc_some, cSetO, cellDrew])) (fail)
      all_goals
        go_wp2_with fail
        go_meet
        refine ⟨_, _, rfl, rfl, ?_, ?_, ?_, ?_, ?_, ?_⟩
      all_goals
        first
          | omega
          | with_reducible exact ((Blk.new _ _ _).alloc _).drew
          | ((with_reducible refine Blk.drew (Blk.new' ?_)); simp; done)
          | with_reducible exact (((Since.rfl_ _).alloc _).alloc _).drew
    case rest =>
      obtain ⟨g5, g6, rfl, rfl, h5, h6, hne, l5, l6, hs⟩ := hcut
      obtain ⟨w3, rfl⟩ : ∃ w3, w3 = wc := ⟨_, rfl⟩
      have htk : (H.take n).length = n := by rw [List.length_take]; omega
      have HQ3 : Hid (WrW w w3 gf g5 g6 (gf + 1) m p m (.slice (some ⟨go, 0, none⟩) n co) (H.take n)) := ⟨HW.out.1.trans hs, hs.blk HW.out.2, h5, h6, by rw [htk]; exact own_since hs HO.out⟩
      have hk1 : gf ≠ g6 := by omega
      have hk3 : some g6 ≠ (Value.slice (some ⟨go, 0, none⟩) n co).ownBlock := by intro h; simp [Value.ownBlock] at h; omega
      have hk4 : w.heap.size ≤ g6 := by omega
      have okp : okP p.1 p.2 = true := by rw [HP.out]; exact HOK.out _ (HRR.out.mem i (by omega))
      have okm : okP m.1 m.2 = true := by rw [HF.out]; exact HOK.out _ (HRR.out.mem 0 (by omega))
      have HE : Hid (l.foldl (wrapStep p) m = pAt H ((i + 1) % H.length)) := by
        show _ = _
        rw [HP.out, HF.out]; exact HRR.out.scan (by omega)
      have hmm : Hid (m ∈ l) := by show m ∈ l; rw [HF.out]; exact HRR.out.mem 0 (by omega)
      clear h5 h6 l5 l6 hs HW HO p0 p1 f0 f1 iw hne1 hne2 hne3 hne4 htk hlt4
      go_wp2_with fail
      go_loopw [23] (fun v wr => ∃ (k : Nat) (nx : Pt2), k ≤ l.length ∧ v = .int .i64 k ∧ Hid (nx = (l.take k).foldl (wrapStep p) m) ∧ Hid (nx ∈ l) ∧ Hid (WrW w wr gf g5 g6 (gf + 1) m p nx (.slice (some ⟨go, 0, none⟩) n co) (H.take n))) (fun v _ => l.length - (intOf v).toNat)
      case atStart => exact ⟨0, m, by omega, rfl, rfl, hmm, HQ3⟩
      case round =>
        clear HQ3 hmm
        obtain ⟨k, nx, hk, rfl, HX, HM, HQ⟩ := hrel
        rcases Nat.lt_or_ge k l.length with hlt | hge
        · have hz : decide ((k : Int) < (l.length : Int)) = true := by rw [decide_eq_true_eq]; omega
          obtain ⟨q, HQQ⟩ : ∃ q : Pt2, Hid (q = pAt l k) := ⟨_, rfl⟩
          have hqm : Hid (q ∈ l) := by show q ∈ l; rw [HQQ.out]; exact pAt_mem hlt
          have okq : okP q.1 q.2 = true := HOK.out _ hqm.out
          have okn : okP nx.1 nx.2 = true := HOK.out _ HM.out
          have HX2 : Hid (wrapStep p nx q = (l.take (k + 1)).foldl (wrapStep p) m) := by
            show _ = _
            rw [List.take_succ_eq_append_getElem hlt, List.foldl_append, ← HX.out, HQQ.out]
            simp [pAt, List.getD, hlt]
          have hpts := (HV.out.since HQ.out.s)
          obtain ⟨a', c', hv, hpts⟩ := hpts
          injection hv with hv1 hv2 hv3
          subst hv1 hv3
          obtain ⟨g, o, ha, q0, q1⟩ := hpts k hlt
          subst ha
          rw [← HQQ.out] at q0 q1
          clear hpts hv2
          have p0 : wr.cell? ⟨g5, 0, none⟩ = some (.int .i64 p.1) := HQ.out.b5.cell 0
          have p1 : wr.cell? ⟨g5, 1, none⟩ = some (.int .i64 p.2) := HQ.out.b5.cell 1
          have hl5 := HQ.out.b5.lt
          have hl6 := HQ.out.b6.lt
          have hn5 : ¬ wr.heap.size = g5 := by omega
          by_cases hqp : q = p
          · have hx : (q.1 == p.1) = true := by rw [hqp]; simp
            have hy : (q.2 == p.2) = true := by rw [hqp]; simp
            have HX3 : Hid (nx = (l.take (k + 1)).foldl (wrapStep p) m) := by show _ = _; rw [← HX2.out, hqp, wrapStep_self]
            have HQ2 := Lib.hid (HQ.out.since ((Since.rfl_ wr).alloc (.cells #[.int .i64 q.1, .int .i64 q.2] 23)))
            clear hqp HX HX2 HQ
            go_wp2_with fail
            go_roundw
            case rel => exact ⟨k + 1, nx, by omega, by go_num, HX3, HM, HQ2⟩
            case measure => simp [intOf]; omega
          · have HX3 : Hid (q ≠ p) := hqp
            have HQ2 := Lib.hid (HQ.out.since ((Since.rfl_ wr).alloc (.cells #[.int .i64 q.1, .int .i64 q.2] 23)))
            have HB2 := Lib.hid (Blk.new wr 23 #[.int .i64 q.1, .int .i64 q.2])
            go_upto_region 7 with fail
            obtain ⟨g8, HG8⟩ : ∃ g8, g8 = wr.heap.size := ⟨_, rfl⟩
            rw [← HG8] at HB2 ⊢
            have hn68 : ¬ g8 = g6 := by omega
            clear HG8 q0 q1 p0 p1 hl5 hl6 hn5 HQ
            generalize World.alloc wr _ = w4 at *
            have p0 : w4.cell? ⟨g5, 0, none⟩ = some (.int .i64 p.1) := HQ2.out.b5.cell 0
            have p1 : w4.cell? ⟨g5, 1, none⟩ = some (.int .i64 p.2) := HQ2.out.b5.cell 1
            have n0 : w4.cell? ⟨g6, 0, none⟩ = some (.int .i64 nx.1) := HQ2.out.b6.cell 0
            have n1 : w4.cell? ⟨g6, 1, none⟩ = some (.int .i64 nx.2) := HQ2.out.b6.cell 1
            have q0 : w4.cell? ⟨g8, 0, none⟩ = some (.int .i64 q.1) := HB2.out.cell 0
            have q1 : w4.cell? ⟨g8, 1, none⟩ = some (.int .i64 q.2) := HB2.out.cell 1
            go_cut [29] from 24 to 52 (fun v29 w' => v29 = .bool false ∧ Since w4 w')
            case first =>
              cases hx : (q.1 == p.1) <;> cases hy : (q.2 == p.2)
              case true.true => exact absurd (Prod.ext (beq_iff_eq.1 hx) (beq_iff_eq.1 hy)) hqp
              all_goals
                go_wp2_with fail
                go_meet
                exact ⟨rfl, Since.rfl_ _⟩
            case rest =>
              obtain ⟨rfl, hs⟩ := hcut
              obtain ⟨w5, rfl⟩ : ∃ w5, w5 = wc := ⟨_, rfl⟩
              have HQ5 := Lib.hid (HQ2.out.since hs)
              have HB5 := Lib.hid (hs.blk HB2.out)
              clear hs HQ2 HB2 p0 p1 n0 n1 q0 q1
              have p0 : w5.cell? ⟨g5, 0, none⟩ = some (.int .i64 p.1) := HQ5.out.b5.cell 0
              have p1 : w5.cell? ⟨g5, 1, none⟩ = some (.int .i64 p.2) := HQ5.out.b5.cell 1
              have n0 : w5.cell? ⟨g6, 0, none⟩ = some (.int .i64 nx.1) := HQ5.out.b6.cell 0
              have n1 : w5.cell? ⟨g6, 1, none⟩ = some (.int .i64 nx.2) := HQ5.out.b6.cell 1
              have q0 : w5.cell? ⟨g8, 0, none⟩ = some (.int .i64 q.1) := HB5.out.cell 0
              have q1 : w5.cell? ⟨g8, 1, none⟩ = some (.int .i64 q.2) := HB5.out.cell 1
              have HC := Lib.hid (fun w => crossR_any okp okn okq w)
              have HWB : Hid (wrapB p nx q = (((nx.1 == p.1) && (nx.2 == p.2)) || decide (crs p nx q < 0) || ((crs p nx q == 0) && onR p q nx))) := rfl
              have HST : Hid ((if wrapB p nx q = true then q else nx) = (l.take (k + 1)).foldl (wrapStep p) m) := by show _ = _; rw [← wrapStep_b hqp]; exact HX2.out
              generalize crs p nx q = cr at *
              go_wp2_with fail
              refine (HC.out _).mono ?_
              rintro e w6 ⟨rfl, hs⟩
              have HQ6 := Lib.hid (HQ5.out.since hs)
              have HB6 := Lib.hid (hs.blk HB5.out)
              clear hs HQ5 HB5 p0 p1 n0 n1 q0 q1 HC
              have p0 : w6.cell? ⟨g5, 0, none⟩ = some (.int .i64 p.1) := HQ6.out.b5.cell 0
              have p1 : w6.cell? ⟨g5, 1, none⟩ = some (.int .i64 p.2) := HQ6.out.b5.cell 1
              have n0 : w6.cell? ⟨g6, 0, none⟩ = some (.int .i64 nx.1) := HQ6.out.b6.cell 0
              have n1 : w6.cell? ⟨g6, 1, none⟩ = some (.int .i64 nx.2) := HQ6.out.b6.cell 1
              have q0 : w6.cell? ⟨g8, 0, none⟩ = some (.int .i64 q.1) := HB6.out.cell 0
              have q1 : w6.cell? ⟨g8, 1, none⟩ = some (.int .i64 q.2) := HB6.out.cell 1
              go_upto_region 9 with fail
              go_cut [50] from 24 to 52 (fun v50 w' => v50 = .bool (wrapB p nx q) ∧ Since w6 w')
              case first =>
                cases h1 : (nx.1 == p.1) <;> cases h2 : (nx.2 == p.2)
                case true.true =>
                  go_wp2_with fail
                  go_meet
                  exact ⟨by rw [HWB.out, h1, h2]; rfl, Since.rfl_ _⟩
                all_goals
                  cases h3 : decide (cr < 0)
                  case true =>
                    go_wp2_with fail
                    go_meet
                    exact ⟨by rw [HWB.out, h1, h2, h3]; rfl, Since.rfl_ _⟩
                  case false =>
                    cases h4 : (cr == 0)
                    case false =>
                      go_wp2_with fail
                      go_meet
                      exact ⟨by rw [HWB.out, h1, h2, h3, h4]; rfl, Since.rfl_ _⟩
                    case true =>
                      go_wp2_with fail
                      refine (OnR_any okp okq okn _).mono ?_
                      rintro e w7 ⟨rfl, hs⟩
                      have HS7 := Lib.hid hs
                      clear hs
                      go_wp2_with fail
                      go_meet
                      exact ⟨by rw [HWB.out, h1, h2, h3, h4]; rfl, HS7.out⟩
              case rest =>
                obtain ⟨rfl, hs⟩ := hcut
                obtain ⟨w7, rfl⟩ : ∃ w7, w7 = wc := ⟨_, rfl⟩
                have HQ7 := Lib.hid (HQ6.out.since hs)
                have hb7 := hs.blk HB6.out
                have q0 : w7.cell? ⟨g8, 0, none⟩ = some (.int .i64 q.1) := hb7.cell 0
                have q1 : w7.cell? ⟨g8, 1, none⟩ = some (.int .i64 q.2) := hb7.cell 1
                have n0 : w7.cell? ⟨g6, 0, none⟩ = some (.int .i64 nx.1) := HQ7.out.b6.cell 0
                have n1 : w7.cell? ⟨g6, 1, none⟩ = some (.int .i64 nx.2) := HQ7.out.b6.cell 1
                have f6 := HQ7.out.b6.frozen 0
                have f7 := HQ7.out.b6.frozen 1
                clear hs HQ6 HB6 hb7 HWB
                cases hb : wrapB p nx q
                · have HX4 : Hid (nx = (l.take (k + 1)).foldl (wrapStep p) m) := by show _ = _; have := HST.out; rwa [hb, if_neg (by simp)] at this
                  go_wp2_with fail
                  go_roundw
                  case rel => exact ⟨k + 1, nx, by omega, by go_num, HX4, HM, HQ7⟩
                  case measure => simp [intOf]; omega
                · have HX4 : Hid (q = (l.take (k + 1)).foldl (wrapStep p) m) := by show _ = _; have := HST.out; rwa [hb, if_pos rfl] at this
                  have HQ8 := Lib.hid (HQ7.out.set (q := q) hk1 hne hk3 hk4)
                  go_wp2_with fail
                  go_roundw
                  case rel => exact ⟨k + 1, q, by omega, by go_num, HX4, hqm, HQ8⟩
                  case measure => simp [intOf]; omega
        · obtain rfl : k = l.length := by omega
          have hz : decide ((l.length : Int) < (l.length : Int)) = false := by rw [decide_eq_false_iff_not]; omega
          have hnx : nx = pAt H ((i + 1) % H.length) := by
            have := HX.out
            rw [List.take_length] at this
            rw [this]; exact HE.out
          have n0 : wr.cell? ⟨g6, 0, none⟩ = some (.int .i64 nx.1) := HQ.out.b6.cell 0
          have n1 : wr.cell? ⟨g6, 1, none⟩ = some (.int .i64 nx.2) := HQ.out.b6.cell 1
          have f0 : wr.cell? ⟨gf, 0, none⟩ = some (.int .i64 m.1) := HQ.out.bf.cell 0
          have f1 : wr.cell? ⟨gf, 1, none⟩ = some (.int .i64 m.2) := HQ.out.bf.cell 1
          have htk : (H.take n).length = n := by rw [List.length_take]; omega
          by_cases hend : n = H.length
          · have hnm : nx = m := by rw [hnx, ← HN.out, hend, Nat.mod_self, HF.out]
            subst hnm
            have HE2 : Hid (H.take n = H) := by show _ = _; rw [hend, List.take_length]
            go_wp2_with fail
            go_ret
            refine ⟨_, rfl, ?_, HQ.out.s⟩
            have := HQ.out.row
            rw [htk, HE2.out] at this
            rw [← hend]
            exact this.mono (by omega)
          · have hnl : n < H.length := by omega
            have hne2 : nx ≠ m := by
              rw [hnx, ← HN.out, Nat.mod_eq_of_lt hnl, HF.out]
              exact fun h => HRR.out.nodup 0 n (by omega) hnl h.symm
            have HTK : Hid ((H.take (n + 1)).flatMap ptV = (H.take n).flatMap ptV ++ [.int .i64 nx.1, .int .i64 nx.2]) := by
              show _ = _
              rw [List.take_succ_eq_append_getElem hnl, List.flatMap_append, hnx, ← HN.out, Nat.mod_eq_of_lt hnl]
              simp [pAt, List.getD, hnl, ptV]
            clear hnx
            go_upto_region 12 with fail
            go_cut [55] from 14 to 60 (fun v55 w' => v55 = .bool false ∧ w' = wr)
            case first =>
              cases hx : (nx.1 == m.1) <;> cases hy : (nx.2 == m.2)
              case true.true => exact absurd (Prod.ext (beq_iff_eq.1 hx) (beq_iff_eq.1 hy)) hne2
              all_goals
                go_wp2_with fail
                go_meet
                exact ⟨rfl, rfl⟩
            case rest =>
              obtain ⟨rfl, rfl⟩ := hcut
              have hrow := HQ.out.row
              rw [htk] at hrow
              have HRW := Lib.hid hrow
              have hsz := HQ.out.bf.lt
              obtain ⟨i0, hi0, hz0, hz1, hz3⟩ := info_parts infoPt
              have HI := Lib.hid hi0
              have HZ := Lib.hid (And.intro hz0 (And.intro hz1 hz3))
              clear hi0 hz0 hz1 hz3 hrow
              go_wp2_with (at_builtin; refine wpList_append_own _ rfl _ _ 32 rfl (gf + 1) 23 i0 _ 2 16 Try.underlying32 HI.out HZ.out.1 HZ.out.2.1 HZ.out.2.2 rfl (by decide) _ _ _ rfl (own_since ((Since.rfl_ wc).alloc _) HRW.out) _ _ _ [.int .i64 nx.1, .int .i64 nx.2] rfl rfl (cell2_new _ _ _ _) (one2 _ _ _ _) (by unfold maxLen; omega) (by omega) (by simp only [World.size_alloc]; omega) ?_)
              intro v' w' hown hgrow _
              obtain ⟨ao', co', rfl⟩ := own_slice hown
              have hA := (Since.rfl_ wc).alloc (.cells #[.int .i64 nx.1, .int .i64 nx.2] 23)
              have hoA := own_since hA HRW.out
              have HO9 : Hid (w'.ownsRow (gf + 1) 23 2 (.slice ao' (n + 1) co') (n + 1) ((H.take (n + 1)).flatMap ptV)) := by
                show World.ownsRow _ _ _ _ _ _ _
                rw [HTK.out]; exact hown
              have HW9 : Hid (Since w w' ∧ Blk w' gf 23 #[.int .i64 m.1, .int .i64 m.2]) :=
                ⟨(HQ.out.s.trans hA).app (hoA.mono (by omega)) hgrow, (hgrow.block _ (hA.blk HQ.out.bf).lt (own_ne hoA (by omega))).trans (hA.blk HQ.out.bf)⟩
              clear hown hgrow hA hoA HRW HQ HTK
              go_wp2_with fail
              go_roundw
              case rel => exact ⟨n, by omega, HO9, HW9⟩
              case measure => simp [lenV]; omega
end Go.Proofs.Ytcckekdfeeghaaa
