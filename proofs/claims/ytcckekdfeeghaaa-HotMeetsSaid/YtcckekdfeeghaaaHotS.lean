/-
  The walk of the reference of Meets. Conditions: none.
-/
import Derived.Test.YtcckekdfeeghaaaHotI
import Derived.Test.YtcckekdfeeghaaaTail
namespace Go.Proofs.Ytcckekdfeeghaaa
set_option linter.unusedSimpArgs false
set_option linter.unusedVariables false
open Go.RowKit Go.BigFrame
attribute [local go_sem] max2_int min2_int max_two min_two

/-- What the reference of Meets keeps in memory: three points, dx, dy. -/
def Env (w w' : World) (ax ay bx by_ px py dx dy : Int) (g8 g9 : Nat) : Prop :=
  Blk w' w.heap.size 23 #[.int .i64 ax, .int .i64 ay] ∧ Blk w' (w.heap.size + 1) 23 #[.int .i64 bx, .int .i64 by_] ∧ Blk w' (w.heap.size + 1 + 1) 23 #[.int .i64 px, .int .i64 py] ∧
  Blk w' g8 3 #[.int .i64 dx] ∧ Blk w' g9 3 #[.int .i64 dy] ∧ Since w w'
theorem Env.since {w w1 w2 : World} {ax ay bx by_ px py dx dy : Int} {g8 g9 : Nat} (h : Env w w1 ax ay bx by_ px py dx dy g8 g9) (k : Since w1 w2) : Env w w2 ax ay bx by_ px py dx dy g8 g9 := by
  obtain ⟨h1, h2, h3, h4, h5, h6⟩ := h
  exact ⟨k.blk h1, k.blk h2, k.blk h3, k.blk h4, k.blk h5, h6.trans k⟩
theorem Env.app {w w1 w2 : World} {ax ay bx by_ px py dx dy : Int} {g8 g9 : Nat} (h : Env w w1 ax ay bx by_ px py dx dy g8 g9) {v : Value} {n : Nat} {xs : List Value} (ho : w1.ownsRow w.heap.size 82 3 v n xs) (hg : w1.grownBy w2 v.ownBlock) : Env w w2 ax ay bx by_ px py dx dy g8 g9 := by
  obtain ⟨h1, h2, h3, h4, h5, h6⟩ := h
  exact ⟨h1.app ho (by decide) hg, h2.app ho (by decide) hg, h3.app ho (by decide) hg, h4.app ho (by decide) hg, h5.app ho (by decide) hg, h6.app ho hg⟩

def S0 (ax ay bx by_ : Int) : List Spt := [(2 * ax, 2 * ay, 1), (2 * bx, 2 * by_, 1)]
def addS (b : Bool) (s : Spt) (l : List Spt) : List Spt := if b then l ++ [s] else l
theorem addS_len (b : Bool) (s : Spt) (l : List Spt) : (addS b s l).length ≤ l.length + 1 := by unfold addS; split <;> simp
theorem addS_ge (b : Bool) (s : Spt) (l : List Spt) : l.length ≤ (addS b s l).length := by unfold addS; split <;> simp
theorem addS_mem {b : Bool} {s : Spt} {l : List Spt} {x : Spt} (h : x ∈ addS b s l) : x ∈ l ∨ b = true ∧ x = s := by
  unfold addS at h
  split at h
  · simp at h; rcases h with h | h
    · exact .inl h
    · exact .inr ⟨‹_›, h⟩
  · exact .inl h
theorem spt_len (s : Spt) : (sptV s).length = 3 := rfl
theorem spt_one (s : Spt) : ∀ u ∈ sptV s, u.oneCell' = true := by
  intro u hu
  simp only [sptV, List.mem_cons, List.not_mem_nil, or_false] at hu
  rcases hu with rfl | rfl | rfl <;> rfl

theorem infoSpot : (Try.prog.info? 82).map (fun i => (i.zero, i.size, i.bytes)) = some (some (.agg #[.int .i64 0, .int .i64 0, .int .i64 0]), 3, 24) := by kernel_rfl

/-- The reference of Meets, at points that are valid. -/
def refL (ax ay bx by_ px py : Int) : List Spt :=
  addS (atB (2 * py - 1) ay by_ (by_ - ay)) (atT (2 * py - 1) ay ax (by_ - ay) (bx - ax)) (addS (atB (2 * px - 1) ax bx (bx - ax)) (atS (2 * px - 1) ax ay (bx - ax) (by_ - ay)) (S0 ax ay bx by_))
def refT (ax ay bx by_ px py : Int) : Bool :=
  atB (2 * px + 1) ax bx (bx - ax) && atB (2 * py + 1) ay by_ (by_ - ay) && nearB (atS (2 * px + 1) ax ay (bx - ax) (by_ - ay)).2.1 (atS (2 * px + 1) ax ay (bx - ax) (by_ - ay)).2.2 py &&
    nearB (atT (2 * py + 1) ay ax (by_ - ay) (bx - ax)).1 (atT (2 * py + 1) ay ax (by_ - ay) (bx - ax)).2.2 px
def refV (ax ay bx by_ px py : Int) : Bool := refT ax ay bx by_ px py || (refL ax ay bx by_ px py).any fun s => inB s px py

set_option maxRecDepth 100000 in
set_option maxHeartbeats 4000000 in
theorem RMeets_any (ax ay bx by_ px py : Int) (w : World) :
    Calls Try.prog 15 #[.agg #[.int .i64 ax, .int .i64 ay], .agg #[.int .i64 bx, .int .i64 by_], .agg #[.int .i64 px, .int .i64 py]] w fun e w' =>
      e = .returned (.bool (refV (clampI ax) (clampI ay) (clampI bx) (clampI by_) (clampI px) (clampI py))) ∧ Since w w' := by
  have q1 := clampI_bd ax
  have q2 := clampI_bd ay
  have q3 := clampI_bd bx
  have q4 := clampI_bd by_
  have q5 := clampI_bd px
  have q6 := clampI_bd py
  go_enter Try.func15, Try.ntmps15
  go_upto_region 1 with fail
  go_cut [] (fun w' => Blk w' w.heap.size 23 #[.int .i64 (clampI ax), .int .i64 (clampI ay)] ∧ Blk w' (w.heap.size + 1) 23 #[.int .i64 (clampI bx), .int .i64 (clampI by_)] ∧ Blk w' (w.heap.size + 1 + 1) 23 #[.int .i64 (clampI px), .int .i64 (clampI py)] ∧ Since w w')
  case first =>
    refine region_tail 6 (fun w' => w'.cell? ⟨w.heap.size, 0, none⟩ = some (.int .i64 ax) ∧ w'.cell? ⟨w.heap.size, 1, none⟩ = some (.int .i64 ay) ∧ w'.cell? ⟨w.heap.size + 1, 0, none⟩ = some (.int .i64 bx) ∧ w'.cell? ⟨w.heap.size + 1, 1, none⟩ = some (.int .i64 by_) ∧ w'.cell? ⟨w.heap.size + 1 + 1, 0, none⟩ = some (.int .i64 px) ∧ w'.cell? ⟨w.heap.size + 1 + 1, 1, none⟩ = some (.int .i64 py) ∧ Since (((w.alloc (.cells #[.int .i64 ax, .int .i64 ay] 23)).alloc (.cells #[.int .i64 bx, .int .i64 by_] 23)).alloc (.cells #[.int .i64 px, .int .i64 py] 23)) w') (by kernel_rfl) (by kernel_rfl) (by (repeat' refine And.intro ?_ ?_) <;> first | (simp (maxDischargeDepth := 9) [ cSetS, cSetO, cellNew, World.cell?_alloc_some, cellDrew]; done) | (repeat (first | with_reducible assumption | with_reducible exact Since.rfl_ _ | refine Since.setCell ?_ (by (try dsimp only); omega) _ | refine Since.alloc ?_ _ | refine Since.drew ?_))) ?_
    simp only [List.take_succ_cons, List.take_zero, List.drop_succ_cons, List.drop_zero]
    repeat (go_big_quiet_step ((first | (intro hC; go_at_call 58; refine (Near_any _ _ _).mono ?_; rintro e w' ⟨rfl, hb⟩; refine ⟨rfl, ?_⟩; have k1 := keepC hb; have k2 := keepS hb; have hC := hC.out; (try dsimp only at hC); simp [Cls, hC, k1, k2]) | (intro hC; have hC := hC.out; (try simp only [hC, Result.andThen]); first | exact ⟨True.intro, rfl⟩ | exact ⟨rfl, rfl⟩ | rfl))))
    refine tail_end ?_
    rintro w1 ⟨a0, a1, b0, b1, p0, p1, hs⟩
    have hA := hs.blk (((Blk.new w _ _).alloc _).alloc _)
    have hB := hs.blk ((Blk.new (w.alloc _) _ _).alloc _)
    have hP := hs.blk (Blk.new ((w.alloc _).alloc _) _ _)
    simp only [World.size_alloc] at hB hP
    have hsw0 : Since w w1 := ((((Since.rfl_ w).alloc _).alloc _).alloc _).trans hs
    have fa0 := hA.frozen 0
    have fa1 := hA.frozen 1
    have fb0 := hB.frozen 0
    have fb1 := hB.frozen 1
    have fp0 := hP.frozen 0
    have fp1 := hP.frozen 1
    have HA := Lib.hid hA
    have HB := Lib.hid hB
    have HP := Lib.hid hP
    have HS := Lib.hid hsw0
    clear hs hA hB hP hsw0
    go_wp2_with fail
    go_meet
    refine ⟨((((((HA.out.set_ 0 _).set_ 1 _).far ?_ _).far ?_ _).far ?_ _).far ?_ _), ((((((HB.out.far ?_ _).far ?_ _).set_ 0 _).set_ 1 _).far ?_ _).far ?_ _), ((((((HP.out.far ?_ _).far ?_ _).far ?_ _).far ?_ _).set_ 0 _).set_ 1 _), ?_⟩
    all_goals first | (dsimp only; omega) | (exact (((((HS.out.setCell (by dsimp only; omega) _).setCell (by dsimp only; omega) _).setCell (by dsimp only; omega) _).setCell (by dsimp only; omega) _).setCell (by dsimp only; omega) _).setCell (by dsimp only; omega) _)
  case rest =>
    obtain ⟨hA, hB, hP, hsw⟩ := hcut
    have a0 : wc.cell? ⟨w.heap.size, 0, none⟩ = some (.int .i64 (clampI ax)) := hA.cell 0
    have a1 : wc.cell? ⟨w.heap.size, 1, none⟩ = some (.int .i64 (clampI ay)) := hA.cell 1
    have b0 : wc.cell? ⟨w.heap.size + 1, 0, none⟩ = some (.int .i64 (clampI bx)) := hB.cell 0
    have b1 : wc.cell? ⟨w.heap.size + 1, 1, none⟩ = some (.int .i64 (clampI by_)) := hB.cell 1
    have lp := hP.lt
    have la : w.heap.size < wc.heap.size := by omega
    have lb : w.heap.size + 1 < wc.heap.size := by omega
    have HA := Lib.hid hA
    have HB := Lib.hid hB
    have HP := Lib.hid hP
    have HS := Lib.hid hsw
    clear hsw hA hB hP
    obtain ⟨w1, rfl⟩ : ∃ w1, w1 = wc := ⟨_, rfl⟩
    have e1w : IntKind.i64.wrap (clampI bx - clampI ax) = clampI bx - clampI ax := IntWalk.i64_in _ (by omega)
    have e2w : IntKind.i64.wrap (clampI by_ - clampI ay) = clampI by_ - clampI ay := IntWalk.i64_in _ (by omega)
    go_upto_region 3 with fail
    go_cut [8, 9] (fun v8 v9 w' => ∃ g8 g9 : Nat, v8 = .pointer (some ⟨g8, 0, none⟩) ∧ v9 = .pointer (some ⟨g9, 0, none⟩) ∧ Blk w' g8 3 #[.int .i64 (clampI bx - clampI ax)] ∧ Blk w' g9 3 #[.int .i64 (clampI by_ - clampI ay)] ∧
      Since (w1.alloc (.cells #[.int .i64 (2 * clampI ax), .int .i64 (2 * clampI ay), .int .i64 1, .int .i64 (2 * clampI bx), .int .i64 (2 * clampI by_), .int .i64 1] 82)) w')
    case first =>
      have e1 := World.new_ne w1 _ a0
      have e2 := World.new_ne w1 _ b0
      go_region_held3 (fun w' => w'.cell? ⟨w.heap.size, 0, none⟩ = some (.int .i64 (clampI ax)) ∧ w'.cell? ⟨w.heap.size, 1, none⟩ = some (.int .i64 (clampI ay)) ∧ w'.cell? ⟨w.heap.size + 1, 0, none⟩ = some (.int .i64 (clampI bx)) ∧ w'.cell? ⟨w.heap.size + 1, 1, none⟩ = some (.int .i64 (clampI by_))) ((simp (maxDischargeDepth := 9) [*, World.cell?_alloc_some, cSetO, cellDrew])) (fail)
      all_goals
        rename_i hH
        obtain ⟨-, -, -, -⟩ := hH
        go_wp2_with fail
        go_meet
        first
          | exact ⟨_, _, rfl, rfl, ((Blk.new (w1.alloc _) _ _).alloc _).drew, (Blk.new ((w1.alloc _).alloc _) _ _).drew, (((Since.rfl_ _).alloc _).alloc _).drew⟩
          | exact ⟨_, _, rfl, rfl, (Blk.new ((w1.alloc _).alloc _) _ _).drew, ((Blk.new (w1.alloc _) _ _).alloc _).drew, (((Since.rfl_ _).alloc _).alloc _).drew⟩
          | (refine ⟨_, _, rfl, rfl, ?_, ?_, (((Since.rfl_ _).alloc _).alloc _).drew⟩ <;> first | (simpa using ((Blk.new (w1.alloc _) _ _).alloc _).drew) | (simpa using (Blk.new ((w1.alloc _).alloc _) _ _).drew))
    case rest =>
      obtain ⟨g8, g9, rfl, rfl, h8, h9, hs⟩ := hcut
      have k := (Since.rfl_ w1).alloc (.cells #[.int .i64 (2 * clampI ax), .int .i64 (2 * clampI ay), .int .i64 1, .int .i64 (2 * clampI bx), .int .i64 (2 * clampI by_), .int .i64 1] 82)
      have HE : Hid (Env w wc (clampI ax) (clampI ay) (clampI bx) (clampI by_) (clampI px) (clampI py) (clampI bx - clampI ax) (clampI by_ - clampI ay) g8 g9) :=
        ⟨(k.trans hs).blk HA.out, (k.trans hs).blk HB.out, (k.trans hs).blk HP.out, h8, h9, HS.out.trans (k.trans hs)⟩
      have HO : Hid (wc.ownsRow w.heap.size 82 3 (.slice (some ⟨w1.heap.size, 0, none⟩) 2 2) (S0 (clampI ax) (clampI ay) (clampI bx) (clampI by_)).length ((S0 (clampI ax) (clampI ay) (clampI bx) (clampI by_)).flatMap sptV)) :=
        (hs.blk (Blk.new w1 _ _)).row (by omega) (by decide) (by unfold maxLen; omega) rfl rfl
      clear k hs HS lp la lb e1w e2w a0 a1 b0 b1 h8 h9 HA HB HP
      obtain ⟨i0, hi, hz0, hz1, hz2⟩ := info_parts infoSpot
      have HI := Lib.hid hi
      have HZ := Lib.hid (And.intro hz0 (And.intro hz1 hz2))
      clear hi hz0 hz1 hz2
      have p0 : wc.cell? ⟨w.heap.size + 1 + 1, 0, none⟩ = some (.int .i64 (clampI px)) := HE.out.2.2.1.cell 0
      go_wp2_with fail
      refine (atX_any _ _ (clampI ay) _ (clampI by_) _ (clampI by_ - clampI ay) g8 w.heap.size (w.heap.size + 1) g9 _ (by omega) (by omega) (by omega) (by omega) (by omega) (by omega) (HE.out.2.2.2.1.cell 0) (HE.out.1.cell 0) (HE.out.1.cell 1) (HE.out.2.1.cell 0) (HE.out.2.2.2.2.1.cell 0)).mono ?_
      rintro e w2 ⟨s, rfl, hs1, hS⟩
      have HE2 := Lib.hid (HE.out.since hS)
      have HO2 := Lib.hid (own_since hS HO.out)
      have HS1 := Lib.hid hs1
      clear p0 HE HO hS hs1
      obtain ⟨b1, hb1⟩ : ∃ b, b = atB (2 * clampI px - 1) (clampI ax) (clampI bx) (clampI bx - clampI ax) := ⟨_, rfl⟩
      rw [← hb1]
      have HB1 := Lib.hid hb1
      clear hb1
      go_upto_if 62 with fail
      go_cut [7] (fun v7 w' => w'.ownsRow w.heap.size 82 3 v7 (addS b1 (atS (2 * clampI px - 1) (clampI ax) (clampI ay) (clampI bx - clampI ax) (clampI by_ - clampI ay)) (S0 (clampI ax) (clampI ay) (clampI bx) (clampI by_))).length ((addS b1 (atS (2 * clampI px - 1) (clampI ax) (clampI ay) (clampI bx - clampI ax) (clampI by_ - clampI ay)) (S0 (clampI ax) (clampI ay) (clampI bx) (clampI by_))).flatMap sptV) ∧ Env w w' (clampI ax) (clampI ay) (clampI bx) (clampI by_) (clampI px) (clampI py) (clampI bx - clampI ax) (clampI by_ - clampI ay) g8 g9)
      case first =>
        cases b1
        · go_wp2_with fail
          go_meet
          exact ⟨HO2.out.alloc _, HE2.out.since ((Since.rfl_ _).alloc _)⟩
        · obtain rfl := HS1.out HB1.out.symm
          have hi_ := HI.out
          obtain ⟨hz0_, hz1_, hz2_⟩ := HZ.out
          have HI_ := Lib.hid hi_
          clear hi_
          go_wp2_with (at_builtin; refine wpList_append_own _ rfl _ _ 83 rfl w.heap.size 82 i0 _ 3 24 Try.underlying83 HI_.out hz0_ hz1_ hz2_ rfl (by decide) _ _ _ rfl ((HO2.out.alloc _).alloc _) _ _ _ (sptV (atS (2 * clampI px - 1) (clampI ax) (clampI ay) (clampI bx - clampI ax) (clampI by_ - clampI ay))) rfl rfl ?c1 ?c2 ?c3 ?c4 ?c5 ?_)
          case c1 => intro j u hu; simpa [sptV] using hu
          case c2 => exact spt_one _
          case c3 => show 2 + 1 ≤ maxLen; unfold maxLen; omega
          case c4 => show (2 + 1) * 24 ≤ _; omega
          case c5 => have := HE2.out.2.2.2.2.2.size; omega
          intro v' w' hown hgrow _
          have HO3 := Lib.hid (own_snoc hown)
          have HE3 := Lib.hid (((HE2.out.since ((Since.rfl_ w2).alloc _)).since ((Since.rfl_ _).alloc _)).app ((HO2.out.alloc _).alloc _) hgrow)
          clear hown hgrow
          go_wp2_with fail
          go_meet
          exact ⟨HO3.out, HE3.out⟩
      case rest =>
        obtain ⟨hown, hE⟩ := hcut
        have HO := Lib.hid hown
        have HE := Lib.hid hE
        clear hown hE HE2 HO2 HS1
        obtain ⟨w3, rfl⟩ : ∃ w3, w3 = wc := ⟨_, rfl⟩
        have p1 : w3.cell? ⟨w.heap.size + 1 + 1, 1, none⟩ = some (.int .i64 (clampI py)) := HE.out.2.2.1.cell 1
        go_wp2_with fail
        refine (atY_any _ _ (clampI ax) _ (clampI bx) _ (clampI bx - clampI ax) g9 w.heap.size (w.heap.size + 1) g8 _ (by omega) (by omega) (by omega) (by omega) (by omega) (by omega) (HE.out.2.2.2.2.1.cell 0) (HE.out.1.cell 1) (HE.out.1.cell 0) (HE.out.2.1.cell 1) (HE.out.2.2.2.1.cell 0)).mono ?_
        rintro e w4 ⟨s2, rfl, hs1, hS⟩
        have HE2 := Lib.hid (HE.out.since hS)
        have HO2 := Lib.hid (own_since hS HO.out)
        have HS1 := Lib.hid hs1
        clear p1 HE HO hS hs1
        obtain ⟨b2, hb2⟩ : ∃ b, b = atB (2 * clampI py - 1) (clampI ay) (clampI by_) (clampI by_ - clampI ay) := ⟨_, rfl⟩
        rw [← hb2]
        have HB2 := Lib.hid hb2
        clear hb2
        go_upto_if 76 with fail
        go_cut [7] (fun v7 w' => w'.ownsRow w.heap.size 82 3 v7 (addS b2 (atT (2 * clampI py - 1) (clampI ay) (clampI ax) (clampI by_ - clampI ay) (clampI bx - clampI ax)) (addS b1 (atS (2 * clampI px - 1) (clampI ax) (clampI ay) (clampI bx - clampI ax) (clampI by_ - clampI ay)) (S0 (clampI ax) (clampI ay) (clampI bx) (clampI by_)))).length ((addS b2 (atT (2 * clampI py - 1) (clampI ay) (clampI ax) (clampI by_ - clampI ay) (clampI bx - clampI ax)) (addS b1 (atS (2 * clampI px - 1) (clampI ax) (clampI ay) (clampI bx - clampI ax) (clampI by_ - clampI ay)) (S0 (clampI ax) (clampI ay) (clampI bx) (clampI by_)))).flatMap sptV) ∧ Env w w' (clampI ax) (clampI ay) (clampI bx) (clampI by_) (clampI px) (clampI py) (clampI bx - clampI ax) (clampI by_ - clampI ay) g8 g9)
        case first =>
          cases b2
          · go_wp2_with fail
            go_meet
            exact ⟨HO2.out.alloc _, HE2.out.since ((Since.rfl_ _).alloc _)⟩
          · obtain rfl := HS1.out HB2.out.symm
            have hi_ := HI.out
            obtain ⟨hz0_, hz1_, hz2_⟩ := HZ.out
            have HI_ := Lib.hid hi_
            have hl1 := addS_len b1 (atS (2 * clampI px - 1) (clampI ax) (clampI ay) (clampI bx - clampI ax) (clampI by_ - clampI ay)) (S0 (clampI ax) (clampI ay) (clampI bx) (clampI by_))
            have hl2 : (S0 (clampI ax) (clampI ay) (clampI bx) (clampI by_)).length = 2 := rfl
            have HL := Lib.hid (And.intro hl1 hl2)
            clear hi_ hl1 hl2
            go_wp2_with (at_builtin; refine wpList_append_own _ rfl _ _ 83 rfl w.heap.size 82 i0 _ 3 24 Try.underlying83 HI_.out hz0_ hz1_ hz2_ rfl (by decide) _ _ _ rfl ((HO2.out.alloc _).alloc _) _ _ _ (sptV (atT (2 * clampI py - 1) (clampI ay) (clampI ax) (clampI by_ - clampI ay) (clampI bx - clampI ax))) rfl rfl ?c1 ?c2 ?c3 ?c4 ?c5 ?_)
            case c1 => intro j u hu; simpa [sptV] using hu
            case c2 => exact spt_one _
            case c3 => have := HL.out; unfold maxLen; omega
            case c4 => have := HL.out; omega
            case c5 => have := HE2.out.2.2.2.2.2.size; omega
            intro v' w' hown hgrow _
            have HO3 := Lib.hid (own_snoc hown)
            have HE3 := Lib.hid (((HE2.out.since ((Since.rfl_ w4).alloc _)).since ((Since.rfl_ _).alloc _)).app ((HO2.out.alloc _).alloc _) hgrow)
            clear hown hgrow
            go_wp2_with fail
            go_meet
            exact ⟨HO3.out, HE3.out⟩
        case rest =>
          obtain ⟨hown, hE⟩ := hcut
          have hge := addS_ge b1 (atS (2 * clampI px - 1) (clampI ax) (clampI ay) (clampI bx - clampI ax) (clampI by_ - clampI ay)) (S0 (clampI ax) (clampI ay) (clampI bx) (clampI by_))
          have hge2 := addS_ge b2 (atT (2 * clampI py - 1) (clampI ay) (clampI ax) (clampI by_ - clampI ay) (clampI bx - clampI ax)) (addS b1 (atS (2 * clampI px - 1) (clampI ax) (clampI ay) (clampI bx - clampI ax) (clampI by_ - clampI ay)) (S0 (clampI ax) (clampI ay) (clampI bx) (clampI by_)))
          have hge3 : (S0 (clampI ax) (clampI ay) (clampI bx) (clampI by_)).length = 2 := rfl
          have hle := addS_len b1 (atS (2 * clampI px - 1) (clampI ax) (clampI ay) (clampI bx - clampI ax) (clampI by_ - clampI ay)) (S0 (clampI ax) (clampI ay) (clampI bx) (clampI by_))
          have hle2 := addS_len b2 (atT (2 * clampI py - 1) (clampI ay) (clampI ax) (clampI by_ - clampI ay) (clampI bx - clampI ax)) (addS b1 (atS (2 * clampI px - 1) (clampI ax) (clampI ay) (clampI bx - clampI ax) (clampI by_ - clampI ay)) (S0 (clampI ax) (clampI ay) (clampI bx) (clampI by_)))
          have HL : Hid (refL (clampI ax) (clampI ay) (clampI bx) (clampI by_) (clampI px) (clampI py) = addS b2 (atT (2 * clampI py - 1) (clampI ay) (clampI ax) (clampI by_ - clampI ay) (clampI bx - clampI ax)) (addS b1 (atS (2 * clampI px - 1) (clampI ax) (clampI ay) (clampI bx - clampI ax) (clampI by_ - clampI ay)) (S0 (clampI ax) (clampI ay) (clampI bx) (clampI by_)))) := by
            show _ = _
            rw [HB1.out, HB2.out]; rfl
          have hok : ∀ s ∈ addS b2 (atT (2 * clampI py - 1) (clampI ay) (clampI ax) (clampI by_ - clampI ay) (clampI bx - clampI ax)) (addS b1 (atS (2 * clampI px - 1) (clampI ax) (clampI ay) (clampI bx - clampI ax) (clampI by_ - clampI ay)) (S0 (clampI ax) (clampI ay) (clampI bx) (clampI by_))), spOk s := by
            intro s hs
            rcases addS_mem hs with hs | ⟨_, rfl⟩
            · rcases addS_mem hs with hs | ⟨_, rfl⟩
              · simp only [S0, List.mem_cons, List.not_mem_nil, or_false] at hs
                rcases hs with rfl | rfl <;> exact (by decide : (1 : Int).natAbs ≤ 2097152)
              · unfold spOk atS; dsimp only; omega
            · unfold spOk atT; dsimp only; omega
          generalize addS b2 (atT (2 * clampI py - 1) (clampI ay) (clampI ax) (clampI by_ - clampI ay) (clampI bx - clampI ax)) (addS b1 (atS (2 * clampI px - 1) (clampI ax) (clampI ay) (clampI bx - clampI ax) (clampI by_ - clampI ay)) (S0 (clampI ax) (clampI ay) (clampI bx) (clampI by_))) = L at *
          obtain ⟨g, cap, rfl, -, -⟩ := hown.form (by omega)
          have HO := Lib.hid hown
          have HE := Lib.hid hE
          have HK := Lib.hid hok
          have hlen : L.length ≤ 1000 := by omega
          clear hown hE HE2 HO2 HS1 hge hge2 hge3 hle hle2 hok HZ HI HB1 HB2
          obtain ⟨w5, rfl⟩ : ∃ w5, w5 = wc := ⟨_, rfl⟩
          have p0 : w5.cell? ⟨w.heap.size + 1 + 1, 0, none⟩ = some (.int .i64 (clampI px)) := HE.out.2.2.1.cell 0
          go_wp2_with fail
          refine (atX_any _ _ (clampI ay) _ (clampI by_) _ (clampI by_ - clampI ay) g8 w.heap.size (w.heap.size + 1) g9 _ (by omega) (by omega) (by omega) (by omega) (by omega) (by omega) (HE.out.2.2.2.1.cell 0) (HE.out.1.cell 0) (HE.out.1.cell 1) (HE.out.2.1.cell 0) (HE.out.2.2.2.2.1.cell 0)).mono ?_
          rintro e w6 ⟨s3, rfl, hs3, hS⟩
          have HE2 := Lib.hid (HE.out.since hS)
          have HO2 := Lib.hid (own_since hS HO.out)
          have HS3 := Lib.hid hs3
          have p1 : w6.cell? ⟨w.heap.size + 1 + 1, 1, none⟩ = some (.int .i64 (clampI py)) := HE2.out.2.2.1.cell 1
          have lp : w.heap.size + 1 + 1 < w6.heap.size := HE2.out.2.2.1.lt
          clear p0 HE HO hS hs3
          obtain ⟨b3, hb3⟩ : ∃ b, b = atB (2 * clampI px + 1) (clampI ax) (clampI bx) (clampI bx - clampI ax) := ⟨_, rfl⟩
          rw [← hb3]
          have HB3 := Lib.hid hb3
          clear hb3
          go_wp2_with fail
          have HE3 := Lib.hid (HE2.out.since ((Since.rfl_ w6).alloc (.cells #[.int .i64 s3.1, .int .i64 s3.2.1, .int .i64 s3.2.2] 82)))
          refine (atY_any _ _ (clampI ax) _ (clampI bx) _ (clampI bx - clampI ax) g9 w.heap.size (w.heap.size + 1) g8 _ (by omega) (by omega) (by omega) (by omega) (by omega) (by omega) (HE3.out.2.2.2.2.1.cell 0) (HE3.out.1.cell 1) (HE3.out.1.cell 0) (HE3.out.2.1.cell 1) (HE3.out.2.2.2.1.cell 0)).mono ?_
          rintro e w7 ⟨s4, rfl, hs4, hS⟩
          have HE4 := Lib.hid (HE3.out.since hS)
          have HO4 := Lib.hid (own_since hS (HO2.out.alloc _))
          have HS4 := Lib.hid hs4
          have h3 := hS.blk (Blk.new w6 _ _)
          have p0 : w7.cell? ⟨w.heap.size + 1 + 1, 0, none⟩ = some (.int .i64 (clampI px)) := HE4.out.2.2.1.cell 0
          replace p1 : w7.cell? ⟨w.heap.size + 1 + 1, 1, none⟩ = some (.int .i64 (clampI py)) := HE4.out.2.2.1.cell 1
          replace lp : w.heap.size + 1 + 1 < w7.heap.size := HE4.out.2.2.1.lt
          have d1 : w7.cell? ⟨w6.heap.size, 1, none⟩ = some (.int .i64 s3.2.1) := h3.cell 1
          have d2 : w7.cell? ⟨w6.heap.size, 2, none⟩ = some (.int .i64 s3.2.2) := h3.cell 2
          have l3 := h3.lt
          clear HE2 HE3 HO2 hS hs4 h3
          obtain ⟨b4, hb4⟩ : ∃ b, b = atB (2 * clampI py + 1) (clampI ay) (clampI by_) (clampI by_ - clampI ay) := ⟨_, rfl⟩
          rw [← hb4]
          have HB4 := Lib.hid hb4
          clear hb4
          have HFIN : ∀ t : Bool, Hid (refT (clampI ax) (clampI ay) (clampI bx) (clampI by_) (clampI px) (clampI py) = false) → Hid (refV (clampI ax) (clampI ay) (clampI bx) (clampI by_) (clampI px) (clampI py) = L.any fun s => inB s (clampI px) (clampI py)) := by
            intro _ h
            show _ = _
            unfold refV
            rw [h.out, HL.out]; rfl
          have HFIN2 := Lib.hid HFIN
          clear HFIN
          have HE5 := Lib.hid (HE4.out.since ((Since.rfl_ w7).alloc (.cells #[.int .i64 s4.1, .int .i64 s4.2.1, .int .i64 s4.2.2] 82)))
          have HO5 := Lib.hid (HO4.out.alloc (.cells #[.int .i64 s4.1, .int .i64 s4.2.1, .int .i64 s4.2.2] 82))
          clear HE4 HO4
          cases b3
          · have HT : Hid (refT (clampI ax) (clampI ay) (clampI bx) (clampI by_) (clampI px) (clampI py) = false) := by
              show _ = _
              unfold refT; rw [← HB3.out]; rfl
            cases b4
            all_goals
              go_wp2_with fail
              refine (anySpot L g cap (clampI px) (clampI py) (w.heap.size + 1 + 1) _ HK.out hlen (by omega) (by omega) (HE5.out.2.2.1.cell 0) (HE5.out.2.2.1.cell 1) (fun i h => ⟨row_at HO5.out spt_len i h 0 _ rfl, row_at HO5.out spt_len i h 1 _ rfl, row_at HO5.out spt_len i h 2 _ rfl⟩)).mono ?_
              rintro e w8 ⟨rfl, hs8⟩
              have HS8 := Lib.hid (HE5.out.2.2.2.2.2.trans hs8)
              clear hs8
              go_wp2
              go_ret
              exact ⟨ret_bool (by rw [(HFIN2.out true HT).out]), HS8.out⟩
          · cases b4
            · have HT : Hid (refT (clampI ax) (clampI ay) (clampI bx) (clampI by_) (clampI px) (clampI py) = false) := by
                show _ = _
                unfold refT; rw [← HB3.out, ← HB4.out]; rfl
              all_goals
                go_wp2_with fail
                refine (anySpot L g cap (clampI px) (clampI py) (w.heap.size + 1 + 1) _ HK.out hlen (by omega) (by omega) (HE5.out.2.2.1.cell 0) (HE5.out.2.2.1.cell 1) (fun i h => ⟨row_at HO5.out spt_len i h 0 _ rfl, row_at HO5.out spt_len i h 1 _ rfl, row_at HO5.out spt_len i h 2 _ rfl⟩)).mono ?_
                rintro e w8 ⟨rfl, hs8⟩
                have HS8 := Lib.hid (HE5.out.2.2.2.2.2.trans hs8)
                clear hs8
                go_wp2
                go_ret
                exact ⟨ret_bool (by rw [(HFIN2.out true HT).out]), HS8.out⟩
            · obtain rfl := HS3.out HB3.out.symm
              obtain rfl := HS4.out HB4.out.symm
              have k3 : (atS (2 * clampI px + 1) (clampI ax) (clampI ay) (clampI bx - clampI ax) (clampI by_ - clampI ay)).2.2.natAbs ≤ 2097152 := by unfold atS; dsimp only; omega
              have k4 : (atT (2 * clampI py + 1) (clampI ay) (clampI ax) (clampI by_ - clampI ay) (clampI bx - clampI ax)).2.2.natAbs ≤ 2097152 := by unfold atT; dsimp only; omega
              have HTT : Hid (refT (clampI ax) (clampI ay) (clampI bx) (clampI by_) (clampI px) (clampI py) = (nearB (atS (2 * clampI px + 1) (clampI ax) (clampI ay) (clampI bx - clampI ax) (clampI by_ - clampI ay)).2.1 (atS (2 * clampI px + 1) (clampI ax) (clampI ay) (clampI bx - clampI ax) (clampI by_ - clampI ay)).2.2 (clampI py) &&
                  nearB (atT (2 * clampI py + 1) (clampI ay) (clampI ax) (clampI by_ - clampI ay) (clampI bx - clampI ax)).1 (atT (2 * clampI py + 1) (clampI ay) (clampI ax) (clampI by_ - clampI ay) (clampI bx - clampI ax)).2.2 (clampI px))) := by
                show _ = _
                unfold refT; rw [← HB3.out, ← HB4.out]; simp
              generalize atS (2 * clampI px + 1) (clampI ax) (clampI ay) (clampI bx - clampI ax) (clampI by_ - clampI ay) = s3 at *
              generalize atT (2 * clampI py + 1) (clampI ay) (clampI ax) (clampI by_ - clampI ay) (clampI bx - clampI ax) = s4 at *
              clear HS3 HS4 HB3 HB4
              have K := Lib.hid (And.intro k3 k4)
              clear k3 k4
              go_wp2_with fail
              refine (near_any _ _ _ _ K.out.1 (by omega)).mono ?_
              rintro e w8 ⟨rfl, rfl⟩
              cases hn1 : nearB s3.2.1 s3.2.2 (clampI py)
              · have HT : Hid (refT (clampI ax) (clampI ay) (clampI bx) (clampI by_) (clampI px) (clampI py) = false) := by
                  show _ = _
                  rw [HTT.out, hn1]; rfl
                clear hn1
                all_goals
                  go_wp2_with fail
                  refine (anySpot L g cap (clampI px) (clampI py) (w.heap.size + 1 + 1) _ HK.out hlen (by omega) (by omega) (HE5.out.2.2.1.cell 0) (HE5.out.2.2.1.cell 1) (fun i h => ⟨row_at HO5.out spt_len i h 0 _ rfl, row_at HO5.out spt_len i h 1 _ rfl, row_at HO5.out spt_len i h 2 _ rfl⟩)).mono ?_
                  rintro e w8 ⟨rfl, hs8⟩
                  have HS8 := Lib.hid (HE5.out.2.2.2.2.2.trans hs8)
                  clear hs8
                  go_wp2
                  go_ret
                  exact ⟨ret_bool (by rw [(HFIN2.out true HT).out]), HS8.out⟩
              · have HN1 := Lib.hid hn1
                clear hn1
                go_wp2_with fail
                refine (near_any _ _ _ _ K.out.2 (by omega)).mono ?_
                rintro e w8 ⟨rfl, rfl⟩
                cases hn2 : nearB s4.1 s4.2.2 (clampI px)
                · have HT : Hid (refT (clampI ax) (clampI ay) (clampI bx) (clampI by_) (clampI px) (clampI py) = false) := by
                    show _ = _
                    rw [HTT.out, hn2]; simp
                  clear hn2
                  all_goals
                    go_wp2_with fail
                    refine (anySpot L g cap (clampI px) (clampI py) (w.heap.size + 1 + 1) _ HK.out hlen (by omega) (by omega) (HE5.out.2.2.1.cell 0) (HE5.out.2.2.1.cell 1) (fun i h => ⟨row_at HO5.out spt_len i h 0 _ rfl, row_at HO5.out spt_len i h 1 _ rfl, row_at HO5.out spt_len i h 2 _ rfl⟩)).mono ?_
                    rintro e w8 ⟨rfl, hs8⟩
                    have HS8 := Lib.hid (HE5.out.2.2.2.2.2.trans hs8)
                    clear hs8
                    go_wp2
                    go_ret
                    exact ⟨ret_bool (by rw [(HFIN2.out true HT).out]), HS8.out⟩
                · have HT : Hid (refV (clampI ax) (clampI ay) (clampI bx) (clampI by_) (clampI px) (clampI py) = true) := by
                    show _ = _
                    unfold refV; rw [HTT.out, HN1.out, hn2]; rfl
                  clear hn2
                  go_wp2
                  go_ret
                  exact ⟨ret_bool (by rw [HT.out]), HE5.out.2.2.2.2.2⟩

end Go.Proofs.Ytcckekdfeeghaaa
