/-
  The walk of terrkeep3.BufferNear. Conditions: none.
-/
import Derived.Test.YtcckekdfeeghaaaBufI
import Derived.Test.YtcckekdfeeghaaaClipU
namespace Go.Proofs.Ytcckekdfeeghaaa
set_option linter.unusedSimpArgs false
set_option linter.unusedVariables false
open Go.RowKit Go.BigFrame
attribute [local go_sem ↓] eqPt neqPt

theorem half_bd {x : Int} (h : -80 ≤ x ∧ x ≤ 80) : -40 ≤ x.tdiv 2 ∧ x.tdiv 2 ≤ 40 := by
  rw [Int.tdiv_eq_ediv, show Int.sign 2 = 1 from rfl]
  split <;> omega
def tri (a b c : Pt2) (k : Nat) : Pt2 := if k = 0 then a else if k = 1 then b else c
theorem okP_small {p : Pt2} {b : Int} (h : (-40 ≤ p.1 ∧ p.1 ≤ 40) ∧ (-40 ≤ p.2 ∧ p.2 ≤ 40)) (h1 : 1 ≤ b) (h2 : b ≤ 10000) : octE p b = 0 := by
  have hp : okP p.1 p.2 = true := by rw [okP_iff]; omega
  unfold octE
  rw [if_neg (by rw [hp]; simp; omega), if_pos]
  unfold allOk
  rw [List.all_eq_true, crnV_form]
  intro q hq
  simp only [List.mem_cons, List.not_mem_nil, or_false] at hq
  rw [okP_iff]
  rcases hq with rfl | rfl | rfl | rfl | rfl | rfl | rfl | rfl <;> dsimp only <;> omega

set_option maxRecDepth 100000 in
set_option maxHeartbeats 4000000 in
theorem Near_walk (v0 v1 : Value) (l k : List Int) (x y by_ : Int) (w : World) (h0 : IntsB w v0 l w.heap.size) (h1 : IntsB w v1 k w.heap.size) :
    Calls Try.prog 9 #[v0, v1, .int .i64 x, .int .i64 y, .int .i64 by_] w fun e w' => e = .returned (.bool true) ∧ Since w w' := by
  have H0 := Lib.hid h0
  have H1 := Lib.hid h1
  clear h0 h1
  obtain ⟨P, HP⟩ : ∃ P, Hid (P = (ptOf l).1) := ⟨_, rfl⟩
  obtain ⟨Q, HQ⟩ : ∃ Q, Hid (Q = (ptOf k).1) := ⟨_, rfl⟩
  have bP := ptOf_bd l
  have bQ := ptOf_bd k
  rw [← HP.out] at bP
  rw [← HQ.out] at bQ
  have b0 := Int.emod_nonneg by_ (show (30 : Int) ≠ 0 by decide)
  have b1 := Int.emod_lt_of_pos by_ (show (0 : Int) < 30 by decide)
  obtain ⟨r, hr⟩ : ∃ r, by_ % 30 = r := ⟨_, rfl⟩
  obtain ⟨b, hb⟩ : ∃ b, 3 + r = b := ⟨_, rfl⟩
  rw [hr] at b0 b1
  have HB := Lib.hid (fun w => Below_any by_ 30 w (by decide) (by decide))
  rw [hr] at HB
  clear hr
  have bb : 3 ≤ b ∧ b ≤ 32 := by omega
  have HE : Hid (strE P Q b = 0) := by
    show _ = _
    unfold strE
    rw [if_pos (okP_small bP (by omega) (by omega))]
    exact okP_small bQ (by omega) (by omega)
  go_enter Try.func9, Try.ntmps9
  go_wp2_with fail
  refine (Point_any v0 l _ H0.out).mono ?_
  rintro e w1 ⟨rfl, hs⟩
  have H1' := Lib.hid ((H1.out.since hs).more hs.size)
  have HS1 := Lib.hid hs
  rw [← HP.out]
  clear hs H1 H0
  go_wp2_with fail
  refine (Point_any v1 k _ H1'.out).mono ?_
  rintro e w2 ⟨rfl, hs⟩
  have HS2 := Lib.hid (HS1.out.trans hs)
  rw [← HQ.out]
  clear hs H1' HS1
  go_upto_region 2 with fail
  have hsz2 := HS2.out.size
  obtain ⟨G, HG⟩ : ∃ G, G = w2.heap.size := ⟨_, rfl⟩
  rw [← HG]
  refine atW (fun w' => Blk w' G 23 #[.int .i64 P.1, .int .i64 P.2] ∧ Blk w' (G + 1) 23 #[.int .i64 Q.1, .int .i64 Q.2] ∧ Since w w') ⟨(Blk.new' HG).alloc _, Blk.new' (by simp [HG]), (HS2.out.alloc _).alloc _⟩ ?_
  rintro w3 ⟨g1, g2, hs⟩
  have HM := Lib.hid (And.intro g1 (And.intro g2 hs))
  clear g1 g2 hs HS2 HG
  go_wp2_with fail
  refine (HB.out _).mono ?_
  rintro e w4 ⟨rfl, rfl⟩
  have p0 : w3.cell? ⟨G, 0, none⟩ = some (.int .i64 P.1) := HM.out.1.cell 0
  have p1 : w3.cell? ⟨G, 1, none⟩ = some (.int .i64 P.2) := HM.out.1.cell 1
  have q0 : w3.cell? ⟨G + 1, 0, none⟩ = some (.int .i64 Q.1) := HM.out.2.1.cell 0
  have q1 : w3.cell? ⟨G + 1, 1, none⟩ = some (.int .i64 Q.2) := HM.out.2.1.cell 1
  go_upto_region 3 with fail
  have HBB := Lib.hid hb
  clear hb b0 b1 HB
  go_wp2_with fail
  refine (Strip_any P Q b _).mono ?_
  rintro e w5 ⟨v, rfl, ho, -, hs⟩
  have hro := ho HE.out
  have hw3 : w.heap.size ≤ w3.heap.size := HM.out.2.2.size
  obtain ⟨H, HH⟩ : ∃ H, Hid (H = hullV (strL P Q b)) := ⟨_, rfl⟩
  rw [← HH.out] at hro
  have HR3 : Hid (Ring3 (strL P Q b) H) := by show Ring3 _ _; rw [HH.out]; exact str_ring (by omega)
  have n3 := HR3.out.n3
  obtain ⟨g, c, rfl⟩ := own_some hro (by omega)
  have HV := Lib.hid hro
  have HM5 := Lib.hid (And.intro (hs.blk HM.out.1) (And.intro (hs.blk HM.out.2.1) (HM.out.2.2.trans hs)))
  rw [HE.out]
  clear ho hro hs p0 p1 q0 q1 HM
  obtain ⟨f, hf⟩ : ∃ f, 2 * b / 3 = f := ⟨_, rfl⟩
  have hfb : 2 ≤ f ∧ f ≤ 21 := by omega
  go_upto_region 5 with fail
  try rw [hf]
  have HF := Lib.hid hf
  clear hf
  have x0 := Int.emod_nonneg x (show (2 * f + 1 : Int) ≠ 0 by omega)
  have x1 := Int.emod_lt_of_pos x (show (0 : Int) < 2 * f + 1 by omega)
  have y0 := Int.emod_nonneg y (show (2 * f + 1 : Int) ≠ 0 by omega)
  have y1 := Int.emod_lt_of_pos y (show (0 : Int) < 2 * f + 1 by omega)
  have HX := Lib.hid (fun w => Below_any x (2 * f + 1) w (by omega) (by omega))
  have HY := Lib.hid (fun w => Below_any y (2 * f + 1) w (by omega) (by omega))
  obtain ⟨xr, hxr⟩ : ∃ xr, x % (2 * f + 1) = xr := ⟨_, rfl⟩
  obtain ⟨yr, hyr⟩ : ∃ yr, y % (2 * f + 1) = yr := ⟨_, rfl⟩
  rw [hxr] at x0 x1 HX
  rw [hyr] at y0 y1 HY
  clear hxr hyr
  go_wp2_with fail
  refine (HX.out _).mono ?_
  rintro e w6 ⟨rfl, rfl⟩
  go_wp2_with fail
  refine (HY.out _).mono ?_
  rintro e w6 ⟨rfl, rfl⟩
  go_wp2_with fail
  refine (ptK_any _ _ _).mono ?_
  rintro e w6 ⟨rfl, hs⟩
  clear HX HY
  obtain ⟨d1, hd1⟩ : ∃ d1, xr - f = d1 := ⟨_, rfl⟩
  obtain ⟨d2, hd2⟩ : ∃ d2, yr - f = d2 := ⟨_, rfl⟩
  have bd1 : -f ≤ d1 ∧ d1 ≤ f := by omega
  have bd2 : -f ≤ d2 ∧ d2 ≤ f := by omega
  have g1 := hs.blk HM5.out.1
  have g2 := hs.blk HM5.out.2.1
  have HM6 := Lib.hid (And.intro g1 (And.intro g2 (HM5.out.2.2.trans hs)))
  have HV6 := Lib.hid (own_since hs HV.out)
  clear hs g1 g2 HM5 HV
  go_upto_region 6 with fail
  try rw [hd1]
  try rw [hd2]
  clear hd1 hd2 x0 x1 y0 y1
  have hg6 := HM6.out.2.1.lt
  obtain ⟨G6, HG6⟩ : ∃ G6, G6 = w6.heap.size := ⟨_, rfl⟩
  rw [← HG6]
  refine atW (fun w' => Blk w' G 23 #[.int .i64 P.1, .int .i64 P.2] ∧ Blk w' (G + 1) 23 #[.int .i64 Q.1, .int .i64 Q.2] ∧ Blk w' G6 23 #[.int .i64 d1, .int .i64 d2] ∧ Since w w' ∧ w'.ownsRow w.heap.size 23 2 (.slice (some ⟨g, 0, none⟩) H.length c) H.length (H.flatMap ptV))
    ⟨HM6.out.1.alloc _, HM6.out.2.1.alloc _, Blk.new' HG6, HM6.out.2.2.alloc _, own_since ((Since.rfl_ _).alloc _) (HV6.out.mono (by omega))⟩ ?_
  rintro w7 ⟨g1, g2, g3, hs, ho⟩
  have p0 : w7.cell? ⟨G, 0, none⟩ = some (.int .i64 P.1) := g1.cell 0
  have p1 : w7.cell? ⟨G, 1, none⟩ = some (.int .i64 P.2) := g1.cell 1
  have q0 : w7.cell? ⟨G + 1, 0, none⟩ = some (.int .i64 Q.1) := g2.cell 0
  have q1 : w7.cell? ⟨G + 1, 1, none⟩ = some (.int .i64 Q.2) := g2.cell 1
  have HM7 := Lib.hid (And.intro g1 (And.intro g2 (And.intro g3 (And.intro hs ho))))
  clear g1 g2 g3 hs ho HM6 HV6 HG6
  have hm1 := half_bd (x := P.1 + Q.1) (by omega)
  have hm2 := half_bd (x := P.2 + Q.2) (by omega)
  obtain ⟨M, HMM⟩ : ∃ M : Pt2, Hid (M = ((P.1 + Q.1).tdiv 2, (P.2 + Q.2).tdiv 2)) := ⟨_, rfl⟩
  have bM : (-40 ≤ M.1 ∧ M.1 ≤ 40) ∧ (-40 ≤ M.2 ∧ M.2 ≤ 40) := by rw [HMM.out]; exact ⟨hm1, hm2⟩
  have em1 : (P.1 + Q.1).tdiv 2 = M.1 := by rw [HMM.out]
  have em2 : (P.2 + Q.2).tdiv 2 = M.2 := by rw [HMM.out]
  clear hm1 hm2 HMM
  go_wp2_with fail
  refine (ptK_any _ _ _).mono ?_
  rintro e w8 ⟨rfl, hs⟩
  have HM8 := Lib.hid (And.intro (hs.blk HM7.out.1) (And.intro (hs.blk HM7.out.2.1) (And.intro (hs.blk HM7.out.2.2.1) (And.intro (HM7.out.2.2.2.1.trans hs) (own_since hs HM7.out.2.2.2.2)))))
  clear hs p0 p1 q0 q1 HM7
  go_upto_region 7 with fail
  try rw [em1]
  try rw [em2]
  clear em1 em2
  obtain ⟨G8, HG8⟩ : ∃ G8, G8 = w8.heap.size := ⟨_, rfl⟩
  rw [← HG8]
  have hw8 := HM8.out.2.2.2.1.size
  refine atW (fun w' => (Blk w' G 23 #[.int .i64 P.1, .int .i64 P.2] ∧ Blk w' (G + 1) 23 #[.int .i64 Q.1, .int .i64 Q.2] ∧ Blk w' G6 23 #[.int .i64 d1, .int .i64 d2] ∧ Since w w' ∧ w'.ownsRow w.heap.size 23 2 (.slice (some ⟨g, 0, none⟩) H.length c) H.length (H.flatMap ptV)) ∧ Blk w' G8 23 #[.int .i64 M.1, .int .i64 M.2])
    ⟨⟨HM8.out.1.alloc _, HM8.out.2.1.alloc _, HM8.out.2.2.1.alloc _, HM8.out.2.2.2.1.alloc _, own_since ((Since.rfl_ _).alloc _) HM8.out.2.2.2.2⟩, Blk.new' HG8⟩ ?_
  rintro w9 ⟨hm, h8⟩
  clear HM8 HG8
  go_wp2_with fail
  refine (strips_any _).mono ?_
  rintro e wa ⟨rfl, hs⟩
  have hma : (Blk wa G 23 #[.int .i64 P.1, .int .i64 P.2] ∧ Blk wa (G + 1) 23 #[.int .i64 Q.1, .int .i64 Q.2] ∧ Blk wa G6 23 #[.int .i64 d1, .int .i64 d2] ∧ Since w wa ∧ wa.ownsRow w.heap.size 23 2 (.slice (some ⟨g, 0, none⟩) H.length c) H.length (H.flatMap ptV)) := ⟨hs.blk hm.1, hs.blk hm.2.1, hs.blk hm.2.2.1, hm.2.2.2.1.trans hs, own_since hs hm.2.2.2.2⟩
  have h8a := hs.blk h8
  clear hs hm h8
  have p0 : wa.cell? ⟨G, 0, none⟩ = some (.int .i64 P.1) := hma.1.cell 0
  have p1 : wa.cell? ⟨G, 1, none⟩ = some (.int .i64 P.2) := hma.1.cell 1
  have q0 : wa.cell? ⟨G + 1, 0, none⟩ = some (.int .i64 Q.1) := hma.2.1.cell 0
  have q1 : wa.cell? ⟨G + 1, 1, none⟩ = some (.int .i64 Q.2) := hma.2.1.cell 1
  have m0 : wa.cell? ⟨G8, 0, none⟩ = some (.int .i64 M.1) := h8a.cell 0
  have m1 : wa.cell? ⟨G8, 1, none⟩ = some (.int .i64 M.2) := h8a.cell 1
  have HMa := Lib.hid hma
  clear hma h8a
  go_wp2_with fail
  have HTb := Lib.hid (Blk.new wa 23 #[.int .i64 P.1, .int .i64 P.2, .int .i64 Q.1, .int .i64 Q.2, .int .i64 M.1, .int .i64 M.2])
  have HMb : Hid (Blk (wa.alloc (.cells #[.int .i64 P.1, .int .i64 P.2, .int .i64 Q.1, .int .i64 Q.2, .int .i64 M.1, .int .i64 M.2] 23)) G 23 #[.int .i64 P.1, .int .i64 P.2] ∧ Blk (wa.alloc (.cells #[.int .i64 P.1, .int .i64 P.2, .int .i64 Q.1, .int .i64 Q.2, .int .i64 M.1, .int .i64 M.2] 23)) (G + 1) 23 #[.int .i64 Q.1, .int .i64 Q.2] ∧ Blk (wa.alloc (.cells #[.int .i64 P.1, .int .i64 P.2, .int .i64 Q.1, .int .i64 Q.2, .int .i64 M.1, .int .i64 M.2] 23)) G6 23 #[.int .i64 d1, .int .i64 d2] ∧ Since w (wa.alloc (.cells #[.int .i64 P.1, .int .i64 P.2, .int .i64 Q.1, .int .i64 Q.2, .int .i64 M.1, .int .i64 M.2] 23)) ∧ (wa.alloc (.cells #[.int .i64 P.1, .int .i64 P.2, .int .i64 Q.1, .int .i64 Q.2, .int .i64 M.1, .int .i64 M.2] 23)).ownsRow w.heap.size 23 2 (.slice (some ⟨g, 0, none⟩) H.length c) H.length (H.flatMap ptV)) :=
    ⟨HMa.out.1.alloc _, HMa.out.2.1.alloc _, HMa.out.2.2.1.alloc _, HMa.out.2.2.2.1.alloc _, own_since ((Since.rfl_ _).alloc _) HMa.out.2.2.2.2⟩
  obtain ⟨Gt, HGt⟩ : ∃ Gt, Gt = wa.heap.size := ⟨_, rfl⟩
  rw [← HGt] at HTb ⊢
  clear HGt p0 p1 q0 q1 m0 m1 HMa
  generalize World.alloc wa _ = wb at *
  go_loopw [76] (fun v wr => ∃ k : Nat, k ≤ 3 ∧ v = .int .i64 k ∧ Hid (Since wb wr)) (fun v _ => 3 - (intOf v).toNat)
  case atStart => exact ⟨0, by omega, rfl, Since.rfl_ _⟩
  case round =>
    obtain ⟨k, hk, rfl, HR⟩ := hrel
    rcases Nat.lt_or_ge k 3 with hlt | hge
    · have hz3 : decide ((k : Int) < 3) = true := by rw [decide_eq_true_eq]; omega
      obtain ⟨z, HZ⟩ : ∃ z : Pt2, Hid (z = tri P Q M k) := ⟨_, rfl⟩
      have hk3 : k = 0 ∨ k = 1 ∨ k = 2 := by omega
      have bz : (-40 ≤ z.1 ∧ z.1 ≤ 40) ∧ (-40 ≤ z.2 ∧ z.2 ≤ 40) := by
        rw [HZ.out]
        rcases hk3 with rfl | rfl | rfl
        · exact bP
        · exact bQ
        · exact bM
      have z01 : wr.cell? ⟨Gt, k * 2, none⟩ = some (.int .i64 z.1) ∧ wr.cell? ⟨Gt, k * 2 + 1, none⟩ = some (.int .i64 z.2) := by
        rw [HZ.out]
        have hb := HR.out.blk HTb.out
        rcases hk3 with rfl | rfl | rfl
        · exact ⟨hb.cell 0, hb.cell 1⟩
        · exact ⟨hb.cell 2, hb.cell 3⟩
        · exact ⟨hb.cell 4, hb.cell 5⟩
      obtain ⟨z0, z1⟩ := z01
      have kP := HR.out.blk HMb.out.1
      have kQ := HR.out.blk HMb.out.2.1
      have kD := HR.out.blk HMb.out.2.2.1
      have p0 : wr.cell? ⟨G, 0, none⟩ = some (.int .i64 P.1) := kP.cell 0
      have p1 : wr.cell? ⟨G, 1, none⟩ = some (.int .i64 P.2) := kP.cell 1
      have q0 : wr.cell? ⟨G + 1, 0, none⟩ = some (.int .i64 Q.1) := kQ.cell 0
      have q1 : wr.cell? ⟨G + 1, 1, none⟩ = some (.int .i64 Q.2) := kQ.cell 1
      have lP := kP.lt
      have lQ := kQ.lt
      have HD := Lib.hid kD
      clear kP kQ kD hk3
      have hno1 : ¬ wr.heap.size = G := by omega
      have hno2 : ¬ wr.heap.size = G + 1 := by omega
      go_wp2_with fail
      refine (On_any P Q z _).mono ?_
      rintro e wc ⟨rfl, hs⟩
      have hza := hs.blk (Blk.new wr 23 #[.int .i64 z.1, .int .i64 z.2])
      have hA : Since wr wc := Since.trans ((Since.rfl_ wr).alloc _) hs
      have HR2 := Lib.hid (HR.out.trans hA)
      have hD2 := hA.blk HD.out
      have z0' : wc.cell? ⟨wr.heap.size, 0, none⟩ = some (.int .i64 z.1) := hza.cell 0
      have z1' : wc.cell? ⟨wr.heap.size, 1, none⟩ = some (.int .i64 z.2) := hza.cell 1
      have d0' : wc.cell? ⟨G6, 0, none⟩ = some (.int .i64 d1) := hD2.cell 0
      have d1' : wc.cell? ⟨G6, 1, none⟩ = some (.int .i64 d2) := hD2.cell 1
      clear hs hA hza hD2 z0 z1 p0 p1 q0 q1 HD HR hno1 hno2 lP lQ
      cases ho : onV P Q z
      · go_wp2_with fail
        go_roundw
        case rel => exact ⟨k + 1, by omega, by go_num, HR2⟩
        case measure => simp [intOf]; omega
      · have okP_ : okP P.1 P.2 = true := by rw [okP_iff]; omega
        have okQ_ : okP Q.1 Q.2 = true := by rw [okP_iff]; omega
        have okz : okP z.1 z.2 = true := by rw [okP_iff]; omega
        obtain ⟨hc, hd⟩ := onV_ok okP_ okQ_ okz ho
        have oks : okP (z.1 + d1) (z.2 + d2) = true := by rw [okP_iff]; omega
        have hin : ∀ i, i < H.length → 0 ≤ crs (pAt H i) (pAt H ((i + 1) % H.length)) (z.1 + d1, z.2 + d2) := fun i hi =>
          edge_near (p := P) (q := Q) (b := b) bb (HR3.out.edge i hi) (by rw [HF.out]; exact bd1) (by rw [HF.out]; exact bd2) hc hd
        have hE := strE_zero HE.out
        have hokL : ∀ q ∈ strL P Q b, okP q.1 q.2 = true := fun q hq => by
          unfold strL at hq
          rcases List.mem_append.1 hq with h | h
          · exact (octE_zero hE.1).2.2.2 q h
          · exact (octE_zero hE.2).2.2.2 q h
        have hokH : ∀ q ∈ H, okP q.1 q.2 = true := by rw [HH.out]; exact hull_ok hokL
        have hlen : H.length ≤ 1000000 := by
          have := hullV_len (strL P Q b)
          rw [strL_len] at this
          rw [HH.out]; omega
        have hag : hullV H = H := by
          have h := HR3.out
          rw [HH.out] at h ⊢
          exact hullV_again h
        have hneH : H ≠ [] := by intro h; rw [h] at n3; simp at n3
        have HHas := Lib.hid (fun (W : World) (v : Value) (hv : PtsB W v H W.heap.size) => HasH_any v H H (z.1 + d1, z.2 + d2) W hv hneH hlen hokH oks hag n3 hlen hin)
        clear hc hd hin hE hokL hokH hag hneH oks okz okP_ okQ_
        go_wp2_with fail
        refine (ptK_any _ _ _).mono ?_
        rintro e we ⟨rfl, hs⟩
        have HR4 := Lib.hid (HR2.out.trans hs)
        have hown := own_since HR4.out HMb.out.2.2.2.2
        have hHas := HHas.out we _ (own_ptsB hown rfl (hown.lt g rfl).2)
        have HHs := Lib.hid hHas
        clear hs hown hHas z0' z1' d0' d1' HR2
        go_wp2_with fail
        refine (HHs.out).mono ?_
        rintro e wf ⟨rfl, hs⟩
        have HR5 := Lib.hid (HR4.out.trans hs)
        clear hs HHs HR4
        go_wp2_with fail
        go_roundw
        case rel => exact ⟨k + 1, by omega, by go_num, HR5⟩
        case measure => simp [intOf]; omega
    · obtain rfl : k = 3 := by omega
      go_wp2_with fail
      go_ret
      exact ⟨rfl, HMb.out.2.2.2.1.trans HR.out⟩
theorem Near_walkB (v0 v1 : Value) (l k : List Int) (x y by_ : Int) (w : World) (h0 : IntsB w v0 l w.heap.size) (h1 : IntsB w v1 k w.heap.size) (_ : -9223372036854775808 ≤ x ∧ x ≤ 9223372036854775807) (_ : -9223372036854775808 ≤ y ∧ y ≤ 9223372036854775807) (_ : -9223372036854775808 ≤ by_ ∧ by_ ≤ 9223372036854775807) :
    Calls Try.prog 9 #[v0, v1, .int .i64 x, .int .i64 y, .int .i64 by_] w fun e w' => e = .returned (.bool true) ∧ Since w w' := Near_walk v0 v1 l k x y by_ w h0 h1
end Go.Proofs.Ytcckekdfeeghaaa
