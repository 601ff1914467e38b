/-
  The memory of clip.Line; the walk of its closure. Conditions: bounds of the numbers.
-/
import Derived.Test.YtcckekdfeeghaaaClipD
namespace Go.Proofs.Ytcckekdfeeghaaa
set_option linter.unusedSimpArgs false
set_option linter.unusedVariables false
open Go.RowKit Go.BigFrame
attribute [local go_sem ↓] eqPt neqPt

def ptV (p : Pt2) : List Value := [.int .i64 p.1, .int .i64 p.2]
theorem ptV_len (p : Pt2) : (ptV p).length = 2 := rfl
/-- The slice v reads as the points l, in a block of points below B. -/
def PtsB (w : World) (v : Value) (l : List Pt2) (B : Nat) : Prop :=
  ∃ a c, v = .slice a l.length c ∧ ∀ i, i < l.length → ∃ (g o : Nat) (cs : Array Value), a = some ⟨g, o, none⟩ ∧ g < B ∧ Blk w g 23 cs ∧ cs[o + i * 2]? = some (.int .i64 (pAt l i).1) ∧ cs[o + i * 2 + 1]? = some (.int .i64 (pAt l i).2)
theorem PtsB.pts {w : World} {v : Value} {l : List Pt2} {B : Nat} (h : PtsB w v l B) : PtsS w v l := by
  obtain ⟨a, c, hv, h⟩ := h
  refine ⟨a, c, hv, fun i hi => ?_⟩
  obtain ⟨g, o, cs, ha, -, hb, h1, h2⟩ := h i hi
  exact ⟨g, o, ha, by rw [hb.cell]; exact h1, by rw [hb.cell]; exact h2⟩
theorem PtsB.keep {w w' : World} {v : Value} {l : List Pt2} {B B' : Nat} (h : PtsB w v l B) (hB : B ≤ B') (k : ∀ g cs, g < B → Blk w g 23 cs → Blk w' g 23 cs) : PtsB w' v l B' := by
  obtain ⟨a, c, hv, h⟩ := h
  refine ⟨a, c, hv, fun i hi => ?_⟩
  obtain ⟨g, o, cs, ha, hg, hb, h1, h2⟩ := h i hi
  exact ⟨g, o, cs, ha, by omega, k _ _ hg hb, h1, h2⟩
theorem PtsB.one {w : World} {v : Value} {l : List Pt2} {B : Nat} (h : PtsB w v l B) : v.oneCell' = true := by
  obtain ⟨a, c, rfl, -⟩ := h
  rfl
/-- A row of one's own reads as points. -/
theorem own_pts {w : World} {b B : Nat} {v : Value} {l : List Pt2} (h : w.ownsRow b 23 2 v l.length (l.flatMap ptV)) (hB : w.heap.size ≤ B) : PtsB w v l B := by
  have h0 := h
  obtain ⟨hl, ⟨rfl, hn⟩ | ⟨g, cap, cur, rfl, hb, hg, hc, hm, hs, ht⟩⟩ := h
  · exact ⟨none, 0, by rw [hn], fun i hi => by omega⟩
  · refine ⟨some ⟨g, 0, none⟩, cap, rfl, fun i hi => ⟨g, 0, cur, rfl, ?_, hg, ?_, ?_⟩⟩
    · have := Blk.lt hg; omega
    · have h1 := flat_at ptV_len l i 0 hi (by decide)
      have : (l.flatMap ptV)[i * 2 + 0]? = cur[i * 2 + 0]? := by
        rw [← ht, List.getElem?_take, if_pos (by omega)]; simp
      simp only [Nat.zero_add, Nat.add_zero] at this h1 ⊢
      rw [← this, h1]; simp [ptV, pAt, List.getD, hi]
    · have h1 := flat_at ptV_len l i 1 hi (by decide)
      have : (l.flatMap ptV)[i * 2 + 1]? = cur[i * 2 + 1]? := by
        rw [← ht, List.getElem?_take, if_pos (by omega)]; simp
      simp only [Nat.zero_add] at this h1 ⊢
      rw [← this, h1]; simp [ptV, pAt, List.getD, hi]
/-- Behind an append to a row of one's own: another row, of another element type, is as it was. -/
theorem own_app {w w' : World} {b b2 : Nat} {e e2 : TypeId} {k k2 n n2 : Nat} {v v2 : Value} {xs xs2 : List Value} (h : w.ownsRow b e k v n xs) (ho : w.ownsRow b2 e2 k2 v2 n2 xs2) (hne : e ≠ e2) (hg : w.grownBy w' v2.ownBlock) : w'.ownsRow b e k v n xs := by
  refine h.kept hg ?_
  obtain ⟨hl, ⟨rfl, hn⟩ | ⟨g, cap, cur, rfl, hb, hgg, hc⟩⟩ := h
  · exact .inl rfl
  · right
    intro hk
    rcases ho.2 with ⟨rfl, _⟩ | ⟨g2, cap2, cur2, rfl, _, hg2, _⟩
    · simp [Value.ownBlock] at hk
    · simp [Value.ownBlock] at hk
      subst hk
      rw [hgg] at hg2
      injection hg2 with h1
      injection h1 with h2 h3
      exact hne h3
theorem Blk.grown {w w' : World} {g : Nat} {t : TypeId} {cs : Array Value} {row : Option Nat} (h : Blk w g t cs) (hg : w.grownBy w' row) (hne : some g ≠ row) : Blk w' g t cs := (hg.block g h.lt hne).trans h

/-- The memory of clip.Line: what is out, what is at hand. -/
def LStV (w0 w : World) (g5 g6 BO : Nat) (outs : List (List Pt2)) (now : List Pt2) (vout vnow : Value) (us : List Value) (B : Nat) : Prop :=
  Blk w g5 30 #[vout] ∧ Blk w g6 32 #[vnow] ∧ g5 ≠ g6 ∧ g5 < BO ∧ g6 < BO ∧ w0.heap.size ≤ g5 ∧ w0.heap.size ≤ g6 ∧ BO ≤ B ∧ B ≤ w.heap.size ∧
    w.ownsRow BO 32 1 vout outs.length us ∧ (∀ i, i < outs.length → ∃ u, us[i]? = some u ∧ PtsB w u (rAt outs i) B) ∧
    w.ownsRow B 23 2 vnow now.length (now.flatMap ptV) ∧ Since w0 w ∧ (now = [] → vnow = .slice none 0 0)
def LSt (w0 w : World) (g5 g6 BO : Nat) (outs : List (List Pt2)) (now : List Pt2) : Prop :=
  ∃ (vout vnow : Value) (us : List Value) (B : Nat), LStV w0 w g5 g6 BO outs now vout vnow us B

theorem LSt.since {w0 w w' : World} {g5 g6 BO : Nat} {outs : List (List Pt2)} {now : List Pt2} (h : LSt w0 w g5 g6 BO outs now) (k : Since w w') : LSt w0 w' g5 g6 BO outs now := by
  obtain ⟨vout, vnow, us, B, h5, h6, hne, l5, l6, m5, m6, hB, hs, ho, hr, hn, hS, hE⟩ := h
  refine ⟨vout, vnow, us, B, k.blk h5, k.blk h6, hne, l5, l6, m5, m6, hB, Nat.le_trans hs k.size, own_since k ho, fun i hi => ?_, own_since k hn, hS.trans k, hE⟩
  obtain ⟨u, hu, hp⟩ := hr i hi
  exact ⟨u, hu, hp.keep (Nat.le_refl _) fun g cs _ hb => k.blk hb⟩

theorem infoPt : (Try.prog.info? 23).map (fun i => (i.zero, i.size, i.bytes)) = some (some (.agg #[.int .i64 0, .int .i64 0]), 2, 16) := by kernel_rfl
theorem infoPts : (Try.prog.info? 32).map (fun i => (i.zero, i.size, i.bytes)) = some (some (.slice none 0 0), 1, 24) := by kernel_rfl

theorem own_slice {w : World} {b : Nat} {e : TypeId} {k n : Nat} {v : Value} {xs : List Value} (h : w.ownsRow b e k v n xs) : ∃ a c, v = .slice a n c := by
  obtain ⟨-, ⟨rfl, rfl⟩ | ⟨g, cap, cur, rfl, -⟩⟩ := h
  · exact ⟨none, 0, rfl⟩
  · exact ⟨some ⟨g, 0, none⟩, cap, rfl⟩
theorem own_ne {w : World} {b g : Nat} {e : TypeId} {k n : Nat} {v : Value} {xs : List Value} (h : w.ownsRow b e k v n xs) (hg : g < b) : some g ≠ v.ownBlock := fun hk => by
  have := h.lt g hk.symm
  omega

theorem set_grown (w : World) (p : Addr) (u : Value) : w.grownBy (w.setCell p u) (some p.block) :=
  ⟨rfl, rfl, rfl, by simp [World.setCell], fun k _ hk => Below.heap_setCell w p u k (fun e => hk (by rw [e]))⟩
theorem own_far {w : World} {b : Nat} {e : TypeId} {k n : Nat} {v : Value} {xs : List Value} (h : w.ownsRow b e k v n xs) {p : Addr} (hp : some p.block ≠ v.ownBlock) (u : Value) : (w.setCell p u).ownsRow b e k v n xs :=
  h.kept (set_grown w p u) (.inr (Ne.symm hp))
theorem blk_ne {w : World} {g g' : Nat} {t t' : TypeId} {cs cs' : Array Value} (h : Blk w g t cs) (h' : Blk w g' t' cs') (hne : t ≠ t') : g ≠ g' := by
  rintro rfl
  unfold Blk at h h'
  rw [h] at h'
  injection h' with h1
  injection h1 with h2 h3
  exact hne h3

theorem cell2_new (w : World) (x y : Value) (t : TypeId) : ∀ j u, [x, y][j]? = some u → (w.alloc (.cells #[x, y] t)).cell? ((⟨w.heap.size, 0, none⟩ : Addr).add j) = some u := by
  intro j u hu
  rcases j with _ | _ | j
  · rw [← hu]; exact (Blk.new w t #[x, y]).cell 0
  · rw [← hu]; exact (Blk.new w t #[x, y]).cell 1
  · simp at hu
theorem one2 (k k' : IntKind) (a b : Int) : ∀ u ∈ [Value.int k a, .int k' b], u.oneCell' = true := by
  intro u hu
  simp only [List.mem_cons, List.not_mem_nil, or_false] at hu
  rcases hu with rfl | rfl <;> rfl
theorem Blk.new' {w : World} {g : Nat} {t : TypeId} {cs : Array Value} (h : g = w.heap.size) : Blk (w.alloc (.cells cs t)) g t cs := by subst h; exact Blk.new w t cs
theorem Blk.pair {w : World} {g : Nat} {t : TypeId} {a b x y : Value} (h : Blk w g t #[a, b]) : Blk ((w.setCell ⟨g, 0, none⟩ x).setCell ⟨g, 1, none⟩ y) g t #[x, y] := (h.set_ 0 x).set_ 1 y

section
variable {w0 w wA w' : World} {g5 g6 BO : Nat} {outs : List (List Pt2)} {now : List Pt2} {p : Pt2} {vout vnow v' : Value} {us : List Value} {B : Nat}
/-- Behind an append to the line at hand. -/
theorem LStV.push (h : LStV w0 w g5 g6 BO outs now vout vnow us B) (hA : Since w wA) (hown : w'.ownsRow B 23 2 v' (now.length + 1) (now.flatMap ptV ++ ptV p)) (hgrow : wA.grownBy w' vnow.ownBlock) :
    LSt w0 (w'.setCell ⟨g6, 0, none⟩ v') g5 g6 BO outs (now ++ [p]) := by
  obtain ⟨h5, h6, hne, l5, l6, m5, m6, hB, hs, ho, hr, hn, hS, hE⟩ := h
  have hnA := own_since hA hn
  have hoA := own_since hA ho
  have kB : ∀ g t cs, g < B → Blk w g t cs → Blk w' g t cs := fun g t cs hg hb => (hA.blk hb).grown hgrow (own_ne hnA hg)
  have h6' := kB _ _ _ (by omega) h6
  refine ⟨vout, v', us, B, (kB _ _ _ (by omega) h5).far hne _, h6'.set_ 0 _, hne, l5, l6, m5, m6, hB, ?_, own_far (own_app hoA hnA (by decide) hgrow) (own_ne (own_app hoA hnA (by decide) hgrow) l6) _, fun i hi => ?_, ?_, ?_, fun h => by simp at h⟩
  · have := hA.size
    have := hgrow.size
    simp [World.setCell]; omega
  · obtain ⟨u, hu, hp⟩ := hr i hi
    exact ⟨u, hu, hp.keep (Nat.le_refl _) fun g cs hg hb => (kB _ _ _ hg hb).far (blk_ne (kB _ _ _ hg hb) h6' (by decide)) _⟩
  · exact own_far (own_snoc (f := ptV) hown) (own_ne (own_snoc (f := ptV) hown) (show g6 < B by omega)) _
  · refine Since.setCell ?_ m6 _
    exact Below.grown (hS.trans hA) hgrow (hS.trans hA).size fun k hk => by
      have := (hnA.lt k hk).1
      omega
theorem LStV.pushK (h : LStV w0 w g5 g6 BO outs now vout vnow us B) (hA : Since w wA) (hgrow : wA.grownBy w' vnow.ownBlock) (g : Nat) (t : TypeId) (cs : Array Value) (h1 : t ≠ 32) (h2 : t ≠ 23 ∨ now = []) (hb : Blk w g t cs) :
    Blk (w'.setCell ⟨g6, 0, none⟩ v') g t cs := by
  obtain ⟨h5, h6, hne, l5, l6, m5, m6, hB, hs, ho, hr, hn, hS, hE⟩ := h
  have hnA := own_since hA hn
  have h6' : Blk w' g6 _ _ := (hA.blk h6).grown hgrow (own_ne hnA (show g6 < B by omega))
  have hb' : Blk w' g t cs := by
    rcases h2 with h2 | h2
    · exact (hA.blk hb).app hnA h2 hgrow
    · rw [hE h2] at hgrow
      exact (hA.blk hb).grown hgrow (by simp [Value.ownBlock])
  exact hb'.far (blk_ne hb' h6' h1) _
end

def endO (outs : List (List Pt2)) (now : List Pt2) : List (List Pt2) := if 1 < now.length then outs ++ [now] else outs
theorem rAt_snoc_lt {outs : List (List Pt2)} {x : List Pt2} {i : Nat} (h : i < outs.length) : rAt (outs ++ [x]) i = rAt outs i := by unfold rAt; simp [List.getD, List.getElem?_append_left h]
theorem rAt_snoc {outs : List (List Pt2)} {x : List Pt2} : rAt (outs ++ [x]) outs.length = x := by unfold rAt; simp [List.getD]

set_option maxRecDepth 100000 in
set_option maxHeartbeats 1000000 in
theorem end_any (w0 w : World) (g5 g6 BO : Nat) (outs : List (List Pt2)) (now : List Pt2) (hl : outs.length ≤ 1000000) (hl2 : now.length ≤ 1000000) (h : LSt w0 w g5 g6 BO outs now) :
    Calls Try.prog 68 #[.pointer (some ⟨g6, 0, none⟩), .pointer (some ⟨g5, 0, none⟩)] w fun e w' => e = .returned (.tuple #[]) ∧ LSt w0 w' g5 g6 BO (endO outs now) [] ∧ ∀ (g : Nat) (t : TypeId) (cs : Array Value), t ≠ 30 → t ≠ 32 → Blk w g t cs → Blk w' g t cs := by
  obtain ⟨vout, vnow, us, B, h5, h6, hne, l5, l6, m5, m6, hB, hs, ho, hr, hn, hS, hE⟩ := h
  obtain ⟨an, cn, rfl⟩ := own_slice hn
  obtain ⟨ao, co, rfl⟩ := own_slice ho
  have c5 : w.cell? ⟨g5, 0, none⟩ = some (.slice ao outs.length co) := h5.cell 0
  have c6 : w.cell? ⟨g6, 0, none⟩ = some (.slice an now.length cn) := h6.cell 0
  have f5 := h5.frozen 0
  have f6 := h6.frozen 0
  have k5 := h5.lt
  have k6 := h6.lt
  have H5 := Lib.hid h5
  have H6 := Lib.hid h6
  have HO := Lib.hid ho
  have HN := Lib.hid hn
  have HR := Lib.hid hr
  have HS := Lib.hid hS
  clear h5 h6 ho hn hr hS
  rcases Nat.lt_or_ge 1 now.length with h1 | h1
  · have HE : Hid (endO outs now = outs ++ [now]) := if_pos h1
    have hz : decide ((1 : Int) < now.length) = true := by rw [decide_eq_true_eq]; omega
    obtain ⟨i0, hi, hz0, hz1, hz2⟩ := info_parts infoPts
    have HI := Lib.hid hi
    have HZ := Lib.hid (And.intro hz0 (And.intro hz1 hz2))
    clear hi hz0 hz1 hz2
    go_enter Try.func68, Try.ntmps68
    go_wp2_with (at_builtin; refine wpList_append_own _ rfl _ _ 30 rfl BO 32 i0 _ 1 24 Try.underlying30 HI.out HZ.out.1 HZ.out.2.1 HZ.out.2.2 rfl (by decide) _ _ _ rfl (own_since ((Since.rfl_ w).alloc _) HO.out) _ _ _ [.slice an now.length cn] rfl rfl ?c1 ?c2 ?c3 ?c4 ?c5 ?_)
    case c1 =>
      intro j u hu
      have hj : j = 0 := by
        rcases j with _ | j
        · rfl
        · simp at hu
      subst hj
      rw [← hu]
      exact (Blk.new w 32 #[.slice an now.length cn]).cell 0
    case c2 => intro u hu; rw [List.mem_singleton.1 hu]; rfl
    case c3 => show outs.length + 1 ≤ maxLen; unfold maxLen; omega
    case c4 => show (outs.length + 1) * 24 ≤ _; omega
    case c5 => simp only [World.size_alloc]; omega
    intro v' w' hown hgrow _
    obtain ⟨ao', co', rfl⟩ := own_slice hown
    have hA := (Since.rfl_ w).alloc (.cells #[.slice an now.length cn] 32)
    have hoA := own_since hA HO.out
    have j5 := Lib.hid ((hA.blk H5.out).grown hgrow (own_ne hoA l5))
    have j6 := Lib.hid ((hA.blk H6.out).grown hgrow (own_ne hoA l6))
    have d5 : w'.cell? ⟨g5, 0, none⟩ = some (.slice ao outs.length co) := j5.out.cell 0
    have d6 : w'.cell? ⟨g6, 0, none⟩ = some (.slice an now.length cn) := j6.out.cell 0
    have e5 := j5.out.frozen 0
    have e6 := j6.out.frozen 0
    have HOW := Lib.hid hown
    have HNW := Lib.hid (own_app (own_since hA HN.out) hoA (by decide) hgrow)
    have HRW : Hid (∀ (g : Nat) (t : TypeId) (cs : Array Value), t ≠ 32 → Blk w g t cs → Blk w' g t cs) := fun g t cs ht hb => (hA.blk hb).app hoA ht hgrow
    have HSW : Hid (Since w0 w') := Below.grown (HS.out.trans hA) hgrow (HS.out.trans hA).size fun k hk => by
      have := (hoA.lt k hk).1
      omega
    have hsz : w.heap.size ≤ w'.heap.size := Nat.le_trans hA.size hgrow.size
    clear hA hoA hown hgrow
    go_wp2
    go_end0
    refine ⟨rfl, ?_⟩
    rw [HE.out]
    have g56 : Blk ((w'.setCell ⟨g5, 0, none⟩ (.slice ao' (outs.length + 1) co')).setCell ⟨g6, 0, none⟩ (.slice none 0 0)) g5 30 #[.slice ao' (outs.length + 1) co'] := (j5.out.set_ 0 _).far hne _
    have g65 : Blk ((w'.setCell ⟨g5, 0, none⟩ (.slice ao' (outs.length + 1) co')).setCell ⟨g6, 0, none⟩ (.slice none 0 0)) g6 32 #[.slice none 0 0] := (j6.out.far hne.symm _).set_ 0 _
    have hkeepA : ∀ (g : Nat) (t : TypeId) (cs : Array Value), t ≠ 30 → t ≠ 32 → Blk w' g t cs → Blk ((w'.setCell ⟨g5, 0, none⟩ (.slice ao' (outs.length + 1) co')).setCell ⟨g6, 0, none⟩ (.slice none 0 0)) g t cs := fun g t cs h1 h2 hb =>
      (hb.far (blk_ne hb j5.out h1) _).far (blk_ne hb j6.out h2) _
    have hkeep := fun (g : Nat) (cs : Array Value) => hkeepA g 23 cs (by decide) (by decide)
    refine ⟨?_, fun g t cs h1 h2 hb => hkeepA g t cs h1 h2 (HRW.out g t cs h2 hb)⟩
    refine ⟨_, _, us ++ [.slice an now.length cn], w'.heap.size, g56, g65, hne, l5, l6, m5, m6, by omega, by simp [World.setCell], ?_, ?_, World.ownsRow_nil _ _ _ _, (HSW.out.setCell m5 _).setCell m6 _, fun _ => rfl⟩
    · rw [List.length_append, List.length_singleton]
      exact own_far (own_far HOW.out (own_ne HOW.out l5) _) (own_ne HOW.out l6) _
    · intro i hi
      have hul : us.length = outs.length := by have := HO.out.1; omega
      rcases Nat.lt_or_ge i outs.length with h | h
      · obtain ⟨u, hu, hp⟩ := HR.out i h
        rw [rAt_snoc_lt h]
        exact ⟨u, by rw [List.getElem?_append_left (by omega)]; exact hu, hp.keep (by omega) fun g cs _ hb => hkeep g cs (HRW.out g _ cs (by decide) hb)⟩
      · obtain rfl : i = outs.length := by rw [List.length_append, List.length_singleton] at hi; omega
        rw [rAt_snoc]
        exact ⟨_, by rw [List.getElem?_append_right (by omega), hul, Nat.sub_self]; rfl, (own_pts HNW.out (Nat.le_refl _)).keep (Nat.le_refl _) fun g cs _ hb => hkeep g cs hb⟩
  · have HE : Hid (endO outs now = outs) := if_neg (by omega)
    have hz : decide ((1 : Int) < now.length) = false := by rw [decide_eq_false_iff_not]; omega
    go_enter Try.func68, Try.ntmps68
    go_wp2
    go_end0
    refine ⟨rfl, ?_⟩
    rw [HE.out]
    have hkeepA : ∀ (g : Nat) (t : TypeId) (cs : Array Value), t ≠ 30 → t ≠ 32 → Blk w g t cs → Blk (w.setCell ⟨g6, 0, none⟩ (.slice none 0 0)) g t cs := fun g t cs h1 h2 hb => hb.far (blk_ne hb H6.out h2) _
    have hkeep := fun (g : Nat) (cs : Array Value) => hkeepA g 23 cs (by decide) (by decide)
    refine ⟨?_, hkeepA⟩
    refine ⟨_, .slice none 0 0, us, B, H5.out.far hne _, H6.out.set_ 0 _, hne, l5, l6, m5, m6, hB, by simpa [World.setCell] using hs, own_far HO.out (own_ne HO.out l6) _, ?_, World.ownsRow_nil _ _ _ _, HS.out.setCell m6 _, fun _ => rfl⟩
    intro i hi
    obtain ⟨u, hu, hp⟩ := HR.out i hi
    exact ⟨u, hu, hp.keep (Nat.le_refl _) fun g cs _ hb => hkeep g cs hb⟩

end Go.Proofs.Ytcckekdfeeghaaa
