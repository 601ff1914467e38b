/-
  An append to a row of one's own within a region that draws its order. Conditions: bounds of the numbers.
-/
import Derived.Test.YtcckekdfeeghaaaFactsT
import Derived.Laws.AppendOwn
namespace Go.Proofs.Ytcckekdfeeghaaa
set_option linter.unusedSimpArgs false
set_option linter.unusedVariables false
open Go.RowKit Go.BigFrame

section
variable [Tgt] {P : Program}
/-- What an append yields: a row that stays, whatever comes up in the region. -/
def RApp (base : Nat) (e : TypeId) (size k : Nat) (ys : List Value) (v : Value) (w : World) : Prop :=
  ∃ g cap cs, v = .slice (some ⟨g, 0, none⟩) k cap ∧ Blk w g e cs ∧ (Tgt.T g = none ∨ Tgt.T g = some (.cells cs e (0, 0))) ∧ base ≤ g ∧ k ≤ cap ∧ cap ≤ maxLen ∧ cs.size = cap * size ∧ cs.toList.take (k * size) = ys
theorem RApp.keep {base : Nat} {e : TypeId} {size k : Nat} {ys : List Value} {v : Value} {w w' : World} (h : RApp base e size k ys v w) (hs : SinceT w w') : RApp base e size k ys v w' := by
  obtain ⟨g, cap, cs, hv, hb, ht, h⟩ := h
  refine ⟨g, cap, cs, hv, ?_, ht, h⟩
  rcases ht with ht | ht
  · exact hs.blk ht hb
  · exact hs.blkT ht hb
theorem RApp.own {base : Nat} {e : TypeId} {size k : Nat} {ys : List Value} {v : Value} {w : World} (h : RApp base e size k ys v w) (hl : ys.length = k * size) : w.ownsRow base e size v k ys := by
  obtain ⟨g, cap, cs, hv, hb, -, h⟩ := h
  exact ⟨hl, .inr ⟨g, cap, cs, hv, h.1, hb, h.2.1, h.2.2.1, h.2.2.2.1, h.2.2.2.2⟩⟩
/-- What is known of the row while the region runs: it is as it was, or the news lie behind. -/
def AppIn (w : World) (g : Nat) (e : TypeId) (N q : Nat) (xs D : List Value) : Prop := ∃ cx, Blk w g e cx ∧ cx.size = N ∧ cx.toList.take xs.length = xs ∧ cx.toList.drop q = D
theorem appIn_of {w w' : World} {g : Nat} {e : TypeId} {cur : Array Value} {xs news : List Value} (hs : SinceT w w') (hb : Blk w g e cur) (hx : cur.toList.take xs.length = xs)
    (hT : Tgt.T g = none ∨ Tgt.T g = some (.cells (xs ++ news ++ cur.toList.drop (xs.length + news.length)).toArray e (0, 0)) ∧ xs.length + news.length ≤ cur.size) : AppIn w' g e cur.size (xs.length + news.length) xs (cur.toList.drop (xs.length + news.length)) := by
  rcases hs.2.2.2.2 g hb.lt with h | ⟨o, h1, h2⟩
  · exact ⟨cur, h.trans hb, rfl, hx, rfl⟩
  · rcases hT with hT | ⟨hT, hf⟩
    · rw [hT] at h1; cases h1
    · rw [hT] at h1; injection h1 with h1; subst h1
      refine ⟨_, h2, ?_, ?_, ?_⟩
      · simp; omega
      · simp
      · simp only [List.append_assoc]
        rw [← List.append_assoc, List.drop_append, List.drop_of_length_le (by simp)]
        simp
theorem runVT_append {w : World} {o : Oper} {a : Act} (s x : Operand) (t : TypeId) (ho : o.op = .call { callee := .builtin .append, args := #[s, x], argTypes := #[t, t] })
    (base : Nat) (e : TypeId) (i : TypeInfo) (z : Value) (size bytes : Nat) (ht : P.underlying t = some (.slice e)) (hi : P.info? e = some i) (hz : i.zero = some z)
    (hsize : i.size = size) (hby : i.bytes = bytes) (hzs : z.cells.size = size) (hsz : 0 < size)
    (g n cap : Nat) (xs D : List Value) (hs : a.eval s = .slice (some ⟨g, 0, none⟩) n cap) (hxl : xs.length = n * size)
    (ad : Addr) (m c : Nat) (news : List Value) (hx : a.eval x = .slice (some ad) m c) (hl : news.length = m * size) (hnews : ∀ j u, news[j]? = some u → w.cell? (ad.add j) = some u) (h1 : ∀ u ∈ news, u.oneCell' = true)
    (hb : AppIn w g e (cap * size) (xs.length + news.length) xs D) (hnc : n ≤ cap) (hcm : cap ≤ maxLen) (hbg : base ≤ g) (hT : n + m ≤ cap → Tgt.T g = some (.cells (xs ++ news ++ D).toArray e (0, 0)))
    (h63 : n + m ≤ maxLen) (hbytes : (n + m) * bytes ≤ 140737488355328) (hbase : base ≤ w.heap.size) (hTb : ∀ g, w.heap.size ≤ g → Tgt.T g = none) :
    runVT P o a w fun v' w' => RApp base e size (n + m) (xs ++ news) v' w' ∧ SinceT w w' := by
  subst hsize
  subst hby
  have hsmall : n + m ≤ 9223372036854775807 := by simp only [maxLen] at h63; omega
  obtain ⟨cx, hg, hcs, htake, hdrop⟩ := hb
  rw [hxl] at htake
  have hown : w.ownsRow base e i.size (.slice (some ⟨g, 0, none⟩) n cap) n xs := ⟨hxl, .inr ⟨g, cap, cx, rfl, hbg, hg, hnc, hcm, hcs, htake⟩⟩
  have hlen : (xs ++ news).length = (n + m) * i.size := by rw [List.length_append, hxl, hl, Nat.add_mul]
  unfold runVT execOp
  by_cases hroom : n + m ≤ cap
  · have hfit : n * i.size + news.length ≤ cx.size := by rw [hl, hcs, ← Nat.add_mul]; exact Nat.mul_le_mul_right _ hroom
    have hr := run_append_room (P := P) w t o.type e i ht hi g n cap cx hg ad m c news hl hnews h1 hroom hfit
    simp only [ho, resolve, invoke, builtin, Sem.run_bind, Sem.run_pure, Result.andThen_ok, List.map_toArray, List.map_cons, List.map_nil, hs, hx, hr]
    have e1 : (cx.toList.take (n * i.size) ++ news ++ cx.toList.drop (n * i.size + news.length)) = xs ++ news ++ D := by
      rw [htake, ← hdrop, hxl]
    rw [e1]
    have hb' : Blk (w.setRow g (xs ++ news ++ D).toArray) g e (xs ++ news ++ D).toArray := setRow_heap w g cx _ e _ hg
    refine ⟨⟨g, cap, _, rfl, hb', .inr (hT hroom), hbg, hroom, hcm, ?_, ?_⟩, rfl, rfl, rfl, by simp, fun k hk => ?_⟩
    · rw [← hcs, ← hdrop]
      simp only [List.size_toArray, List.length_append, List.length_drop, Array.length_toList]
      omega
    · rw [← hlen]
      exact List.take_left
    · by_cases h : k = g
      · subst h; exact .inr ⟨_, hT hroom, hb'⟩
      · exact .inl (setRow_other w g k _ h)
  · have holds : ∀ j u, xs[j]? = some u → w.cell? ((⟨g, 0, none⟩ : Addr).add j) = some u := hown.cells (g := g) rfl
    have hr := run_append_grow (P := P) w t o.type e i z ht hi hz ⟨g, 0, none⟩ n cap xs hxl holds ad m c news hl hnews (by omega) (by omega) (growslice_fits (by omega) hbytes)
    simp only [ho, resolve, invoke, builtin, Sem.run_bind, Sem.run_pure, Result.andThen_ok, List.map_toArray, List.map_cons, List.map_nil, hs, hx, hr]
    have hge := grownCap_ge w (n + m) cap e
    refine ⟨⟨w.heap.size, _, _, rfl, heap_alloc_new w.drew _, .inl (hTb _ (Nat.le_refl _)), hbase, hge, grownCap_le_maxLen w (n + m) cap e h63, ?_, ?_⟩, .of ((Since.rfl_ w).drew.alloc _)⟩
    · simp only [Array.size_append, List.size_toArray, size_zeroCells, hzs, hxl, hl, ← Nat.add_mul]
      congr 1
      omega
    · simp only [Array.toList_append, List.append_assoc]
      rw [← List.append_assoc, ← hlen]
      exact List.take_left
end
end Go.Proofs.Ytcckekdfeeghaaa
