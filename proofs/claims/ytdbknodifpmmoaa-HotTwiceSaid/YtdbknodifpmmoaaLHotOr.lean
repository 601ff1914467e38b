/-
  Plain law of HotOrder: the order and the directions of segments do not matter. Conditions: valid segments.
-/
import Derived.Test.YtdbknodifpmmoaaK19
namespace Go.Proofs.Ytdbknodifpmmoaa
set_option linter.unusedSimpArgs false
set_option linter.unusedVariables false

theorem sgn_neg (n : Int) : sgnI (-n) = -sgnI n := by unfold sgnI; omega
theorem dir_swap (a b p q : Pt2) : dirV b a p q = dirV a b q p := by
  have e1 : sgnI (a.1 - b.1) = -sgnI (b.1 - a.1) := by rw [← sgn_neg]; congr 1; omega
  have e2 : sgnI (a.2 - b.2) = -sgnI (b.2 - a.2) := by rw [← sgn_neg]; congr 1; omega
  unfold dirV
  rw [e1, e2]
  have f1 : -sgnI (b.1 - a.1) * (p.1 - q.1) = sgnI (b.1 - a.1) * (q.1 - p.1) := by grind
  have f2 : -sgnI (b.2 - a.2) * (p.2 - q.2) = sgnI (b.2 - a.2) * (q.2 - p.2) := by grind
  rw [f1, f2]
theorem thr_rev {H : List Pt2} (hH : HotOk H) {a b : Pt2} (ha : okP a.1 a.2 = true) (hb : okP b.1 b.2 = true) : thrL b a H = (thrL a b H).reverse := by
  refine (thru_one hb ha hH.ok hH.nd ?_).symm
  obtain ⟨h1, h2⟩ := thr_thru (a := a) (b := b) (H := H)
  refine ⟨?_, ?_⟩
  · have e : H.filter (metB b a) = H.filter (metB a b) := List.filter_congr fun x hx => (metB_rev ha hb (hH.ok x hx)).symm
    rw [e]
    exact (List.reverse_perm _).trans h1
  · rw [List.pairwise_reverse]
    exact h2.imp fun {x y} h => by rw [dir_swap]; exact h
theorem adj_rev {C : List Pt2} {p q : Pt2} (h : Adj C p q) : Adj C.reverse q p := by
  obtain ⟨u, v, rfl⟩ := h
  exact ⟨v.reverse, u.reverse, by simp⟩
theorem ChainOk.rev {H C : List Pt2} (h : ChainOk H C) : ChainOk H C.reverse :=
  ⟨by simpa using h.ne, fun p hp => h.mem p (by simpa using hp), fun p q k => by
    have := adj_rev k
    rw [List.reverse_reverse] at this
    exact (h.adj q p this).symm⟩
theorem next_one (H : List Pt2) (x : Pt2) : nextC H [x] = [x] := by simp [nextC, nextG, pAt]
theorem next_tail (H : List Pt2) (y : Pt2) (v : List Pt2) : nextC H (y :: v) = y :: (nextC H (y :: v)).tail := by simp [nextC, pAt]
theorem next_app {H : List Pt2} (hH : HotOk H) : ∀ {u : List Pt2} {y : Pt2} {v : List Pt2}, ChainOk H (u ++ y :: v) → nextC H (u ++ y :: v) = nextC H (u ++ [y]) ++ (nextC H (y :: v)).tail
  | [], y, v, h => by
    show nextC H (y :: v) = nextC H [y] ++ _
    rw [next_one]; exact next_tail H y v
  | [a], y, v, h => by
    obtain ⟨m, hm⟩ := ChainOk.ends hH h
    show nextC H (a :: y :: v) = nextC H [a, y] ++ _
    rw [nextC_cons hm, nextC_cons hm, next_one, List.append_assoc]
    exact congrArg _ (next_tail H y v)
  | a :: b :: u, y, v, h => by
    obtain ⟨m, hm⟩ := ChainOk.ends hH h
    have ih := next_app hH (u := b :: u) (y := y) (v := v) h.tail
    show nextC H (a :: b :: (u ++ y :: v)) = nextC H (a :: b :: (u ++ [y])) ++ _
    rw [nextC_cons hm, nextC_cons hm, List.append_assoc]
    exact congrArg _ ih
theorem next_rev {H : List Pt2} (hH : HotOk H) : ∀ {C : List Pt2}, ChainOk H C → nextC H C.reverse = (nextC H C).reverse
  | [], h => absurd rfl h.ne
  | [x], h => by rw [List.reverse_singleton, next_one]; rfl
  | x :: y :: r, h => by
    obtain ⟨m, hm⟩ := h.ends hH
    have ih := next_rev hH h.tail
    have hr := h.rev
    have e : (x :: y :: r).reverse = r.reverse ++ y :: [x] := by simp
    rw [e] at hr ⊢
    have hox := hH.ok x (h.mem x (by simp))
    have hoy := hH.ok y (h.mem y (by simp))
    have hm2 : thrL y x H = y :: (m.reverse ++ [x]) := by rw [thr_rev hH hox hoy, hm]; simp
    have e2 : (y :: r).reverse = r.reverse ++ [y] := by simp
    rw [e2] at ih
    rw [next_app hH hr, ih, nextC_cons hm2, nextC_cons hm, next_one]
    simp
/-- The same chains, in any order and direction. -/
def SameC (cs ds : List (List Pt2)) : Prop := (∀ C ∈ cs, C ∈ ds ∨ C.reverse ∈ ds) ∧ ∀ C ∈ ds, C ∈ cs ∨ C.reverse ∈ cs
theorem ord_comm {p q : Pt2} (h : p ≠ q) : ordE p q = ordE q p := by
  have h1 := ord_lx p q h
  have h2 := ord_lx q p h.symm
  rcases ordE_cases p q with e | e <;> rcases ordE_cases q p with f | f <;> rw [e] at h1 ⊢ <;> rw [f] at h2 ⊢
  · exact (lx_asy h1 h2).elim
  · exact (lx_asy h1 h2).elim
theorem same_sub {cs ds : List (List Pt2)} (hc : Inv cs) (h : ∀ C ∈ cs, C ∈ ds ∨ C.reverse ∈ ds) {s : Sg} (hs : s ∈ edgL cs) : s ∈ edgL ds := by
  obtain ⟨C, hC, p, q, k, rfl⟩ := edg_mem.1 hs
  rcases h C hC with m | m
  · exact edg_mem.2 ⟨C, m, p, q, k, rfl⟩
  · exact edg_mem.2 ⟨_, m, q, p, adj_rev k, ord_comm (hc.adj C hC p q k)⟩
theorem SameC.edg {cs ds : List (List Pt2)} (hc : Inv cs) (hd : Inv ds) (h : SameC cs ds) : edgL cs = edgL ds := edg_ext fun s => ⟨same_sub hc h.1, same_sub hd h.2⟩
theorem SameC.step {cs ds : List (List Pt2)} (hc : Inv cs) (hd : Inv ds) (h : SameC cs ds) : SameC (stepC cs) (stepC ds) := by
  have e := h.edg hc hd
  refine ⟨fun C' hC' => ?_, fun C' hC' => ?_⟩
  · obtain ⟨C, hC, rfl⟩ := List.mem_map.1 hC'
    rcases h.1 C hC with m | m
    · exact .inl (List.mem_map.2 ⟨C, m, by rw [e]⟩)
    · exact .inr (List.mem_map.2 ⟨C.reverse, m, by rw [← e, next_rev (hot_ok hc.eok) (hc.chain hC)]⟩)
  · obtain ⟨C, hC, rfl⟩ := List.mem_map.1 hC'
    rcases h.2 C hC with m | m
    · exact .inl (List.mem_map.2 ⟨C, m, by rw [e]⟩)
    · exact .inr (List.mem_map.2 ⟨C.reverse, m, by rw [e, next_rev (hot_ok hd.eok) (hd.chain hC)]⟩)
theorem SameC.iter {cs ds : List (List Pt2)} (hc : Inv cs) (wc : Ways cs) (hd : Inv ds) (wd : Ways ds) (h : SameC cs ds) : ∀ n, SameC (iterC n cs) (iterC n ds)
  | 0 => h
  | n + 1 => (SameC.iter hc wc hd wd h n).step (iter_inv hc wc n).1 (iter_inv hd wd n).1
theorem iter_still {cs : List (List Pt2)} {N : Nat} (h : iterC (N + 1) cs = iterC N cs) : ∀ k, iterC (N + k) cs = iterC N cs
  | 0 => rfl
  | k + 1 => by
    show stepC (iterC (N + k) cs) = _
    rw [iter_still h k]; exact h
theorem run_fix {cs : List (List Pt2)} (hc : Inv cs) (wc : Ways cs) {N : Nat} (hr : RunC cs N) : iterC (N + 1) cs = iterC N cs := fixed_of (iter_inv hc wc N).1 hr.last
/-- The order and the directions of segments do not matter. -/
theorem order_law {l m : List Sg} (hl : ∀ s ∈ l, SgOk s) (hm : ∀ s ∈ m, SgOk s) (h1 : ∀ s ∈ l, s ∈ m ∨ (s.2, s.1) ∈ m) (h2 : ∀ s ∈ m, s ∈ l ∨ (s.2, s.1) ∈ l) {N M : Nat} (hN : RunC (cs0 l) N) (hM : RunC (cs0 m) M) :
    edgL (iterC (N + 1) (cs0 l)) = edgL (iterC (M + 1) (cs0 m)) := by
  obtain ⟨hc, wc⟩ := cs0_inv hl
  obtain ⟨hd, wd⟩ := cs0_inv hm
  have hs : SameC (cs0 l) (cs0 m) := by
    have key : ∀ {l m : List Sg}, (∀ s ∈ l, s ∈ m ∨ (s.2, s.1) ∈ m) → ∀ C ∈ cs0 l, C ∈ cs0 m ∨ C.reverse ∈ cs0 m := fun {l m} h C hC => by
      obtain ⟨s, hs, rfl⟩ := List.mem_map.1 hC
      rcases h s hs with k | k
      · exact .inl (List.mem_map.2 ⟨s, k, rfl⟩)
      · exact .inr (List.mem_map.2 ⟨_, k, by simp⟩)
    exact ⟨key h1, key h2⟩
  have f1 := run_fix hc wc hN
  have f2 := run_fix hd wd hM
  have e1 := iter_still f1 (M + 1)
  have e2 := iter_still f2 (N + 1)
  have e3 := (hs.iter hc wc hd wd (N + M + 1)).edg (iter_inv hc wc _).1 (iter_inv hd wd _).1
  rw [f1, f2, ← e1, ← e2, show N + (M + 1) = N + M + 1 by omega, show M + (N + 1) = N + M + 1 by omega]
  exact e3
end Go.Proofs.Ytdbknodifpmmoaa
