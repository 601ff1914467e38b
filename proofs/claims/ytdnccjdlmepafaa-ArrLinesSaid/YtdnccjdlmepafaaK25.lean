/-
  An argument of type api.Map, read as data. Conditions: those that each lemma names.
-/
import Derived.Test.YtdnccjdlmepafaaK24
import Derived.Test.YtdnccjdlmepafaaK23
section
namespace Go.Proofs.Ytdnccjdlmepafaa
set_option linter.unusedSimpArgs false
set_option linter.unusedVariables false
set_option linter.constructorNameAsVariable false
open Go.RowKit Go.BigFrame
open Go.ChangeShapes Go.WideShapes Go.ChangeAt Go.RowKit Go.Joins

theorem cellsHK : Try.prog.cellsOf 38 = 4 := by kernel_rfl
theorem cellsMK : Try.prog.cellsOf 26 = 3 := by kernel_rfl
theorem sized_struct {H : Type} {P : Program} {ts : List TypeId} {ds parts : List (DataW H)} {t : TypeId} {fs : Array Field} (h : (DataW.weightsEach P ts ds).all (· ≤ reachBytes) = true) {j : Nat} (ht : ts[j]? = some t) (hd : ds[j]? = some (.agg parts)) (hu : P.underlying t = some (.struct fs)) :
    (DataW.weightsEach P (fs.toList.map (·.type)) parts).all (· ≤ reachBytes) = true :=
  List.all_eq_true.2 fun n hn => List.all_eq_true.1 h n (DataW.weights_mem_each ht hd n (by simp only [DataW.weights, hu]; exact hn))
theorem plain_addr {W : World} {a : Addr} {u : Value} (h0 : W.cell? a = some u) : a = ⟨a.block, a.off, none⟩ := by
  obtain ⟨b, o, s⟩ := a
  unfold World.cell? at h0
  split at h0
  · split at h0
    · cases h0
    · next h1 => simp at h1; rw [h1]
  · cases h0
section
variable {H : Type} {enc : TypeId × Value → H} {W : World} {v : Value} {d : DataW H} {p : List MemPlace}
set_option maxRecDepth 100000 in
theorem half_open {m : Nat} {c0 c1 c2 c3 : Value} {y : DataW H × List MemPlace} (h : DataW.trod enc Try.prog W 0 (fun _ => true) true m 38 [c0, c1, c2, c3] = some y) : ∃ a b c d, c0 = .int .i64 a ∧ c1 = .int .i64 b ∧ c2 = .int .i64 c ∧ c3 = .int .i64 d := by
  obtain ⟨y0, y1, y2, y3, n, -, -, h0, h1, h2, h3⟩ := trod_struct4 Try.underlying38 h
  obtain ⟨a, e0, -, -⟩ := DataW.trod_int Try.underlying3 h0
  obtain ⟨b, e1, -, -⟩ := DataW.trod_int Try.underlying3 h1
  obtain ⟨c, e2, -, -⟩ := DataW.trod_int Try.underlying3 h2
  obtain ⟨d, e3, -, -⟩ := DataW.trod_int Try.underlying3 h3
  rw [cellsIK] at e0 e1 e2 e3
  simp at e0 e1 e2 e3
  exact ⟨a, b, c, d, e0, e1, e2, e3⟩
set_option maxRecDepth 100000 in
theorem halfs_of {m : Nat} {y : DataW H × List MemPlace} (h : DataW.trod enc Try.prog W 0 (fun _ => true) true m 23 [v] = some y) (hsz : ∀ es sp, y.1 = .slice es sp → (es.length + sp.length) * Try.prog.bytesOf 38 ≤ reachBytes) : ∃ l : List Hf, l.length ≤ 4398046510976 ∧ HvsS W v l := by
  rcases Go.Deep.open_slice Try.underlying23 h with ⟨hv, -⟩ | ⟨a, len, cap, m', n', D, Pl, hv, -, hl, hm, hmm, hd, hx⟩
  · injection hv with hv
    rw [hv]
    exact ⟨[], by simp, none, 0, rfl, fun i hi => absurd hi (Nat.not_lt_zero _)⟩
  · injection hv with hv
    rw [hv]
    clear h
    have hlen : len ≤ 4398046510976 := by
      have := hsz _ _ (by rw [hd])
      rw [show Try.prog.bytesOf 38 = 32 from by kernel_rfl] at this
      unfold reachBytes at this
      simp only [List.length_map, List.length_range] at this
      omega
    simp only [if_true] at hmm
    subst hmm
    rw [cellsHK] at hx
    have each : ∀ i, i < len → ∃ q : Hf, a = ⟨a.block, a.off, none⟩ ∧ W.cell? ⟨a.block, a.off + i * 4, none⟩ = some (.int .i64 q.1) ∧ W.cell? ⟨a.block, a.off + i * 4 + 1, none⟩ = some (.int .i64 q.2.1) ∧ W.cell? ⟨a.block, a.off + i * 4 + 2, none⟩ = some (.int .i64 q.2.2.1) ∧ W.cell? ⟨a.block, a.off + i * 4 + 3, none⟩ = some (.int .i64 q.2.2.2) := by
      intro i hi
      obtain ⟨cs0, h01, -⟩ := hx 0 (by omega)
      obtain ⟨-, hl0, hc0⟩ := World.cells?_some h01
      have hpl : a = ⟨a.block, a.off, none⟩ := by
        have := hc0 0 (by omega)
        have ha : (a.add (0 * 4)).add 0 = a := rfl
        rw [ha] at this
        match cs0, hl0 with
        | u :: _, _ => exact plain_addr this
      obtain ⟨cs', h1, h2⟩ := hx i (by omega)
      obtain ⟨-, hln, hc⟩ := World.cells?_some h1
      match cs', hln with
      | [c0, c1, c2, c3], _ =>
        obtain ⟨x, y, z, u, rfl, rfl, rfl, rfl⟩ := half_open h2
        have k0 := hc 0 (by omega)
        have k1 := hc 1 (by omega)
        have k2 := hc 2 (by omega)
        have k3 := hc 3 (by omega)
        rw [hpl] at k0 k1 k2 k3
        simp only [addr_add] at k0 k1 k2 k3
        exact ⟨(x, y, z, u), hpl, by simpa using k0, by simpa using k1, by simpa using k2, by simpa using k3⟩
    obtain ⟨q, hq⟩ := Go.Deep.choose_lt each
    refine ⟨(List.range len).map q, by simpa using hlen, some a, m', by simp, fun i hi => ?_⟩
    have hi' : i < len := by simpa using hi
    obtain ⟨hpl, q0, q1, q2, q3⟩ := hq i hi'
    have e : hAt ((List.range len).map q) i = q i := by simp [hAt, List.getD, hi']
    rw [e]
    exact ⟨a.block, a.off, by rw [← hpl], q0, q1, q2, q3⟩
set_option maxRecDepth 100000 in
theorem mpts_of {m : Nat} {y : DataW H × List MemPlace} (h : DataW.trod enc Try.prog W 0 (fun _ => true) true m 22 [v] = some y) (hsz : ∀ es sp, y.1 = .slice es sp → (es.length + sp.length) * Try.prog.bytesOf 34 ≤ reachBytes) : ∃ l : List Pt2, l.length ≤ 1000000000000000 ∧ PtsS W v l := by
  rcases Go.Deep.open_slice Try.underlying22 h with ⟨hv, -⟩ | ⟨a, len, cap, m', n', D, Pl, hv, -, hl, hm, hmm, hd, hx⟩
  · injection hv with hv
    rw [hv]
    exact ⟨[], by simp, none, 0, rfl, fun i hi => absurd hi (Nat.not_lt_zero _)⟩
  · injection hv with hv
    rw [hv]
    clear h
    have hlen : len ≤ 1000000000000000 := by
      have := hsz _ _ (by rw [hd])
      rw [show Try.prog.bytesOf 34 = 16 from by kernel_rfl] at this
      unfold reachBytes at this
      simp only [List.length_map, List.length_range] at this
      omega
    simp only [if_true] at hmm
    subst hmm
    rw [cellsPK] at hx
    have each : ∀ i, i < len → ∃ q : Pt2, a = ⟨a.block, a.off, none⟩ ∧ W.cell? ⟨a.block, a.off + i * 2, none⟩ = some (.int .i64 q.1) ∧ W.cell? ⟨a.block, a.off + i * 2 + 1, none⟩ = some (.int .i64 q.2) := by
      intro i hi
      obtain ⟨cs0, h01, -⟩ := hx 0 (by omega)
      obtain ⟨-, hl0, hc0⟩ := World.cells?_some h01
      have hpl : a = ⟨a.block, a.off, none⟩ := by
        have := hc0 0 (by omega)
        have ha : (a.add (0 * 2)).add 0 = a := rfl
        rw [ha] at this
        match cs0, hl0 with
        | u :: _, _ => exact plain_addr this
      obtain ⟨cs', h1, h2⟩ := hx i (by omega)
      obtain ⟨-, hln, hc⟩ := World.cells?_some h1
      match cs', hln with
      | [c0, c1], _ =>
        obtain ⟨x, y, rfl, rfl⟩ := pt_open h2
        have k0 := hc 0 (by omega)
        have k1 := hc 1 (by omega)
        rw [hpl] at k0 k1
        simp only [addr_add] at k0 k1
        exact ⟨(x, y), hpl, by simpa using k0, by simpa using k1⟩
    obtain ⟨q, hq⟩ := Go.Deep.choose_lt each
    refine ⟨(List.range len).map q, by simpa using hlen, some a, m', by simp, fun i hi => ?_⟩
    have hi' : i < len := by simpa using hi
    obtain ⟨hpl, q0, q1⟩ := hq i hi'
    have e : pAt ((List.range len).map q) i = q i := by simp [pAt, List.getD, hi']
    rw [e]
    exact ⟨a.block, a.off, by rw [← hpl], q0, q1⟩
set_option maxRecDepth 100000 in
theorem mints_of {m : Nat} {y : DataW H × List MemPlace} (h : DataW.trod enc Try.prog W 0 (fun _ => true) true m 24 [v] = some y) : ∃ l : List Int, l.length ≤ maxLen ∧ IntS W v l := by
  rcases Go.Deep.open_slice Try.underlying24 h with ⟨hv, -⟩ | ⟨a, len, cap, m', n', D, Pl, hv, -, hl, hm, hmm, hd, hx⟩
  · injection hv with hv
    rw [hv]
    exact ⟨[], by simp, none, 0, rfl, fun i hi => absurd hi (Nat.not_lt_zero _)⟩
  · injection hv with hv
    rw [hv]
    clear h
    have hlen : len ≤ maxLen := Nat.le_trans hl hm
    simp only [if_true] at hmm
    subst hmm
    rw [cellsIK] at hx
    have each : ∀ i, i < len → ∃ q : Int, a = ⟨a.block, a.off, none⟩ ∧ W.cell? ⟨a.block, a.off + i, none⟩ = some (.int .i64 q) := by
      intro i hi
      obtain ⟨cs0, h01, -⟩ := hx 0 (by omega)
      obtain ⟨-, hl0, hc0⟩ := World.cells?_some h01
      have hpl : a = ⟨a.block, a.off, none⟩ := by
        have := hc0 0 (by omega)
        have ha : (a.add (0 * 1)).add 0 = a := rfl
        rw [ha] at this
        match cs0, hl0 with
        | u :: _, _ => exact plain_addr this
      obtain ⟨cs', h1, h2⟩ := hx i (by omega)
      obtain ⟨-, hln, hc⟩ := World.cells?_some h1
      match cs', hln with
      | [c0], _ =>
        obtain ⟨x, e0, -, -⟩ := DataW.trod_int Try.underlying3 h2
        simp at e0
        subst e0
        have k0 := hc 0 (by omega)
        rw [hpl] at k0
        simp only [addr_add] at k0
        exact ⟨x, hpl, by simpa using k0⟩
    obtain ⟨q, hq⟩ := Go.Deep.choose_lt each
    refine ⟨(List.range len).map q, by simpa using hlen, some a, m', by simp, fun i hi => ?_⟩
    have hi' : i < len := by simpa using hi
    obtain ⟨hpl, q0⟩ := hq i hi'
    have e : iAt ((List.range len).map q) i = q i := by simp [iAt, List.getD, hi']
    rw [e]
    exact ⟨a.block, a.off, by rw [← hpl], q0⟩
set_option maxRecDepth 100000 in
theorem map_of {base : Nat} (hv : Value.okWide Try.prog W .any base 26 v) (h : DataW.Trod enc Try.prog W 0 (fun _ => true) true 26 v d p) (hsz : ∀ parts, d = .agg parts → (DataW.weightsEach Try.prog [22, 23, 24] parts).all (· ≤ reachBytes) = true) :
    ∃ (vP vH vF : Value) (P : List Pt2) (Hs : List Hf) (F : List Int), v = .agg #[vP, vH, vF] ∧ P.length ≤ 1000000000000000 ∧ Hs.length ≤ 4398046510976 ∧ F.length ≤ maxLen ∧ MapR W vP vH vF P Hs F := by
  obtain ⟨v0, v1, v2, y0, y1, y2, n, hv', hd, -, h0, h1, h2⟩ := open_agg3 Try.underlying26 (by kernel_rfl) cellsMK hv h
  have hw := hsz _ hd
  obtain ⟨P, hPl, hP⟩ := mpts_of h0 (fun es sp e => sized_slice hw (j := 0) (t := 22) rfl (by rw [e]; rfl) Try.underlying22)
  obtain ⟨Hs, hHl, hH⟩ := halfs_of h1 (fun es sp e => sized_slice hw (j := 1) (t := 23) rfl (by rw [e]; rfl) Try.underlying23)
  obtain ⟨F, hFl, hF⟩ := mints_of h2
  exact ⟨v0, v1, v2, P, Hs, F, hv', hPl, hHl, hFl, hP, hH, hF⟩
end
end Go.Proofs.Ytdnccjdlmepafaa
end
