/-
  Plain law of HotTwice: of at most 12 segments the rounded ones are at most 270, and rounding them changes nothing. Conditions: valid segments.
-/
import Derived.Test.YtdbknodifpmmoaaLHotOr
import Derived.Test.YtdbknodifpmmoaaLPlane
import Derived.Test.YtdbknodifpmmoaaK19
namespace Go.Proofs.Ytdbknodifpmmoaa
set_option linter.unusedSimpArgs false
set_option linter.unusedVariables false

theorem at0 {s : Sg} (h : s.1 ≠ s.2) {l : Rat} {p : Pt2} (e : lerp (toQ s.1) (toQ s.2) l = toQ p) (k : p = s.1 ∨ p = s.2) : l = 0 ∨ l = 1 := by
  rcases k with k | k
  · exact .inl (lerp_inj h (by rw [e, lerp0, k]))
  · exact .inr (lerp_inj h (by rw [e, lerp1, k]))
/-- A point that two edges of the end have in common is an end of both. -/
theorem fix_common {cs : List (List Pt2)} (h : Inv cs) (hf : stepC cs = cs) {s t : Sg} (hs : s ∈ edgL cs) (ht : t ∈ edgL cs) (hne : s ≠ t) {l m : Rat} (hl : I01 l) (hm : I01 m) (e : lerp (toQ s.1) (toQ s.2) l = lerp (toQ t.1) (toQ t.2) m) :
    (l = 0 ∨ l = 1) ∧ (m = 0 ∨ m = 1) := by
  have os := h.eok s hs
  have ot := h.eok t ht
  have ls := edg_lx h hs
  have lt := edg_lx h ht
  have he := hot_end hs
  have he' := hot_end ht
  -- an end of one that is on the other is an end of it
  have on_t : ∀ {x : Pt2} {u : Rat}, x ∈ hotL (edgL cs) → I01 u → toQ x = lerp (toQ t.1) (toQ t.2) u → x = t.1 ∨ x = t.2 := fun {x u} hx hu k => fix_edge h hf ht hx hu (by rw [← k]; exact in_self _)
  have on_s : ∀ {x : Pt2} {u : Rat}, x ∈ hotL (edgL cs) → I01 u → toQ x = lerp (toQ s.1) (toQ s.2) u → x = s.1 ∨ x = s.2 := fun {x u} hx hu k => fix_edge h hf hs hx hu (by rw [← k]; exact in_self _)
  have key : ¬ (l ≠ 0 ∧ l ≠ 1 ∧ m ≠ 0 ∧ m ≠ 1) := by
    rintro ⟨l0, l1, m0, m1⟩
    have b0 : 0 < l ∧ l < 1 := by unfold I01 at hl; grind
    have b1 : 0 < m ∧ m < 1 := by unfold I01 at hm; grind
    by_cases hD : crs t.1 t.2 s.1 - crs t.1 t.2 s.2 = 0
    · obtain ⟨r, r', e1, e2⟩ := par_line os.2.2 e hD
      rw [e1, e2, lerp_lerp] at e
      have el := lerp_inj os.2.2 e
      have in_ : ∀ {u : Rat}, 0 ≤ u → u ≤ 1 → I01 u := fun {u} a b => ⟨a, b⟩
      have z1 : ∀ {u : Rat} {x : Pt2}, toQ x = lerp (toQ s.1) (toQ s.2) u → x ∈ hotL (edgL cs) → 0 ≤ u → u ≤ 1 → u = 0 ∨ u = 1 := fun {u x} k hx a b => at0 os.2.2 k.symm (on_s hx ⟨a, b⟩ k)
      have q1 := z1 e1 he'.1
      have q2 := z1 e2 he'.2
      have c0 : lerp (toQ s.1) (toQ s.2) 0 = toQ s.1 := lerp0 _ _
      have c1 : lerp (toQ s.1) (toQ s.2) 1 = toQ s.2 := lerp1 _ _
      -- the ends of s on t
      have back : ∀ {u v : Rat} {x : Pt2}, lerp (toQ s.1) (toQ s.2) v = toQ x → x ∈ hotL (edgL cs) → 0 ≤ u → u ≤ 1 → r + u * (r' - r) = v → v = r ∨ v = r' := fun {u v x} k hx a b ev => by
        have k2 : toQ x = lerp (toQ t.1) (toQ t.2) u := by rw [e1, e2, lerp_lerp, ev, k]
        rcases on_t hx ⟨a, b⟩ k2 with g | g
        · exact .inl (lerp_inj os.2.2 (by rw [k, g, e1]))
        · exact .inr (lerp_inj os.2.2 (by rw [k, g, e2]))
      have hrr : r ≠ r' := fun k => by rw [k] at el; grind
      obtain ⟨i, hi⟩ := inv_ (show r' - r ≠ 0 by grind)
      rcases (show r < r' ∨ r' < r by grind) with hlt | hlt
      · have p1 := Rat.mul_pos (a := m) (b := r' - r) b1.1 (by grind)
        have p2 := Rat.mul_pos (a := 1 - m) (b := r' - r) (by grind) (by grind)
        have g1 : r < l := by grind
        have g2 : l < r' := by grind
        have hip : 0 < i := by
          refine Classical.byContradiction fun k => ?_
          have := Rat.mul_nonneg (a := -i) (b := r' - r) (by grind) (by grind)
          grind
        -- a parameter between r and r' is one of t
        have par : ∀ {v : Rat}, r ≤ v → v ≤ r' → 0 ≤ (v - r) * i ∧ (v - r) * i ≤ 1 ∧ r + (v - r) * i * (r' - r) = v := fun {v} a b => by
          have := Rat.mul_nonneg (a := v - r) (b := i) (by grind) (by grind)
          have := Rat.mul_nonneg (a := r' - v) (b := i) (by grind) (by grind)
          have e5 : (v - r) * i * (r' - r) = (v - r) * (i * (r' - r)) := by grind
          refine ⟨by grind, by grind, by rw [e5, hi]; grind⟩
        have r0 : r = 0 := by
          rcases (show r < 0 ∨ 0 ≤ r by grind) with k | k
          · obtain ⟨a, b, c⟩ := par (v := 0) (by grind) (by grind)
            rcases back c0 he.1 a b c with g | g <;> grind
          · rcases q1 k (by grind) with g | g <;> grind
        have r1 : r' = 1 := by
          rcases (show 1 < r' ∨ r' ≤ 1 by grind) with k | k
          · obtain ⟨a, b, c⟩ := par (v := 1) (by grind) (by grind)
            rcases back c1 he.2 a b c with g | g <;> grind
          · rcases q2 (by grind) k with g | g <;> grind
        rw [r0, c0] at e1
        rw [r1, c1] at e2
        exact hne (Prod.ext (toQ_inj e1.symm) (toQ_inj e2.symm))
      · have p1 := Rat.mul_pos (a := m) (b := r - r') b1.1 (by grind)
        have p2 := Rat.mul_pos (a := 1 - m) (b := r - r') (by grind) (by grind)
        have g1 : l < r := by grind
        have g2 : r' < l := by grind
        have hip : i < 0 := by
          refine Classical.byContradiction fun k => ?_
          have := Rat.mul_nonneg (a := i) (b := r - r') (by grind) (by grind)
          grind
        have par : ∀ {v : Rat}, r' ≤ v → v ≤ r → 0 ≤ (v - r) * i ∧ (v - r) * i ≤ 1 ∧ r + (v - r) * i * (r' - r) = v := fun {v} a b => by
          have := Rat.mul_nonneg (a := r - v) (b := -i) (by grind) (by grind)
          have := Rat.mul_nonneg (a := v - r') (b := -i) (by grind) (by grind)
          have e5 : (v - r) * i * (r' - r) = (v - r) * (i * (r' - r)) := by grind
          refine ⟨by grind, by grind, by rw [e5, hi]; grind⟩
        have r0 : r' = 0 := by
          rcases (show r' < 0 ∨ 0 ≤ r' by grind) with k | k
          · obtain ⟨a, b, c⟩ := par (v := 0) (by grind) (by grind)
            rcases back c0 he.1 a b c with g | g <;> grind
          · rcases q2 k (by grind) with g | g <;> grind
        have r1 : r = 1 := by
          rcases (show 1 < r ∨ r ≤ 1 by grind) with k | k
          · obtain ⟨a, b, c⟩ := par (v := 1) (by grind) (by grind)
            rcases back c1 he.2 a b c with g | g <;> grind
          · rcases q1 (by grind) k with g | g <;> grind
        rw [r1, c1] at e1
        rw [r0, c0] at e2
        rw [toQ_inj e1, toQ_inj e2] at lt
        exact lx_asy ls lt
    · -- not parallel: the common point is a hot one
      obtain ⟨x, hx, hi⟩ : ∃ x ∈ hotL (edgL cs), inP (toQ x) (lerp (toQ s.1) (toQ s.2) l) := by
        rcases hot_core h.eok hs ht hl hm e with k | k
        · exact k
        · exact absurd k (fun k => hD (by
            obtain ⟨r, r', hc, hd⟩ := k
            unfold toQ lerp at hc hd
            rw [Prod.ext_iff] at hc hd
            dsimp only at hc hd
            obtain ⟨c1, c2⟩ := hc
            obtain ⟨d1, d2⟩ := hd
            have h1 := crsQ t.1 t.2 s.1
            have h2 := crsQ t.1 t.2 s.2
            have : ((crs t.1 t.2 s.1 - crs t.1 t.2 s.2 : Int) : Rat) = 0 := by
              push_cast
              rw [h1, h2, c1, c2, d1, d2]
              grind
            exact cast0.1 this))
      have x1 := fix_edge h hf hs hx hl hi
      have x2 := fix_edge h hf ht hx hm (by rw [← e]; exact hi)
      -- two common points: parallel
      obtain ⟨u, hu, eu⟩ : ∃ u : Rat, (u = 0 ∨ u = 1) ∧ lerp (toQ s.1) (toQ s.2) u = toQ x := by
        rcases x1 with k | k
        · exact ⟨0, .inl rfl, by rw [lerp0, k]⟩
        · exact ⟨1, .inr rfl, by rw [lerp1, k]⟩
      obtain ⟨v, hv, ev⟩ : ∃ v : Rat, (v = 0 ∨ v = 1) ∧ lerp (toQ t.1) (toQ t.2) v = toQ x := by
        rcases x2 with k | k
        · exact ⟨0, .inl rfl, by rw [lerp0, k]⟩
        · exact ⟨1, .inr rfl, by rw [lerp1, k]⟩
      apply hD
      have e2 : lerp (toQ s.1) (toQ s.2) u = lerp (toQ t.1) (toQ t.2) v := by rw [eu, ev]
      unfold lerp toQ at e e2
      rw [Prod.ext_iff] at e e2
      dsimp only at e e2
      obtain ⟨a1, a2⟩ := e
      obtain ⟨b1', b2'⟩ := e2
      have h1 := crsQ t.1 t.2 s.1
      have h2 := crsQ t.1 t.2 s.2
      have hul : l - u ≠ 0 := by rcases hu with k | k <;> grind
      have f1 : (l - u) * ((s.2.1 : Rat) - s.1.1) = (m - v) * ((t.2.1 : Rat) - t.1.1) := by grind
      have f2 : (l - u) * ((s.2.2 : Rat) - s.1.2) = (m - v) * ((t.2.2 : Rat) - t.1.2) := by grind
      have : ((crs t.1 t.2 s.1 - crs t.1 t.2 s.2 : Int) : Rat) * (l - u) = 0 := by
        push_cast
        rw [h1, h2]
        grind
      rcases Rat.mul_eq_zero.1 this with g | g
      · exact cast0.1 g
      · exact absurd g hul
  have l_end : l = 0 ∨ l = 1 → m = 0 ∨ m = 1 := fun k => by
    rcases k with k | k
    · rw [k, lerp0] at e
      exact at0 ot.2.2 e.symm (on_t he.1 hm e)
    · rw [k, lerp1] at e
      exact at0 ot.2.2 e.symm (on_t he.2 hm e)
  have m_end : m = 0 ∨ m = 1 → l = 0 ∨ l = 1 := fun k => by
    rcases k with k | k
    · rw [k, lerp0] at e
      exact at0 os.2.2 e (on_s he'.1 hl e.symm)
    · rw [k, lerp1] at e
      exact at0 os.2.2 e (on_s he'.2 hl e.symm)
  by_cases k1 : l = 0 ∨ l = 1
  · exact ⟨k1, l_end k1⟩
  · by_cases k2 : m = 0 ∨ m = 1
    · exact ⟨m_end k2, k2⟩
    · exact absurd ⟨fun k => k1 (.inl k), fun k => k1 (.inr k), fun k => k2 (.inl k), fun k => k2 (.inr k)⟩ key
/-- The plane, sheared: no two points above one another. -/
def sh (p : Pt2) : Q2 := (((4194304 * p.1 + p.2 : Int) : Rat), (p.2 : Rat))
def shE (s : Sg) : Q2 × Q2 := (sh s.1, sh s.2)
theorem ok_bd {p : Pt2} (h : okP p.1 p.2 = true) : -1048576 ≤ p.1 ∧ p.1 ≤ 1048576 ∧ -1048576 ≤ p.2 ∧ p.2 ≤ 1048576 := by
  have := okP_abs h; omega
theorem sh_lt {p q : Pt2} (hp : okP p.1 p.2 = true) (hq : okP q.1 q.2 = true) (h : lx p q) : (sh p).1 < (sh q).1 := by
  have := ok_bd hp
  have := ok_bd hq
  unfold lx at h
  exact Rat.intCast_lt_intCast.2 (by omega)
theorem sh_inj {p q : Pt2} (hp : okP p.1 p.2 = true) (hq : okP q.1 q.2 = true) (h : (sh p).1 = (sh q).1) : p = q := by
  have := ok_bd hp
  have := ok_bd hq
  have : (4194304 * p.1 + p.2 : Int) = 4194304 * q.1 + q.2 := Rat.intCast_inj.1 h
  exact Prod.ext (by omega) (by omega)
theorem sh_lerp {s : Sg} {x : Rat} (hw : (sh s.1).1 < (sh s.2).1) (h1 : (sh s.1).1 ≤ x) (h2 : x ≤ (sh s.2).1) :
    ∃ l, I01 l ∧ Plane.ht (shE s) x = (lerp (toQ s.1) (toQ s.2) l).2 ∧ x = 4194304 * (lerp (toQ s.1) (toQ s.2) l).1 + (lerp (toQ s.1) (toQ s.2) l).2 ∧ (l = 0 → x = (sh s.1).1) ∧ (l = 1 → x = (sh s.2).1) := by
  obtain ⟨i, hi⟩ := inv_ (show (sh s.2).1 - (sh s.1).1 ≠ 0 by grind)
  have hie : ((sh s.2).1 - (sh s.1).1)⁻¹ = i := by
    have h3 : ((sh s.2).1 - (sh s.1).1)⁻¹ * ((sh s.2).1 - (sh s.1).1) = 1 := Rat.inv_mul_cancel _ (by grind)
    have : (((sh s.2).1 - (sh s.1).1)⁻¹ - i) * ((sh s.2).1 - (sh s.1).1) = 0 := by grind
    rcases Rat.mul_eq_zero.1 this with g | g <;> grind
  have hip : 0 ≤ i := by
    refine Classical.byContradiction fun k => ?_
    have := Rat.mul_pos (a := -i) (b := (sh s.2).1 - (sh s.1).1) (by grind) (by grind)
    grind
  have a := Rat.mul_nonneg (a := x - (sh s.1).1) (b := i) (by grind) hip
  have b := Rat.mul_nonneg (a := (sh s.2).1 - x) (b := i) (by grind) hip
  have hx : x = (sh s.1).1 + (x - (sh s.1).1) * (i * ((sh s.2).1 - (sh s.1).1)) := by rw [hi]; grind
  refine ⟨(x - (sh s.1).1) * i, ⟨by grind, by grind⟩, ?_, ?_, fun k => ?_, fun k => ?_⟩
  · unfold Plane.ht Plane.sl shE
    dsimp only
    rw [hie]
    unfold lerp toQ sh
    dsimp only
    grind
  · have e1 : 4194304 * (lerp (toQ s.1) (toQ s.2) ((x - (sh s.1).1) * i)).1 + (lerp (toQ s.1) (toQ s.2) ((x - (sh s.1).1) * i)).2 = (sh s.1).1 + (x - (sh s.1).1) * (i * ((sh s.2).1 - (sh s.1).1)) := by
      have a1 : (sh s.1).1 = 4194304 * (s.1.1 : Rat) + s.1.2 := by unfold sh; push_cast; rfl
      have a2 : (sh s.2).1 = 4194304 * (s.2.1 : Rat) + s.2.2 := by unfold sh; push_cast; rfl
      rw [a1, a2]
      unfold lerp toQ
      dsimp only
      grind
    rw [e1]; exact hx
  · have : (x - (sh s.1).1) * (i * ((sh s.2).1 - (sh s.1).1)) = 0 := by
      have e : (x - (sh s.1).1) * (i * ((sh s.2).1 - (sh s.1).1)) = ((x - (sh s.1).1) * i) * ((sh s.2).1 - (sh s.1).1) := by grind
      rw [e, k]; grind
    grind
  · have : (x - (sh s.1).1) * (i * ((sh s.2).1 - (sh s.1).1)) = (sh s.2).1 - (sh s.1).1 := by
      have e : (x - (sh s.1).1) * (i * ((sh s.2).1 - (sh s.1).1)) = ((x - (sh s.1).1) * i) * ((sh s.2).1 - (sh s.1).1) := by grind
      rw [e, k]; grind
    grind
def endsL (E : List Sg) : List Pt2 := hullS (E.flatMap fun s => [s.1, s.2])
theorem ends_mem {E : List Sg} {p : Pt2} : p ∈ endsL E ↔ ∃ s ∈ E, s.1 = p ∨ s.2 = p := by
  unfold endsL
  rw [hullS_mem, List.mem_flatMap]
  constructor
  · rintro ⟨s, hs, h⟩
    simp only [List.mem_cons, List.not_mem_nil, or_false] at h
    exact ⟨s, hs, h.imp Eq.symm Eq.symm⟩
  · rintro ⟨s, hs, h⟩
    exact ⟨s, hs, by simp only [List.mem_cons, List.not_mem_nil, or_false]; exact h.imp Eq.symm Eq.symm⟩
theorem fix_drawn {cs : List (List Pt2)} (h : Inv cs) (hf : stepC cs = cs) : Plane.Drawn ((endsL (edgL cs)).map sh) ((edgL cs).map shE) := by
  have way : ∀ s ∈ edgL cs, (sh s.1).1 < (sh s.2).1 := fun s hs => sh_lt (h.eok s hs).1 (h.eok s hs).2.1 (edg_lx h hs)
  have okE : ∀ p ∈ endsL (edgL cs), okP p.1 p.2 = true := fun p hp => by
    obtain ⟨s, hs, rfl | rfl⟩ := ends_mem.1 hp
    · exact (h.eok s hs).1
    · exact (h.eok s hs).2.1
  refine ⟨fun e he => ?_, fun e he => ?_, fun e he => ?_, fun p hp q hq hpq => ?_, fun p hp => ?_, fun e he f hf' hne x x1 x2 x3 x4 x5 => ?_⟩
  · obtain ⟨s, hs, rfl⟩ := List.mem_map.1 he
    exact way s hs
  · obtain ⟨s, hs, rfl⟩ := List.mem_map.1 he
    exact List.mem_map.2 ⟨s.1, ends_mem.2 ⟨s, hs, .inl rfl⟩, rfl⟩
  · obtain ⟨s, hs, rfl⟩ := List.mem_map.1 he
    exact List.mem_map.2 ⟨s.2, ends_mem.2 ⟨s, hs, .inr rfl⟩, rfl⟩
  · obtain ⟨p', hp', rfl⟩ := List.mem_map.1 hp
    obtain ⟨q', hq', rfl⟩ := List.mem_map.1 hq
    rw [sh_inj (okE p' hp') (okE q' hq') hpq]
  · obtain ⟨p', hp', rfl⟩ := List.mem_map.1 hp
    obtain ⟨s, hs, k⟩ := ends_mem.1 hp'
    exact ⟨shE s, List.mem_map.2 ⟨s, hs, rfl⟩, k.imp (fun k => by rw [← k]; rfl) (fun k => by rw [← k]; rfl)⟩
  · obtain ⟨s, hs, rfl⟩ := List.mem_map.1 he
    obtain ⟨t, ht, rfl⟩ := List.mem_map.1 hf'
    have hst : s ≠ t := fun k => hne (by rw [k])
    obtain ⟨l, hl, a1, a2, a3, a4⟩ := sh_lerp (way s hs) x1 x2
    obtain ⟨m, hm, b1, b2, b3, b4⟩ := sh_lerp (way t ht) x3 x4
    have c2 : (lerp (toQ s.1) (toQ s.2) l).2 = (lerp (toQ t.1) (toQ t.2) m).2 := by rw [← a1, ← b1]; exact x5
    have c1 : (lerp (toQ s.1) (toQ s.2) l).1 = (lerp (toQ t.1) (toQ t.2) m).1 := by grind
    have k := fix_common h hf hs ht hst hl hm (Prod.ext c1 c2)
    exact ⟨k.1.imp a3 a4, k.2.imp b3 b4⟩
theorem shE_inj {s t : Sg} (hs : SgOk s) (ht : SgOk t) (h : shE s = shE t) : s = t := by
  have h1 : sh s.1 = sh t.1 := congrArg Prod.fst h
  have h2 : sh s.2 = sh t.2 := congrArg Prod.snd h
  exact Prod.ext (sh_inj hs.1 ht.1 (by rw [h1])) (sh_inj hs.2.1 ht.2.1 (by rw [h2]))
theorem srtG_nodup {E : List Sg} (h : SrtG E) : E.Nodup := List.Pairwise.imp (fun {x y} (hxy : lxG x y = true) (e : x = y) => by rw [e, lxG_irr] at hxy; cases hxy) h
theorem fix_len {cs : List (List Pt2)} (h : Inv cs) (hf : stepC cs = cs) : (edgL cs).length ≤ 3 * (hotL (edgL cs)).length := by
  have hn : ((edgL cs).map shE).Nodup := by
    rw [List.Nodup, List.pairwise_map]
    exact (srtG_nodup (edg_srt cs)).imp_of_mem fun {x y} hx hy hne e => hne (shE_inj (h.eok x hx) (h.eok y hy) e)
  have := Plane.bound (fix_drawn h hf) hn
  rw [List.length_map, List.length_map] at this
  have h2 : (endsL (edgL cs)).length ≤ (hotL (edgL cs)).length := by
    unfold endsL hotL
    refine hull_le_of_sub fun p hp => hullS_mem.1 ?_
    obtain ⟨s, hs, k⟩ := List.mem_flatMap.1 hp
    simp only [List.mem_cons, List.not_mem_nil, or_false] at k
    rcases k with rfl | rfl
    · exact (hot_end hs).1
    · exact (hot_end hs).2
  omega
theorem outS_tri (l : List Sg) : ∀ k, (outS l k).length * 2 ≤ k * (k + 3)
  | 0 => by simp [outS]
  | k + 1 => by
    have ih := outS_tri l k
    have h2 := innS_len l (sgAt l k) k
    rw [outS_succ]
    simp only [List.length_append, List.length_cons, List.length_nil]
    have e : (k + 1) * (k + 1 + 3) = k * (k + 3) + 2 * k + 4 := by grind
    omega
theorem hot_90 {m : List Sg} (h : m.length ≤ 12) : (hotL (edgL (cs0 m))).length ≤ 90 := by
  have hE : (edgL (cs0 m)).length ≤ 12 := by
    unfold edgL
    have h1 := cmpG_le (srtG (edgA (cs0 m) (cs0 m).length))
    have h2 : (srtG (edgA (cs0 m) (cs0 m).length)).length = (edgA (cs0 m) (cs0 m).length).length := by unfold srtG; simp
    have h3 := edgA_len (cs := cs0 m) (M := 1) (fun i hi => by rw [cs0_at (by simpa [cs0] using hi)]; simp) (cs0 m).length (Nat.le_refl _)
    have h4 : (cs0 m).length = m.length := by simp [cs0]
    omega
  have h1 := outS_tri (edgL (cs0 m)) (edgL (cs0 m)).length
  have h2 : (hotL (edgL (cs0 m))).length ≤ (outS (edgL (cs0 m)) (edgL (cs0 m)).length).length := hull_len_le fun p hp => hp
  have h3 := Nat.mul_le_mul hE (show (edgL (cs0 m)).length + 3 ≤ 15 by omega)
  omega
/-- The rounded segments: few; their edges are they themselves; a second rounding stops at once. -/
theorem rnd_again {m E : List Sg} (hm : m.length ≤ 12) (hok : ∀ s ∈ m, SgOk s) (h : IsRnd m E) (hne : E ≠ []) :
    E.length ≤ 270 ∧ RunC (cs0 E) 0 ∧ StepOk (iterC (0 + 1) (cs0 E)) ∧ edgL (iterC (0 + 1) (cs0 E)) = E := by
  rcases h with ⟨-, rfl⟩ | ⟨hm0, N, hN, rfl⟩
  · exact absurd rfl hne
  · obtain ⟨hI, hW⟩ := cs0_inv hok
    have hit := iter_inv hI hW N
    have hi := hit.1
    have hf := fixed_of hi hN.last
    have e : iterC (N + 1) (cs0 m) = iterC N (cs0 m) := hf
    rw [e] at hne ⊢
    obtain ⟨cs, hcs⟩ : ∃ cs, cs = iterC N (cs0 m) := ⟨_, rfl⟩
    have h90 := Nat.le_trans hit.2.2 (hot_90 hm)
    rw [← hcs] at hi hf h90 hne ⊢
    have hlen := fix_len hi hf
    obtain ⟨hI2, hW2⟩ := cs0_inv hi.eok
    have hE : edgL (cs0 (edgL cs)) = edgL cs := edg_ext fun s => by
      constructor
      · intro hs
        obtain ⟨C, hC, p, q, k, rfl⟩ := edg_mem.1 hs
        obtain ⟨t, ht, rfl⟩ := List.mem_map.1 hC
        rcases adj_cons k with ⟨rfl, rfl⟩ | ⟨u, v, e⟩
        · rcases ordE_cases t.1 t.2 with o | o
          · rw [o]; exact ht
          · have := ord_lx t.1 t.2 (hi.eok t ht).2.2
            rw [o] at this
            exact (lx_asy this (edg_lx hi ht)).elim
        · have := congrArg List.length e
          simp at this; omega
      · intro hs
        refine edg_mem.2 ⟨[s.1, s.2], List.mem_map.2 ⟨s, hs, rfl⟩, s.1, s.2, ⟨[], [], rfl⟩, ?_⟩
        rcases ordE_cases s.1 s.2 with o | o
        · rw [o]
        · have := ord_lx s.1 s.2 (hi.eok s hs).2.2
          rw [o] at this
          exact (lx_asy this (edg_lx hi hs)).elim
    have hH := hot_ok hi.eok
    have hfix : stepC (cs0 (edgL cs)) = cs0 (edgL cs) := by
      unfold stepC
      rw [hE]
      refine (List.map_congr_left (g := id) fun C hC => ?_).trans (List.map_id _)
      obtain ⟨s, hs, rfl⟩ := List.mem_map.1 hC
      obtain ⟨p, q, hpq, hthr, -, op, oq, -⟩ := fix_org hi hf hs
      have ht : thrL s.1 s.2 (hotL (edgL cs)) = [s.1, s.2] := by
        rcases hpq with rfl | rfl
        · exact hthr
        · show thrL q p _ = [q, p]
          rw [thr_rev hH op oq, hthr]; rfl
      show nextC _ [s.1, s.2] = [s.1, s.2]
      simp [nextC, nextG, pAt, ht]
    have hst : StepOk (cs0 (edgL cs)) := by
      refine step_okE hI2 hW2 ?_ ?_ ?_ ?_
      · intro k
        unfold cs0 at k
        exact hne (List.map_eq_nil_iff.1 k)
      · unfold cs0; rw [List.length_map]; omega
      · rw [hE]; omega
      · rw [hE]; omega
    have e1 : iterC (0 + 1) (cs0 (edgL cs)) = cs0 (edgL cs) := hfix
    refine ⟨by omega, ⟨fun k hk => ?_, fun k hk => absurd hk (Nat.not_lt_zero _), ?_⟩, ?_, ?_⟩
    · rw [Nat.le_zero.1 hk]; exact hst
    · rw [e1]; rfl
    · rw [e1]; exact hst
    · rw [e1]; exact hE
end Go.Proofs.Ytdbknodifpmmoaa
