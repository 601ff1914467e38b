/-
  Words of memory for this seat's walks: a block known whole, a slice that reads as a list of cells, frames. Conditions: none.
-/
import Derived.Test.YtcckekdfeeghaaaProg
import Derived.Below
import Derived.Deep.Draws
import Derived.Deep.AppendLies
import Derived.Laws.OwnMore
import Derived.Laws.Rows
import Derived.Laws.MakeOwn
import Derived.Deep.OwnRows
import Derived.OwnWalk
import Derived.Tactics
import Derived.Tactics2
import Derived.WalkKit
import Derived.WalkLawsBesides
import Derived.WalkSpells
import Derived.KernelRfl
import Derived.IntWalk
import Derived.Lib.Hide
import Derived.Deep.LoopGhost
import Derived.Deep.QuietTactic
import Derived.BigQuiet

import Derived.Deep.DeepCutAuto
import Derived.Deep.RegionHeld3
import Derived.StillTailTactics
import Derived.Outline
import Derived.Deep.DeepFit
namespace Go.Proofs.Ytcckekdfeeghaaa
set_option linter.unusedSimpArgs false
set_option linter.unusedVariables false
open Go.RowKit

/-- Block g is just the cells cs of element type t, none frozen. -/
def Blk (w : World) (g : Nat) (t : TypeId) (cs : Array Value) : Prop := w.heap[g]? = some (.cells cs t (0, 0))

section
variable {w w' : World} {g : Nat} {t : TypeId} {cs : Array Value}
theorem Blk.lt (h : Blk w g t cs) : g < w.heap.size := by
  rcases Nat.lt_or_ge g w.heap.size with hlt | hge
  · exact hlt
  · unfold Blk at h; rw [Array.getElem?_eq_none hge] at h; cases h
theorem Blk.cell (h : Blk w g t cs) (i : Nat) : w.cell? ⟨g, i, none⟩ = cs[i]? := cell_of_row w g i cs t (0, 0) h
theorem Blk.frozen (h : Blk w g t cs) (i : Nat) : w.frozen? ⟨g, i, none⟩ = false := by
  unfold Blk at h
  simp [World.frozen?, h]
theorem Blk.new (w : World) (t : TypeId) (cs : Array Value) : Blk (w.alloc (.cells cs t)) w.heap.size t cs := heap_alloc_new w _
theorem Blk.drew (h : Blk w g t cs) : Blk w.drew g t cs := h
theorem Blk.drewN (h : Blk w g t cs) (n : Nat) : Blk (w.drewN n) g t cs := h
theorem Blk.alloc (h : Blk w g t cs) (o : Obj) : Blk (w.alloc o) g t cs := (Below.heap_alloc w o g h.lt).trans h
theorem Blk.set_ (h : Blk w g t cs) (i : Nat) (u : Value) : Blk (w.setCell ⟨g, i, none⟩ u) g t (cs.setIfInBounds i u) := by
  unfold Blk at h ⊢
  simp [World.setCell, Array.getElem?_modify, h]
theorem Blk.far (h : Blk w g t cs) {p : Addr} (hp : g ≠ p.block) (u : Value) : Blk (w.setCell p u) g t cs := (Below.heap_setCell w p u g hp).trans h
theorem Blk.below {B : Nat} (h : Blk w g t cs) (hb : Below B w w') (hg : g < B) : Blk w' g t cs := (hb.block g hg).trans h
theorem Blk.below' (h : Blk w g t cs) (hb : Below w.heap.size w w') : Blk w' g t cs := h.below hb h.lt
end

theorem ret_int {k : IntKind} {a b : Int} (h : a = b) : Ending.returned (.int k a) = .returned (.int k b) := by rw [h]
theorem ret_bool {a b : Bool} (h : a = b) : Ending.returned (.bool a) = .returned (.bool b) := by rw [h]

/-- From the world w on nothing that was there has turned. -/
def Since (w w' : World) : Prop := Below w.heap.size w w'
@[simp] theorem Since.rfl_ (w : World) : Since w w := Below.refl _ _
theorem Since.trans {a b c : World} (h : Since a b) (k : Since b c) : Since a c := Below.trans h (Below.mono k h.size)
theorem Since.below {a b : World} (h : Since a b) : Below a.heap.size a b := h
@[simp] theorem Since.drew {a b : World} (h : Since a b) : Since a b.drew := Below.drew h
@[simp] theorem Since.drewN {a b : World} (h : Since a b) (n : Nat) : Since a (b.drewN n) := ⟨h.os, h.tape, h.output, h.size, h.block⟩
@[simp] theorem Since.alloc {a b : World} (h : Since a b) (o : Obj) : Since a (b.alloc o) := Below.alloc h h.size o
@[simp] theorem Since.setCell {a b : World} (h : Since a b) {p : Addr} (hp : a.heap.size ≤ p.block) (u : Value) : Since a (b.setCell p u) := Below.setCell h hp u
theorem Since.blk {a b : World} (h : Since a b) {g : Nat} {t : TypeId} {cs : Array Value} (k : Blk a g t cs) : Blk b g t cs := k.below' h

section
variable {w w' : World}
theorem keepC (h : Below w.heap.size w w') : ∀ (p : Addr) (v : Value), w.cell? p = some v → w'.cell? p = some v := fun p v hv => by
  rw [h.cell (World.block_lt_of_cell? w p hv)]; exact hv
theorem keepB (h : Below w.heap.size w w') : ∀ (g : Nat) (t : TypeId) (cs : Array Value), Blk w g t cs → Blk w' g t cs := fun _ _ _ k => k.below' h
theorem keepS (h : Below w.heap.size w w') : ∀ a : World, Since a w → Since a w' := fun _ k => k.trans h
end

/-- Of what was there in w only block g may have turned. -/
def Only (g : Nat) (w w' : World) : Prop := w.grownBy w' (some g)
theorem Since.only {a w : World} (h : Since a w) (g : Nat) : Only g a w := ⟨h.os, h.tape, h.output, h.size, fun i hi _ => h.block i hi⟩
theorem Only.size {g : Nat} {a w : World} (h : Only g a w) : a.heap.size ≤ w.heap.size := World.grownBy.size h
theorem Only.trans {g : Nat} {a b c : World} (h : Only g a b) (k : Only g b c) : Only g a c :=
  ⟨k.os.trans h.os, k.tape.trans h.tape, k.output.trans h.output, Nat.le_trans h.size k.size, fun i hi hn => (k.block i (Nat.lt_of_lt_of_le hi h.size) hn).trans (h.block i hi hn)⟩
theorem Only.drew {g : Nat} {a w : World} (h : Only g a w) : Only g a w.drew := ⟨h.os, h.tape, h.output, h.size, h.block⟩
theorem Only.drewN {g : Nat} {a w : World} (h : Only g a w) (n : Nat) : Only g a (w.drewN n) := ⟨h.os, h.tape, h.output, h.size, h.block⟩
theorem Only.alloc {g : Nat} {a w : World} (h : Only g a w) (o : Obj) : Only g a (w.alloc o) :=
  ⟨h.os, h.tape, h.output, Nat.le_trans h.size (by simp), fun i hi hne => (Below.heap_alloc w o i (Nat.lt_of_lt_of_le hi h.size)).trans (h.block i hi hne)⟩
theorem Only.setCell {g : Nat} {a w : World} (h : Only g a w) {p : Addr} (hp : p.block = g ∨ a.heap.size ≤ p.block) (u : Value) : Only g a (w.setCell p u) :=
  ⟨h.os, h.tape, h.output, by have := h.size; simpa [World.setCell] using this, fun i hi hne => (Below.heap_setCell w p u i (by
    rintro rfl
    rcases hp with hp | hp
    · exact hne (by rw [hp])
    · omega)).trans (h.block i hi hne)⟩
theorem Only.since {g : Nat} {a b c : World} (h : Since a b) (k : Only g b c) (hg : a.heap.size ≤ g) : Since a c :=
  ⟨k.os.trans h.os, k.tape.trans h.tape, k.output.trans h.output, Nat.le_trans h.size k.size, fun i hi => (k.block i (Nat.lt_of_lt_of_le hi h.size) (by intro e; injection e; omega)).trans (h.block i hi)⟩
theorem Only.blk {g : Nat} {a b : World} (h : Only g a b) {k : Nat} {t : TypeId} {cs : Array Value} (hk : Blk a k t cs) (hne : k ≠ g) : Blk b k t cs := (h.block k hk.lt (fun e => hne (by injection e))).trans hk
theorem keepOC {g : Nat} {w w' : World} (h : Only g w w') : ∀ (p : Addr) (v : Value), p.block ≠ g → w.cell? p = some v → w'.cell? p = some v := fun p v hne hv => by
  rw [World.cell?_of_block (h.block p.block (World.block_lt_of_cell? w p hv) (fun e => hne (by injection e)))]; exact hv
theorem keepOS {g : Nat} {w w' : World} (h : Only g w w') : ∀ a : World, a.heap.size ≤ g → Since a w → Since a w' := fun _ hg k => h.since k hg

theorem cellNew {w : World} {b i : Nat} {cs : Array Value} {t : TypeId} (h : b = w.heap.size) : (w.alloc (.cells cs t)).cell? ⟨b, i, none⟩ = cs[i]? := by subst h; exact (Blk.new w t cs).cell i
theorem cellOld {w : World} {b i : Nat} {o : Obj} (h : b < w.heap.size) : (w.alloc o).cell? ⟨b, i, none⟩ = w.cell? ⟨b, i, none⟩ := World.cell?_alloc_lt w o _ h
theorem cellDrew (w : World) (p : Addr) : w.drew.cell? p = w.cell? p := rfl

theorem cSetS {w : World} {q : Addr} {v : Value} (h : (w.cell? q).isSome = true) : (w.setCell q v).cell? q = some v := by
  obtain ⟨u, hu⟩ := Option.isSome_iff_exists.1 h
  exact World.cell?_setCell_same w q v hu
theorem cSetO {w : World} {p q : Addr} {v : Value} (h : p ≠ q) : (w.setCell p v).cell? q = w.cell? q := World.cell?_setCell_other w p q v h

/-- A block of one's own, laid and handed on: behind the call all that lay before reads as it did. -/
theorem newC {w w' : World} {o : Obj} (h : Only w.heap.size (w.alloc o) w') : ∀ (p : Addr) (v : Value), w.cell? p = some v → w'.cell? p = some v := fun p v hv => by
  have hp := World.block_lt_of_cell? w p hv
  exact keepOC h p v (by omega) (by rw [World.cell?_alloc_lt w o p hp]; exact hv)
theorem newS {w w' : World} {o : Obj} (h : Only w.heap.size (w.alloc o) w') : Since w w' := h.since ((Since.rfl_ w).alloc o) (Nat.le_refl _)

theorem sinceAC {w w' : World} {o : Obj} (h : Since (w.alloc o) w') : ∀ (p : Addr) (v : Value), w.cell? p = some v → w'.cell? p = some v := fun p v hv =>
  keepC h p v (by rw [World.cell?_alloc_lt w o p (World.block_lt_of_cell? w p hv)]; exact hv)
/-- A block of one's own as a row. -/
theorem Blk.row {w : World} {g : Nat} {t : TypeId} {cs : Array Value} (h : Blk w g t cs) {base size n cap : Nat} {xs : List Value} (hb : base ≤ g) (hn : n ≤ cap) (hc : cap ≤ maxLen) (hs : cs.size = cap * size) (hx : cs.toList.take (n * size) = xs) :
    w.ownsRow base t size (.slice (some ⟨g, 0, none⟩) n cap) n xs := by
  refine ⟨?_, .inr ⟨g, cap, cs, rfl, hb, h, hn, hc, hs, hx⟩⟩
  rw [← hx, List.length_take, Array.length_toList, hs]
  exact Nat.min_eq_left (Nat.mul_le_mul_right size hn)

/-- Behind an append to a row of one's own: a block of another element type is as it was. -/
theorem Blk.app {w w' : World} {g : Nat} {t : TypeId} {cs : Array Value} (h : Blk w g t cs) {base : Nat} {e : TypeId} {size : Nat} {v : Value} {n : Nat} {xs : List Value} (ho : w.ownsRow base e size v n xs) (hne : t ≠ e) (hg : w.grownBy w' v.ownBlock) : Blk w' g t cs := by
  refine (hg.block g h.lt fun hk => ?_).trans h
  rcases ho.2 with ⟨rfl, _⟩ | ⟨k, cap, cur, rfl, _, hb, _⟩
  · simp [Value.ownBlock] at hk
  · simp [Value.ownBlock] at hk
    subst hk
    unfold Blk at h
    rw [hb] at h
    injection h with h
    injection h with h1 h2
    exact hne h2.symm
theorem Since.app {a w w' : World} (h : Since a w) {e : TypeId} {size : Nat} {v : Value} {n : Nat} {xs : List Value} (ho : w.ownsRow a.heap.size e size v n xs) (hg : w.grownBy w' v.ownBlock) : Since a w' :=
  Below.grown h hg h.size fun k hk => (ho.lt k hk).1
theorem own_since {a b : World} (h : Since a b) {base : Nat} {e : TypeId} {size : Nat} {v : Value} {n : Nat} {xs : List Value} (ho : a.ownsRow base e size v n xs) : b.ownsRow base e size v n xs :=
  ho.kept (row := none) ⟨h.os, h.tape, h.output, h.size, fun k hk _ => h.block k hk⟩ (by cases v.ownBlock <;> simp)

theorem own_snoc {w : World} {b : Nat} {e : TypeId} {k : Nat} {v : Value} {α : Type} {f : α → List Value} {l : List α} {x : α} (h : w.ownsRow b e k v (l.length + 1) (l.flatMap f ++ f x)) : w.ownsRow b e k v (l ++ [x]).length ((l ++ [x]).flatMap f) := by
  simpa using h

theorem flat_at {α β : Type} {f : α → List β} {k : Nat} (hf : ∀ x, (f x).length = k) : ∀ (l : List α) (i j : Nat) (h : i < l.length), j < k → (l.flatMap f)[i * k + j]? = (f l[i])[j]?
  | x :: l, 0, j, _, hj => by
    rw [List.flatMap_cons, Nat.zero_mul, Nat.zero_add, List.getElem?_append_left (by rw [hf]; exact hj)]; rfl
  | x :: l, i + 1, j, h, hj => by
    rw [List.flatMap_cons, List.getElem?_append_right (by rw [hf, Nat.add_mul]; omega), hf]
    have e : (i + 1) * k + j - k = i * k + j := by rw [Nat.add_mul]; omega
    rw [e, flat_at hf l i j (by simpa using h) hj]; rfl
/-- The cells of a row of one's own, element by element. -/
theorem row_at {w : World} {b : Nat} {e : TypeId} {k : Nat} {g n c : Nat} {α : Type} {f : α → List Value} {l : List α} (ho : w.ownsRow b e k (.slice (some ⟨g, 0, none⟩) n c) n (l.flatMap f)) (hf : ∀ x, (f x).length = k)
    (i : Nat) (h : i < l.length) (j : Nat) (u : Value) (hu : (f l[i])[j]? = some u) : w.cell? ⟨g, i * k + j, none⟩ = some u := by
  have hj : j < k := by
    rcases Nat.lt_or_ge j k with hj | hj
    · exact hj
    · rw [List.getElem?_eq_none (by rw [hf]; exact hj)] at hu; cases hu
  have h1 := ho.cells (g := g) rfl (i * k + j) u (by rw [flat_at hf l i j h hj]; exact hu)
  have hadd : (⟨g, 0, none⟩ : Addr).add (i * k + j) = ⟨g, i * k + j, none⟩ := by unfold Addr.add; split <;> simp_all
  rwa [hadd] at h1

/-- What is wanted of the world at hand, and no more: behind it the world is a letter. -/
theorem atW {A : Type} {K : A → World → Prop} {a : A} {W : World} (S : World → Prop) (hS : S W) (h : ∀ w', S w' → K a w') : K a W := h W hS

/-- A class of worlds behind a name: the walk's simp does not open it. -/
def Cls (S : World → Prop) (w : World) : Prop := S w
theorem Cls.out {S : World → Prop} {w : World} (h : Cls S w) : S w := h

/-- A region that draws its order, walked once in the order of the text: each operation yields one value in every world of the class, each call leaves a world of the class. -/
theorem region_cls {P : Program} {id : Nat} {Q : Exit → Act → World → Prop} {a : Act} {w : World} {l : List Oper} (S : World → Prop) (hm : P.follows .mixedOrders = true) (hB : Region.lexB .any l.toArray = true) (hS : S w.drew)
    (h : wpQuiet P l.toArray (Cls S) (fun a' => ∀ w', S w' → Q .normal a' w') l a) : (Code.region id l.toArray true).wp P Q a w :=
  wp_region_quiet (C := Cls S) hm hB hS (by rw [List.toList_toArray]; exact h)
theorem cls_end {P : Program} {ops : Array Oper} {S : World → Prop} {Q : Act → World → Prop} {a : Act} (h : ∀ w', S w' → Q a w') : wpQuiet P ops (Cls S) (fun a' => ∀ w', S w' → Q a' w') [] a := h
end Go.Proofs.Ytcckekdfeeghaaa
