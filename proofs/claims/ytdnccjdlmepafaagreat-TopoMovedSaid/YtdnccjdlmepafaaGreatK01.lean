/-
  Words of memory for this seat's walks: a block known whole, a slice that reads as a list of cells, frames; Walks of point.Clamp, hot.bound.cmp, hot.part.least, most, cut: what each returns; A region that draws its order: reads and calls first, each of one value in a class of worlds, then stores in a forced order, walked once. Conditions: those that each lemma names.
-/
import Derived.Test.YtdnccjdlmepafaaGreatProg
import Derived.Below
import Derived.Deep.Draws
import Derived.Deep.AppendLies
import Derived.Laws.OwnMore
import Derived.Laws.Rows
import Derived.Laws.MakeOwn
import Derived.Deep.OwnRows
import Derived.OwnWalk
import Derived.Tactics
import Derived.Tactics2
import Derived.WalkKit
import Derived.WalkLawsBesides
import Derived.WalkSpells
import Derived.KernelRfl
import Derived.IntWalk
import Derived.Lib.Hide
import Derived.Deep.LoopGhost
import Derived.Deep.QuietTactic
import Derived.BigQuiet
import Derived.Deep.DeepCutAuto
import Derived.Deep.RegionHeld3
import Derived.StillTailTactics
import Derived.Outline
import Derived.Deep.DeepFit
set_option linter.unusedSimpArgs false
set_option linter.unusedVariables false
set_option linter.constructorNameAsVariable false
namespace Go.Proofs.YtdnccjdlmepafaaGreat
section
open Go.RowKit
def Blk(w:World)(g:Nat)(t:TypeId)(cs:Array Value):Prop:=w.heap[g]? = some (.cells cs t (0,0))
section
variable {w w' : World} {g : Nat} {t : TypeId} {cs : Array Value}
theorem Blk.lt(h:Blk w g t cs):g<w.heap.size:=by
 rcases Nat.lt_or_ge g w.heap.size with hlt | hge
 ·exact hlt
 ·unfold Blk at h;rw[Array.getElem?_eq_none hge] at h;cases h
theorem Blk.cell(h:Blk w g t cs)(i:Nat):w.cell? ⟨g,i,none⟩=cs[i]? := cell_of_row w g i cs t (0,0) h
theorem Blk.frozen(h:Blk w g t cs)(i:Nat):w.frozen? ⟨g,i,none⟩=false:=by
 unfold Blk at h
 simp[World.frozen?,h]
theorem Blk.new(w:World)(t:TypeId)(cs:Array Value):Blk (w.alloc (.cells cs t)) w.heap.size t cs:=heap_alloc_new w _
theorem Blk.drew(h:Blk w g t cs):Blk w.drew g t cs:=h
theorem Blk.drewN(h:Blk w g t cs)(n:Nat):Blk (w.drewN n) g t cs:=h
theorem Blk.alloc(h:Blk w g t cs)(o:Obj):Blk (w.alloc o) g t cs:=(Below.heap_alloc w o g h.lt).trans h
theorem Blk.set_(h:Blk w g t cs)(i:Nat)(u:Value):Blk (w.setCell ⟨g,i,none⟩ u) g t (cs.setIfInBounds i u):=by
 unfold Blk at h ⊢
 simp[World.setCell,Array.getElem?_modify,h]
theorem Blk.far(h:Blk w g t cs){p:Addr}(hp:g≠p.block)(u:Value):Blk (w.setCell p u) g t cs:=(Below.heap_setCell w p u g hp).trans h
theorem Blk.below{B:Nat}(h:Blk w g t cs)(hb:Below B w w')(hg:g<B):Blk w' g t cs:=(hb.block g hg).trans h
theorem Blk.below'(h:Blk w g t cs)(hb:Below w.heap.size w w'):Blk w' g t cs:=h.below hb h.lt
end
theorem ret_int{k:IntKind}{a b:Int}(h:a=b):Ending.returned (.int k a)=.returned (.int k b):=by rw[h]
theorem ret_bool{a b:Bool}(h:a=b):Ending.returned (.bool a)=.returned (.bool b):=by rw[h]
def Since(w w' : World):Prop:=Below w.heap.size w w'
@[simp] theorem Since.rfl_ (w : World) : Since w w := Below.refl _ _
theorem Since.trans{a b c:World}(h:Since a b)(k:Since b c):Since a c:=Below.trans h (Below.mono k h.size)
@[simp] theorem Since.drew {a b : World} (h : Since a b) : Since a b.drew := Below.drew h
@[simp] theorem Since.drewN {a b : World} (h : Since a b) (n : Nat) : Since a (b.drewN n) := ⟨h.os, h.tape, h.output, h.size, h.block⟩
@[simp] theorem Since.alloc {a b : World} (h : Since a b) (o : Obj) : Since a (b.alloc o) := Below.alloc h h.size o
@[simp] theorem Since.setCell {a b : World} (h : Since a b) {p : Addr} (hp : a.heap.size ≤ p.block) (u : Value) : Since a (b.setCell p u) := Below.setCell h hp u
theorem Since.blk{a b:World}(h:Since a b){g:Nat}{t:TypeId}{cs:Array Value}(k:Blk a g t cs):Blk b g t cs:=k.below' h
section
variable {w w' : World}
theorem keepC(h:Below w.heap.size w w'):∀ (p:Addr) (v:Value),w.cell? p=some v→w'.cell? p=some v:=fun p v hv=>by
 rw[h.cell (World.block_lt_of_cell? w p hv)];exact hv
theorem keepS(h:Below w.heap.size w w'):∀ a:World,Since a w→Since a w' := fun _ k=>k.trans h
end
def Only(g:Nat)(w w' : World):Prop:=w.grownBy w' (some g)
theorem Since.only{a w:World}(h:Since a w)(g:Nat):Only g a w:=⟨h.os,h.tape,h.output,h.size,fun i hi _=>h.block i hi⟩
theorem Only.size{g:Nat}{a w:World}(h:Only g a w):a.heap.size≤w.heap.size:=World.grownBy.size h
theorem Only.trans{g:Nat}{a b c:World}(h:Only g a b)(k:Only g b c):Only g a c :=
 ⟨k.os.trans h.os,k.tape.trans h.tape,k.output.trans h.output,Nat.le_trans h.size k.size,fun i hi hn=>(k.block i (Nat.lt_of_lt_of_le hi h.size) hn).trans (h.block i hi hn)⟩
theorem Only.drew{g:Nat}{a w:World}(h:Only g a w):Only g a w.drew:=⟨h.os,h.tape,h.output,h.size,h.block⟩
theorem Only.alloc{g:Nat}{a w:World}(h:Only g a w)(o:Obj):Only g a (w.alloc o) :=
 ⟨h.os,h.tape,h.output,Nat.le_trans h.size (by simp),fun i hi hne=>(Below.heap_alloc w o i (Nat.lt_of_lt_of_le hi h.size)).trans (h.block i hi hne)⟩
theorem Only.setCell{g:Nat}{a w:World}(h:Only g a w){p:Addr}(hp:p.block=g∨a.heap.size≤p.block)(u:Value):Only g a (w.setCell p u) :=
 ⟨h.os,h.tape,h.output,by have:=h.size;simpa[World.setCell] using this,fun i hi hne=>(Below.heap_setCell w p u i (by
  rintro rfl
  rcases hp with hp | hp
  ·exact hne (by rw[hp])
  ·omega)).trans (h.block i hi hne)⟩
theorem Only.since{g:Nat}{a b c:World}(h:Since a b)(k:Only g b c)(hg:a.heap.size≤g):Since a c :=
 ⟨k.os.trans h.os,k.tape.trans h.tape,k.output.trans h.output,Nat.le_trans h.size k.size,fun i hi=>(k.block i (Nat.lt_of_lt_of_le hi h.size) (by intro e;injection e;omega)).trans (h.block i hi)⟩
theorem Only.blk{g:Nat}{a b:World}(h:Only g a b){k:Nat}{t:TypeId}{cs:Array Value}(hk:Blk a k t cs)(hne:k≠g):Blk b k t cs:=(h.block k hk.lt (fun e=>hne (by injection e))).trans hk
theorem keepOC{g:Nat}{w w' : World}(h:Only g w w'):∀ (p:Addr) (v:Value),p.block≠g→w.cell? p=some v→w'.cell? p=some v:=fun p v hne hv=>by
 rw[World.cell?_of_block (h.block p.block (World.block_lt_of_cell? w p hv) (fun e=>hne (by injection e)))];exact hv
theorem cellNew{w:World}{b i:Nat}{cs:Array Value}{t:TypeId}(h:b=w.heap.size):(w.alloc (.cells cs t)).cell? ⟨b,i,none⟩=cs[i]? := by subst h;exact(Blk.new w t cs).cell i
theorem cellDrew(w:World)(p:Addr):w.drew.cell? p=w.cell? p:=rfl
theorem cSetS{w:World}{q:Addr}{v:Value}(h:(w.cell? q).isSome=true):(w.setCell q v).cell? q=some v:=by
 obtain⟨u,hu⟩:=Option.isSome_iff_exists.1 h
 exact World.cell?_setCell_same w q v hu
theorem cSetO{w:World}{p q:Addr}{v:Value}(h:p≠q):(w.setCell p v).cell? q=w.cell? q:=World.cell?_setCell_other w p q v h
theorem newC{w w' : World}{o:Obj}(h:Only w.heap.size (w.alloc o) w'):∀ (p:Addr) (v:Value),w.cell? p=some v→w'.cell? p=some v:=fun p v hv=>by
 have hp:=World.block_lt_of_cell? w p hv
 exact keepOC h p v (by omega) (by rw[World.cell?_alloc_lt w o p hp];exact hv)
theorem newS{w w' : World}{o:Obj}(h:Only w.heap.size (w.alloc o) w'):Since w w' := h.since ((Since.rfl_ w).alloc o) (Nat.le_refl _)
theorem Blk.row{w:World}{g:Nat}{t:TypeId}{cs:Array Value}(h:Blk w g t cs){base size n cap:Nat}{xs:List Value}(hb:base≤g)(hn:n≤cap)(hc:cap≤maxLen)(hs:cs.size=cap*size)(hx:cs.toList.take (n*size)=xs) :
  w.ownsRow base t size (.slice (some ⟨g,0,none⟩) n cap) n xs:=by
 refine⟨?_,.inr ⟨g,cap,cs,rfl,hb,h,hn,hc,hs,hx⟩⟩
 rw[← hx,List.length_take,Array.length_toList,hs]
 exact Nat.min_eq_left (Nat.mul_le_mul_right size hn)
theorem own_since{a b:World}(h:Since a b){base:Nat}{e:TypeId}{size:Nat}{v:Value}{n:Nat}{xs:List Value}(ho:a.ownsRow base e size v n xs):b.ownsRow base e size v n xs :=
 ho.kept (row:=none) ⟨h.os,h.tape,h.output,h.size,fun k hk _=>h.block k hk⟩ (by cases v.ownBlock <;> simp)
theorem own_snoc{w:World}{b:Nat}{e:TypeId}{k:Nat}{v:Value}{α:Type}{f:α→List Value}{l:List α}{x:α}(h:w.ownsRow b e k v (l.length+1) (l.flatMap f++f x)):w.ownsRow b e k v (l++[x]).length ((l++[x]).flatMap f):=by
 simpa using h
theorem flat_at{α β:Type}{f:α→List β}{k:Nat}(hf:∀ x,(f x).length=k):∀ (l:List α) (i j:Nat) (h:i<l.length),j<k→(l.flatMap f)[i*k+j]? = (f l[i])[j]?
 | x :: l,0,j,_,hj=>by
  rw[List.flatMap_cons,Nat.zero_mul,Nat.zero_add,List.getElem?_append_left (by rw[hf];exact hj)];rfl
 | x :: l,i+1,j,h,hj=>by
  rw[List.flatMap_cons,List.getElem?_append_right (by rw[hf,Nat.add_mul];omega),hf]
  have e:(i+1)*k+j-k=i*k+j:=by rw[Nat.add_mul];omega
  rw[e,flat_at hf l i j (by simpa using h) hj];rfl
theorem row_at{w:World}{b:Nat}{e:TypeId}{k:Nat}{g n c:Nat}{α:Type}{f:α→List Value}{l:List α}(ho:w.ownsRow b e k (.slice (some ⟨g,0,none⟩) n c) n (l.flatMap f))(hf:∀ x,(f x).length=k)
  (i:Nat) (h:i<l.length) (j:Nat) (u:Value) (hu:(f l[i])[j]? = some u):w.cell? ⟨g,i*k+j,none⟩=some u:=by
 have hj:j<k:=by
  rcases Nat.lt_or_ge j k with hj | hj
  ·exact hj
  ·rw[List.getElem?_eq_none (by rw[hf];exact hj)] at hu;cases hu
 have h1:=ho.cells (g:=g) rfl (i*k+j) u (by rw[flat_at hf l i j h hj];exact hu)
 have hadd:(⟨g,0,none⟩:Addr).add (i*k+j)=⟨g,i*k+j,none⟩:=by unfold Addr.add;split <;> simp_all
 rwa[hadd] at h1
theorem atW{A:Type}{K:A→World→Prop}{a:A}{W:World}(S:World→Prop)(hS:S W)(h:∀ w',S w' → K a w'):K a W:=h W hS
def Cls(S:World→Prop)(w:World):Prop:=S w
theorem Cls.out{S:World→Prop}{w:World}(h:Cls S w):S w:=h
theorem region_cls{P:Program}{id:Nat}{Q:Exit→Act→World→Prop}{a:Act}{w:World}{l:List Oper}(S:World→Prop)(hm:P.follows .mixedOrders=true)(hB:Region.lexB .any l.toArray=true)(hS:S w.drew)
  (h:wpQuiet P l.toArray (Cls S) (fun a' => ∀ w',S w' → Q .normal a' w') l a):(Code.region id l.toArray true).wp P Q a w :=
 wp_region_quiet (C:=Cls S) hm hB hS (by rw[List.toList_toArray];exact h)
theorem cls_end{P:Program}{ops:Array Oper}{S:World→Prop}{Q:Act→World→Prop}{a:Act}(h:∀ w',S w' → Q a w'):wpQuiet P ops (Cls S) (fun a' => ∀ w',S w' → Q a' w') [] a:=h
end
section
open Go.RowKit Go.BigFrame
theorem max2_int(k k' : IntKind)(x y:Int):Builtin.max2 (.int k x) (.int k' y)=pure (.int k (max x y)):=by
 simp only[Builtin.max2,gt_iff_lt];congr 2;rw[Int.max_def];split <;> split <;> omega
theorem min2_int(k k' : IntKind)(x y:Int):Builtin.min2 (.int k x) (.int k' y)=pure (.int k (min x y)):=by
 simp only[Builtin.min2];congr 2;rw[Int.min_def];split <;> split <;> omega
theorem max_two(ats:Array TypeId)(ty:TypeId)(a b:Value):Builtin.max_ ats ty #[a,b]=(Builtin.max2 a b >>= fun s=>pure s):=by simp only[Builtin.max_,List.foldlM_cons,List.foldlM_nil]
theorem min_two(ats:Array TypeId)(ty:TypeId)(a b:Value):Builtin.min_ ats ty #[a,b]=(Builtin.min2 a b >>= fun s=>pure s):=by simp only[Builtin.min_,List.foldlM_cons,List.foldlM_nil]
attribute [local go_sem] max2_int min2_int max_two min_two
def clampI(x:Int):Int:=max (-1048576) (min x 1048576)
theorem limit_any(x:Int)(w:World):Calls Tryz.prog 58 #[.int .i64 x,.int .i64 1048576] w fun e w' => e=.returned (.int .i64 (clampI x))∧w=w' := by
 go_enter Tryz.func58,Tryz.ntmps58
 go_wp2
 go_ret
 exact⟨rfl,rfl⟩
theorem Clamp_any(x y:Int)(w:World):Calls Tryz.prog 69 #[.agg #[.int .i64 x,.int .i64 y]] w fun e w' => e=.returned (.agg #[.int .i64 (clampI x),.int .i64 (clampI y)])∧Below w.heap.size w w' := by
 go_enter Tryz.func69,Tryz.ntmps69
 go_wp2
 go_region_held3 (fun w' => w'.cell? ⟨w.heap.size,0,none⟩=some (.int .i64 x)∧w'.cell? ⟨w.heap.size,1,none⟩=some (.int .i64 y)) (go_keep)
  (first | (go_at_call 58;refine(limit_any _ _).mono ?_;rintro e w' ⟨rfl,rfl⟩))
 go_wp2
 exact bodyPost_ret (v:=.agg #[.int .i64 (clampI x),.int .i64 (clampI y)]) (by simp[results,Tryz.results69,go_sem]) rfl ⟨rfl,((Below.refl _ _).alloc (Nat.le_refl _) _).alloc (by simp) _ |>.drew⟩
def bndCmp(n d n' d' : Int):Int:=if wrap64 (wrap64 (n*d')-wrap64 (n' * d))<0 then -1 else if wrap64 (wrap64 (n*d')-wrap64 (n' * d))>0 then 1 else 0
theorem cmp_any(n d n' d' : Int)(c c' : Bool)(w:World) :
  Calls Tryz.prog 124 #[.agg #[.int .i64 n,.int .i64 d,.bool c],.agg #[.int .i64 n',.int .i64 d',.bool c']] w fun e w' => e=.returned (.int .i64 (bndCmp n d n' d'))∧Below w.heap.size w w' := by
 go_enter Tryz.func124,Tryz.ntmps124
 go_wp2
 all_goals (go_ret;exact⟨ret_int (by unfold bndCmp;simp only[gt_iff_lt];repeat' split <;> omega),((Below.refl _ _).alloc (Nat.le_refl _) _).alloc (by simp) _⟩)
def bnN(n d:Int):Int:=if d<0 then wrap64 (-n) else n
def bnD(d:Int):Int:=if d<0 then wrap64 (-d) else d
def leastT(ln ld n d:Int)(closed:Bool):Prop:=0<bndCmp n d ln ld∨bndCmp n d ln ld=0∧closed=false
def mostT(hn hd n d:Int)(closed:Bool):Prop:=bndCmp n d hn hd<0∨bndCmp n d hn hd=0∧closed=false
instance (ln ld n d:Int) (closed:Bool):Decidable (leastT ln ld n d closed):=by unfold leastT;infer_instance
instance (ln ld n d:Int) (closed:Bool):Decidable (mostT ln ld n d closed):=by unfold mostT;infer_instance
def part6(ln ld:Int)(lc:Bool)(hn hd:Int)(hc:Bool):Array Value := #[.int .i64 ln,.int .i64 ld,.bool lc,.int .i64 hn,.int .i64 hd,.bool hc]
theorem least_pA(g:Nat)(ln ld hn hd n d:Int)(lc hc closed:Bool)(w:World)(hb:Blk w g 151 (part6 ln ld lc hn hd hc))(hd0:0≤d)(h1:0<bndCmp (n) (d) ln ld) :
  Calls Tryz.prog 157 #[.pointer (some ⟨g,0,none⟩),.int .i64 n,.int .i64 d,.bool closed] w fun e w' => e=.returned (.tuple #[])∧Blk w' g 151 (part6 (n) (d) closed hn hd hc)∧Only g w w' := by
 have c0:w.cell? ⟨g,0,none⟩=some (.int .i64 ln):=hb.cell 0
 have c1:w.cell? ⟨g,1,none⟩=some (.int .i64 ld):=hb.cell 1
 have c2:w.cell? ⟨g,2,none⟩=some (.bool lc):=hb.cell 2
 have hl:=hb.lt
 have HB:=Lib.hid hb
 clear hb
 go_enter Tryz.func157,Tryz.ntmps157
 go_wp2
 refine region_cls (fun w' => w'.cell? ⟨g,0,none⟩=some (.int .i64 ln)∧w'.cell? ⟨g,1,none⟩=some (.int .i64 ld)∧w'.cell? ⟨g,2,none⟩=some (.bool lc)∧w'.cell? ⟨w.heap.size,0,none⟩=some (.int .i64 (n))∧w'.cell? ⟨w.heap.size,1,none⟩=some (.int .i64 (d))∧w'.cell? ⟨w.heap.size,2,none⟩=some (.bool closed)∧Since w w') (by kernel_rfl) (by kernel_rfl) (by(repeat' refine And.intro ?_ ?_) <;> first | (simp (maxDischargeDepth:=9) [c0,c1,c2,hl,  cSetS,cSetO,cellNew,World.cell?_alloc_some,cellDrew];done) | (repeat (first | with_reducible assumption | with_reducible exact Since.rfl_ _ | refine Since.setCell ?_ (by(try dsimp only);omega) _ | refine Since.alloc ?_ _ | refine Since.drew ?_))) ?_
 repeat (go_big_quiet_step ((first | (intro hC;go_at_call 124;refine(cmp_any _ _ _ _ _ _ _).mono ?_;rintro e w' ⟨rfl,hb⟩;refine⟨rfl,?_⟩;have k1:=keepC hb;have k2:=keepS hb;have hC:=hC.out;(try dsimp only at hC);simp[Cls,hC,k1,k2]) | (intro hC;have hC:=hC.out;(try simp only[hC,Result.andThen]);first | exact⟨True.intro,rfl⟩ | exact⟨rfl,rfl⟩ | rfl))))
 refine cls_end ?_
 rintro w1 ⟨d0,d1,d2,e0,e1,e2,hs⟩
 have hb1:=hs.blk HB.out
 have f0:=hb1.frozen 0
 have f1:=hb1.frozen 1
 have f2:=hb1.frozen 2
 have HB1:=Lib.hid hb1
 have HS:=Lib.hid hs
 clear HB hb1 hs
 go_wp2
 go_end0
 exact⟨rfl,((HB1.out.set_ 0 _).set_ 1 _).set_ 2 _,(((HS.out.only g).setCell (.inl rfl) _).setCell (.inl rfl) _).setCell (.inl rfl) _⟩
theorem least_pB(g:Nat)(ln ld hn hd n d:Int)(lc hc:Bool)(w:World)(hb:Blk w g 151 (part6 ln ld lc hn hd hc))(hd0:0≤d)(h1:bndCmp (n) (d) ln ld=0) :
  Calls Tryz.prog 157 #[.pointer (some ⟨g,0,none⟩),.int .i64 n,.int .i64 d,.bool false] w fun e w' => e=.returned (.tuple #[])∧Blk w' g 151 (part6 (n) (d) false hn hd hc)∧Only g w w' := by
 have c0:w.cell? ⟨g,0,none⟩=some (.int .i64 ln):=hb.cell 0
 have c1:w.cell? ⟨g,1,none⟩=some (.int .i64 ld):=hb.cell 1
 have c2:w.cell? ⟨g,2,none⟩=some (.bool lc):=hb.cell 2
 have hl:=hb.lt
 have HB:=Lib.hid hb
 clear hb
 go_enter Tryz.func157,Tryz.ntmps157
 go_wp2
 refine region_cls (fun w' => w'.cell? ⟨g,0,none⟩=some (.int .i64 ln)∧w'.cell? ⟨g,1,none⟩=some (.int .i64 ld)∧w'.cell? ⟨g,2,none⟩=some (.bool lc)∧w'.cell? ⟨w.heap.size,0,none⟩=some (.int .i64 (n))∧w'.cell? ⟨w.heap.size,1,none⟩=some (.int .i64 (d))∧w'.cell? ⟨w.heap.size,2,none⟩=some (.bool false)∧Since w w') (by kernel_rfl) (by kernel_rfl) (by(repeat' refine And.intro ?_ ?_) <;> first | (simp (maxDischargeDepth:=9) [c0,c1,c2,hl,  cSetS,cSetO,cellNew,World.cell?_alloc_some,cellDrew];done) | (repeat (first | with_reducible assumption | with_reducible exact Since.rfl_ _ | refine Since.setCell ?_ (by(try dsimp only);omega) _ | refine Since.alloc ?_ _ | refine Since.drew ?_))) ?_
 repeat (go_big_quiet_step ((first | (intro hC;go_at_call 124;refine(cmp_any _ _ _ _ _ _ _).mono ?_;rintro e w' ⟨rfl,hb⟩;refine⟨rfl,?_⟩;have k1:=keepC hb;have k2:=keepS hb;have hC:=hC.out;(try dsimp only at hC);simp[Cls,hC,k1,k2]) | (intro hC;have hC:=hC.out;(try simp only[hC,Result.andThen]);first | exact⟨True.intro,rfl⟩ | exact⟨rfl,rfl⟩ | rfl))))
 refine cls_end ?_
 rintro w1 ⟨d0,d1,d2,e0,e1,e2,hs⟩
 have hb1:=hs.blk HB.out
 have f0:=hb1.frozen 0
 have f1:=hb1.frozen 1
 have f2:=hb1.frozen 2
 have HB1:=Lib.hid hb1
 have HS:=Lib.hid hs
 clear HB hb1 hs
 go_wp2
 go_end0
 exact⟨rfl,((HB1.out.set_ 0 _).set_ 1 _).set_ 2 _,(((HS.out.only g).setCell (.inl rfl) _).setCell (.inl rfl) _).setCell (.inl rfl) _⟩
theorem least_pC(g:Nat)(ln ld hn hd n d:Int)(lc hc:Bool)(w:World)(hb:Blk w g 151 (part6 ln ld lc hn hd hc))(hd0:0≤d)(h1:bndCmp (n) (d) ln ld=0) :
  Calls Tryz.prog 157 #[.pointer (some ⟨g,0,none⟩),.int .i64 n,.int .i64 d,.bool true] w fun e w' => e=.returned (.tuple #[])∧Blk w' g 151 (part6 ln ld lc hn hd hc)∧Only g w w' := by
 have c0:w.cell? ⟨g,0,none⟩=some (.int .i64 ln):=hb.cell 0
 have c1:w.cell? ⟨g,1,none⟩=some (.int .i64 ld):=hb.cell 1
 have c2:w.cell? ⟨g,2,none⟩=some (.bool lc):=hb.cell 2
 have hl:=hb.lt
 have HB:=Lib.hid hb
 clear hb
 go_enter Tryz.func157,Tryz.ntmps157
 go_wp2
 refine region_cls (fun w' => w'.cell? ⟨g,0,none⟩=some (.int .i64 ln)∧w'.cell? ⟨g,1,none⟩=some (.int .i64 ld)∧w'.cell? ⟨g,2,none⟩=some (.bool lc)∧w'.cell? ⟨w.heap.size,0,none⟩=some (.int .i64 (n))∧w'.cell? ⟨w.heap.size,1,none⟩=some (.int .i64 (d))∧w'.cell? ⟨w.heap.size,2,none⟩=some (.bool true)∧Since w w') (by kernel_rfl) (by kernel_rfl) (by(repeat' refine And.intro ?_ ?_) <;> first | (simp (maxDischargeDepth:=9) [c0,c1,c2,hl,  cSetS,cSetO,cellNew,World.cell?_alloc_some,cellDrew];done) | (repeat (first | with_reducible assumption | with_reducible exact Since.rfl_ _ | refine Since.setCell ?_ (by(try dsimp only);omega) _ | refine Since.alloc ?_ _ | refine Since.drew ?_))) ?_
 repeat (go_big_quiet_step ((first | (intro hC;go_at_call 124;refine(cmp_any _ _ _ _ _ _ _).mono ?_;rintro e w' ⟨rfl,hb⟩;refine⟨rfl,?_⟩;have k1:=keepC hb;have k2:=keepS hb;have hC:=hC.out;(try dsimp only at hC);simp[Cls,hC,k1,k2]) | (intro hC;have hC:=hC.out;(try simp only[hC,Result.andThen]);first | exact⟨True.intro,rfl⟩ | exact⟨rfl,rfl⟩ | rfl))))
 refine cls_end ?_
 rintro w1 ⟨d0,d1,d2,e0,e1,e2,hs⟩
 have hb1:=hs.blk HB.out
 have f0:=hb1.frozen 0
 have f1:=hb1.frozen 1
 have f2:=hb1.frozen 2
 have HB1:=Lib.hid hb1
 have HS:=Lib.hid hs
 clear HB hb1 hs
 go_wp2
 go_end0
 exact⟨rfl,HB1.out,HS.out.only g⟩
theorem least_pD(g:Nat)(ln ld hn hd n d:Int)(lc hc closed:Bool)(w:World)(hb:Blk w g 151 (part6 ln ld lc hn hd hc))(hd0:0≤d)(h1:bndCmp (n) (d) ln ld<0) :
  Calls Tryz.prog 157 #[.pointer (some ⟨g,0,none⟩),.int .i64 n,.int .i64 d,.bool closed] w fun e w' => e=.returned (.tuple #[])∧Blk w' g 151 (part6 ln ld lc hn hd hc)∧Only g w w' := by
 have hz:(bndCmp (n) (d) ln ld == 0)=false:=by rw[beq_eq_false_iff_ne];omega
 have hz1:decide (0<bndCmp (n) (d) ln ld)=false:=by rw[decide_eq_false_iff_not];omega
 have c0:w.cell? ⟨g,0,none⟩=some (.int .i64 ln):=hb.cell 0
 have c1:w.cell? ⟨g,1,none⟩=some (.int .i64 ld):=hb.cell 1
 have c2:w.cell? ⟨g,2,none⟩=some (.bool lc):=hb.cell 2
 have hl:=hb.lt
 have HB:=Lib.hid hb
 clear hb
 go_enter Tryz.func157,Tryz.ntmps157
 go_wp2
 refine region_cls (fun w' => w'.cell? ⟨g,0,none⟩=some (.int .i64 ln)∧w'.cell? ⟨g,1,none⟩=some (.int .i64 ld)∧w'.cell? ⟨g,2,none⟩=some (.bool lc)∧w'.cell? ⟨w.heap.size,0,none⟩=some (.int .i64 (n))∧w'.cell? ⟨w.heap.size,1,none⟩=some (.int .i64 (d))∧w'.cell? ⟨w.heap.size,2,none⟩=some (.bool closed)∧Since w w') (by kernel_rfl) (by kernel_rfl) (by(repeat' refine And.intro ?_ ?_) <;> first | (simp (maxDischargeDepth:=9) [c0,c1,c2,hl,  cSetS,cSetO,cellNew,World.cell?_alloc_some,cellDrew];done) | (repeat (first | with_reducible assumption | with_reducible exact Since.rfl_ _ | refine Since.setCell ?_ (by(try dsimp only);omega) _ | refine Since.alloc ?_ _ | refine Since.drew ?_))) ?_
 repeat (go_big_quiet_step ((first | (intro hC;go_at_call 124;refine(cmp_any _ _ _ _ _ _ _).mono ?_;rintro e w' ⟨rfl,hb⟩;refine⟨rfl,?_⟩;have k1:=keepC hb;have k2:=keepS hb;have hC:=hC.out;(try dsimp only at hC);simp[Cls,hC,k1,k2]) | (intro hC;have hC:=hC.out;(try simp only[hC,Result.andThen]);first | exact⟨True.intro,rfl⟩ | exact⟨rfl,rfl⟩ | rfl))))
 refine cls_end ?_
 rintro w1 ⟨d0,d1,d2,e0,e1,e2,hs⟩
 have hb1:=hs.blk HB.out
 have f0:=hb1.frozen 0
 have f1:=hb1.frozen 1
 have f2:=hb1.frozen 2
 have HB1:=Lib.hid hb1
 have HS:=Lib.hid hs
 clear HB hb1 hs
 go_wp2
 go_end0
 exact⟨rfl,HB1.out,HS.out.only g⟩
theorem least_nA(g:Nat)(ln ld hn hd n d:Int)(lc hc closed:Bool)(w:World)(hb:Blk w g 151 (part6 ln ld lc hn hd hc))(hd0:d<0)(h1:0<bndCmp (wrap64 (-n)) (wrap64 (-d)) ln ld) :
  Calls Tryz.prog 157 #[.pointer (some ⟨g,0,none⟩),.int .i64 n,.int .i64 d,.bool closed] w fun e w' => e=.returned (.tuple #[])∧Blk w' g 151 (part6 (wrap64 (-n)) (wrap64 (-d)) closed hn hd hc)∧Only g w w' := by
 have c0:w.cell? ⟨g,0,none⟩=some (.int .i64 ln):=hb.cell 0
 have c1:w.cell? ⟨g,1,none⟩=some (.int .i64 ld):=hb.cell 1
 have c2:w.cell? ⟨g,2,none⟩=some (.bool lc):=hb.cell 2
 have hl:=hb.lt
 have HB:=Lib.hid hb
 clear hb
 go_enter Tryz.func157,Tryz.ntmps157
 go_wp2
 refine region_cls (fun w' => w'.cell? ⟨g,0,none⟩=some (.int .i64 ln)∧w'.cell? ⟨g,1,none⟩=some (.int .i64 ld)∧w'.cell? ⟨g,2,none⟩=some (.bool lc)∧w'.cell? ⟨w.heap.size,0,none⟩=some (.int .i64 (wrap64 (-n)))∧w'.cell? ⟨w.heap.size,1,none⟩=some (.int .i64 (wrap64 (-d)))∧w'.cell? ⟨w.heap.size,2,none⟩=some (.bool closed)∧Since w w') (by kernel_rfl) (by kernel_rfl) (by(repeat' refine And.intro ?_ ?_) <;> first | (simp (maxDischargeDepth:=9) [c0,c1,c2,hl,  cSetS,cSetO,cellNew,World.cell?_alloc_some,cellDrew];done) | (repeat (first | with_reducible assumption | with_reducible exact Since.rfl_ _ | refine Since.setCell ?_ (by(try dsimp only);omega) _ | refine Since.alloc ?_ _ | refine Since.drew ?_))) ?_
 repeat (go_big_quiet_step ((first | (intro hC;go_at_call 124;refine(cmp_any _ _ _ _ _ _ _).mono ?_;rintro e w' ⟨rfl,hb⟩;refine⟨rfl,?_⟩;have k1:=keepC hb;have k2:=keepS hb;have hC:=hC.out;(try dsimp only at hC);simp[Cls,hC,k1,k2]) | (intro hC;have hC:=hC.out;(try simp only[hC,Result.andThen]);first | exact⟨True.intro,rfl⟩ | exact⟨rfl,rfl⟩ | rfl))))
 refine cls_end ?_
 rintro w1 ⟨d0,d1,d2,e0,e1,e2,hs⟩
 have hb1:=hs.blk HB.out
 have f0:=hb1.frozen 0
 have f1:=hb1.frozen 1
 have f2:=hb1.frozen 2
 have HB1:=Lib.hid hb1
 have HS:=Lib.hid hs
 clear HB hb1 hs
 go_wp2
 go_end0
 exact⟨rfl,((HB1.out.set_ 0 _).set_ 1 _).set_ 2 _,(((HS.out.only g).setCell (.inl rfl) _).setCell (.inl rfl) _).setCell (.inl rfl) _⟩
theorem least_nB(g:Nat)(ln ld hn hd n d:Int)(lc hc:Bool)(w:World)(hb:Blk w g 151 (part6 ln ld lc hn hd hc))(hd0:d<0)(h1:bndCmp (wrap64 (-n)) (wrap64 (-d)) ln ld=0) :
  Calls Tryz.prog 157 #[.pointer (some ⟨g,0,none⟩),.int .i64 n,.int .i64 d,.bool false] w fun e w' => e=.returned (.tuple #[])∧Blk w' g 151 (part6 (wrap64 (-n)) (wrap64 (-d)) false hn hd hc)∧Only g w w' := by
 have c0:w.cell? ⟨g,0,none⟩=some (.int .i64 ln):=hb.cell 0
 have c1:w.cell? ⟨g,1,none⟩=some (.int .i64 ld):=hb.cell 1
 have c2:w.cell? ⟨g,2,none⟩=some (.bool lc):=hb.cell 2
 have hl:=hb.lt
 have HB:=Lib.hid hb
 clear hb
 go_enter Tryz.func157,Tryz.ntmps157
 go_wp2
 refine region_cls (fun w' => w'.cell? ⟨g,0,none⟩=some (.int .i64 ln)∧w'.cell? ⟨g,1,none⟩=some (.int .i64 ld)∧w'.cell? ⟨g,2,none⟩=some (.bool lc)∧w'.cell? ⟨w.heap.size,0,none⟩=some (.int .i64 (wrap64 (-n)))∧w'.cell? ⟨w.heap.size,1,none⟩=some (.int .i64 (wrap64 (-d)))∧w'.cell? ⟨w.heap.size,2,none⟩=some (.bool false)∧Since w w') (by kernel_rfl) (by kernel_rfl) (by(repeat' refine And.intro ?_ ?_) <;> first | (simp (maxDischargeDepth:=9) [c0,c1,c2,hl,  cSetS,cSetO,cellNew,World.cell?_alloc_some,cellDrew];done) | (repeat (first | with_reducible assumption | with_reducible exact Since.rfl_ _ | refine Since.setCell ?_ (by(try dsimp only);omega) _ | refine Since.alloc ?_ _ | refine Since.drew ?_))) ?_
 repeat (go_big_quiet_step ((first | (intro hC;go_at_call 124;refine(cmp_any _ _ _ _ _ _ _).mono ?_;rintro e w' ⟨rfl,hb⟩;refine⟨rfl,?_⟩;have k1:=keepC hb;have k2:=keepS hb;have hC:=hC.out;(try dsimp only at hC);simp[Cls,hC,k1,k2]) | (intro hC;have hC:=hC.out;(try simp only[hC,Result.andThen]);first | exact⟨True.intro,rfl⟩ | exact⟨rfl,rfl⟩ | rfl))))
 refine cls_end ?_
 rintro w1 ⟨d0,d1,d2,e0,e1,e2,hs⟩
 have hb1:=hs.blk HB.out
 have f0:=hb1.frozen 0
 have f1:=hb1.frozen 1
 have f2:=hb1.frozen 2
 have HB1:=Lib.hid hb1
 have HS:=Lib.hid hs
 clear HB hb1 hs
 go_wp2
 go_end0
 exact⟨rfl,((HB1.out.set_ 0 _).set_ 1 _).set_ 2 _,(((HS.out.only g).setCell (.inl rfl) _).setCell (.inl rfl) _).setCell (.inl rfl) _⟩
theorem least_nC(g:Nat)(ln ld hn hd n d:Int)(lc hc:Bool)(w:World)(hb:Blk w g 151 (part6 ln ld lc hn hd hc))(hd0:d<0)(h1:bndCmp (wrap64 (-n)) (wrap64 (-d)) ln ld=0) :
  Calls Tryz.prog 157 #[.pointer (some ⟨g,0,none⟩),.int .i64 n,.int .i64 d,.bool true] w fun e w' => e=.returned (.tuple #[])∧Blk w' g 151 (part6 ln ld lc hn hd hc)∧Only g w w' := by
 have c0:w.cell? ⟨g,0,none⟩=some (.int .i64 ln):=hb.cell 0
 have c1:w.cell? ⟨g,1,none⟩=some (.int .i64 ld):=hb.cell 1
 have c2:w.cell? ⟨g,2,none⟩=some (.bool lc):=hb.cell 2
 have hl:=hb.lt
 have HB:=Lib.hid hb
 clear hb
 go_enter Tryz.func157,Tryz.ntmps157
 go_wp2
 refine region_cls (fun w' => w'.cell? ⟨g,0,none⟩=some (.int .i64 ln)∧w'.cell? ⟨g,1,none⟩=some (.int .i64 ld)∧w'.cell? ⟨g,2,none⟩=some (.bool lc)∧w'.cell? ⟨w.heap.size,0,none⟩=some (.int .i64 (wrap64 (-n)))∧w'.cell? ⟨w.heap.size,1,none⟩=some (.int .i64 (wrap64 (-d)))∧w'.cell? ⟨w.heap.size,2,none⟩=some (.bool true)∧Since w w') (by kernel_rfl) (by kernel_rfl) (by(repeat' refine And.intro ?_ ?_) <;> first | (simp (maxDischargeDepth:=9) [c0,c1,c2,hl,  cSetS,cSetO,cellNew,World.cell?_alloc_some,cellDrew];done) | (repeat (first | with_reducible assumption | with_reducible exact Since.rfl_ _ | refine Since.setCell ?_ (by(try dsimp only);omega) _ | refine Since.alloc ?_ _ | refine Since.drew ?_))) ?_
 repeat (go_big_quiet_step ((first | (intro hC;go_at_call 124;refine(cmp_any _ _ _ _ _ _ _).mono ?_;rintro e w' ⟨rfl,hb⟩;refine⟨rfl,?_⟩;have k1:=keepC hb;have k2:=keepS hb;have hC:=hC.out;(try dsimp only at hC);simp[Cls,hC,k1,k2]) | (intro hC;have hC:=hC.out;(try simp only[hC,Result.andThen]);first | exact⟨True.intro,rfl⟩ | exact⟨rfl,rfl⟩ | rfl))))
 refine cls_end ?_
 rintro w1 ⟨d0,d1,d2,e0,e1,e2,hs⟩
 have hb1:=hs.blk HB.out
 have f0:=hb1.frozen 0
 have f1:=hb1.frozen 1
 have f2:=hb1.frozen 2
 have HB1:=Lib.hid hb1
 have HS:=Lib.hid hs
 clear HB hb1 hs
 go_wp2
 go_end0
 exact⟨rfl,HB1.out,HS.out.only g⟩
theorem least_nD(g:Nat)(ln ld hn hd n d:Int)(lc hc closed:Bool)(w:World)(hb:Blk w g 151 (part6 ln ld lc hn hd hc))(hd0:d<0)(h1:bndCmp (wrap64 (-n)) (wrap64 (-d)) ln ld<0) :
  Calls Tryz.prog 157 #[.pointer (some ⟨g,0,none⟩),.int .i64 n,.int .i64 d,.bool closed] w fun e w' => e=.returned (.tuple #[])∧Blk w' g 151 (part6 ln ld lc hn hd hc)∧Only g w w' := by
 have hz:(bndCmp (wrap64 (-n)) (wrap64 (-d)) ln ld == 0)=false:=by rw[beq_eq_false_iff_ne];omega
 have hz1:decide (0<bndCmp (wrap64 (-n)) (wrap64 (-d)) ln ld)=false:=by rw[decide_eq_false_iff_not];omega
 have c0:w.cell? ⟨g,0,none⟩=some (.int .i64 ln):=hb.cell 0
 have c1:w.cell? ⟨g,1,none⟩=some (.int .i64 ld):=hb.cell 1
 have c2:w.cell? ⟨g,2,none⟩=some (.bool lc):=hb.cell 2
 have hl:=hb.lt
 have HB:=Lib.hid hb
 clear hb
 go_enter Tryz.func157,Tryz.ntmps157
 go_wp2
 refine region_cls (fun w' => w'.cell? ⟨g,0,none⟩=some (.int .i64 ln)∧w'.cell? ⟨g,1,none⟩=some (.int .i64 ld)∧w'.cell? ⟨g,2,none⟩=some (.bool lc)∧w'.cell? ⟨w.heap.size,0,none⟩=some (.int .i64 (wrap64 (-n)))∧w'.cell? ⟨w.heap.size,1,none⟩=some (.int .i64 (wrap64 (-d)))∧w'.cell? ⟨w.heap.size,2,none⟩=some (.bool closed)∧Since w w') (by kernel_rfl) (by kernel_rfl) (by(repeat' refine And.intro ?_ ?_) <;> first | (simp (maxDischargeDepth:=9) [c0,c1,c2,hl,  cSetS,cSetO,cellNew,World.cell?_alloc_some,cellDrew];done) | (repeat (first | with_reducible assumption | with_reducible exact Since.rfl_ _ | refine Since.setCell ?_ (by(try dsimp only);omega) _ | refine Since.alloc ?_ _ | refine Since.drew ?_))) ?_
 repeat (go_big_quiet_step ((first | (intro hC;go_at_call 124;refine(cmp_any _ _ _ _ _ _ _).mono ?_;rintro e w' ⟨rfl,hb⟩;refine⟨rfl,?_⟩;have k1:=keepC hb;have k2:=keepS hb;have hC:=hC.out;(try dsimp only at hC);simp[Cls,hC,k1,k2]) | (intro hC;have hC:=hC.out;(try simp only[hC,Result.andThen]);first | exact⟨True.intro,rfl⟩ | exact⟨rfl,rfl⟩ | rfl))))
 refine cls_end ?_
 rintro w1 ⟨d0,d1,d2,e0,e1,e2,hs⟩
 have hb1:=hs.blk HB.out
 have f0:=hb1.frozen 0
 have f1:=hb1.frozen 1
 have f2:=hb1.frozen 2
 have HB1:=Lib.hid hb1
 have HS:=Lib.hid hs
 clear HB hb1 hs
 go_wp2
 go_end0
 exact⟨rfl,HB1.out,HS.out.only g⟩
theorem most_pA(g:Nat)(ln ld hn hd n d:Int)(lc hc closed:Bool)(w:World)(hb:Blk w g 151 (part6 ln ld lc hn hd hc))(hd0:0≤d)(h1:bndCmp (n) (d) hn hd<0) :
  Calls Tryz.prog 158 #[.pointer (some ⟨g,0,none⟩),.int .i64 n,.int .i64 d,.bool closed] w fun e w' => e=.returned (.tuple #[])∧Blk w' g 151 (part6 ln ld lc (n) (d) closed)∧Only g w w' := by
 have c0:w.cell? ⟨g,3,none⟩=some (.int .i64 hn):=hb.cell 3
 have c1:w.cell? ⟨g,4,none⟩=some (.int .i64 hd):=hb.cell 4
 have c2:w.cell? ⟨g,5,none⟩=some (.bool hc):=hb.cell 5
 have hl:=hb.lt
 have HB:=Lib.hid hb
 clear hb
 go_enter Tryz.func158,Tryz.ntmps158
 go_wp2
 refine region_cls (fun w' => w'.cell? ⟨g,3,none⟩=some (.int .i64 hn)∧w'.cell? ⟨g,4,none⟩=some (.int .i64 hd)∧w'.cell? ⟨g,5,none⟩=some (.bool hc)∧w'.cell? ⟨w.heap.size,0,none⟩=some (.int .i64 (n))∧w'.cell? ⟨w.heap.size,1,none⟩=some (.int .i64 (d))∧w'.cell? ⟨w.heap.size,2,none⟩=some (.bool closed)∧Since w w') (by kernel_rfl) (by kernel_rfl) (by(repeat' refine And.intro ?_ ?_) <;> first | (simp (maxDischargeDepth:=9) [c0,c1,c2,hl,  cSetS,cSetO,cellNew,World.cell?_alloc_some,cellDrew];done) | (repeat (first | with_reducible assumption | with_reducible exact Since.rfl_ _ | refine Since.setCell ?_ (by(try dsimp only);omega) _ | refine Since.alloc ?_ _ | refine Since.drew ?_))) ?_
 repeat (go_big_quiet_step ((first | (intro hC;go_at_call 124;refine(cmp_any _ _ _ _ _ _ _).mono ?_;rintro e w' ⟨rfl,hb⟩;refine⟨rfl,?_⟩;have k1:=keepC hb;have k2:=keepS hb;have hC:=hC.out;(try dsimp only at hC);simp[Cls,hC,k1,k2]) | (intro hC;have hC:=hC.out;(try simp only[hC,Result.andThen]);first | exact⟨True.intro,rfl⟩ | exact⟨rfl,rfl⟩ | rfl))))
 refine cls_end ?_
 rintro w1 ⟨d0,d1,d2,e0,e1,e2,hs⟩
 have hb1:=hs.blk HB.out
 have f0:=hb1.frozen 3
 have f1:=hb1.frozen 4
 have f2:=hb1.frozen 5
 have HB1:=Lib.hid hb1
 have HS:=Lib.hid hs
 clear HB hb1 hs
 go_wp2
 go_end0
 exact⟨rfl,((HB1.out.set_ 3 _).set_ 4 _).set_ 5 _,(((HS.out.only g).setCell (.inl rfl) _).setCell (.inl rfl) _).setCell (.inl rfl) _⟩
theorem most_pB(g:Nat)(ln ld hn hd n d:Int)(lc hc:Bool)(w:World)(hb:Blk w g 151 (part6 ln ld lc hn hd hc))(hd0:0≤d)(h1:bndCmp (n) (d) hn hd=0) :
  Calls Tryz.prog 158 #[.pointer (some ⟨g,0,none⟩),.int .i64 n,.int .i64 d,.bool false] w fun e w' => e=.returned (.tuple #[])∧Blk w' g 151 (part6 ln ld lc (n) (d) false)∧Only g w w' := by
 have c0:w.cell? ⟨g,3,none⟩=some (.int .i64 hn):=hb.cell 3
 have c1:w.cell? ⟨g,4,none⟩=some (.int .i64 hd):=hb.cell 4
 have c2:w.cell? ⟨g,5,none⟩=some (.bool hc):=hb.cell 5
 have hl:=hb.lt
 have HB:=Lib.hid hb
 clear hb
 go_enter Tryz.func158,Tryz.ntmps158
 go_wp2
 refine region_cls (fun w' => w'.cell? ⟨g,3,none⟩=some (.int .i64 hn)∧w'.cell? ⟨g,4,none⟩=some (.int .i64 hd)∧w'.cell? ⟨g,5,none⟩=some (.bool hc)∧w'.cell? ⟨w.heap.size,0,none⟩=some (.int .i64 (n))∧w'.cell? ⟨w.heap.size,1,none⟩=some (.int .i64 (d))∧w'.cell? ⟨w.heap.size,2,none⟩=some (.bool false)∧Since w w') (by kernel_rfl) (by kernel_rfl) (by(repeat' refine And.intro ?_ ?_) <;> first | (simp (maxDischargeDepth:=9) [c0,c1,c2,hl,  cSetS,cSetO,cellNew,World.cell?_alloc_some,cellDrew];done) | (repeat (first | with_reducible assumption | with_reducible exact Since.rfl_ _ | refine Since.setCell ?_ (by(try dsimp only);omega) _ | refine Since.alloc ?_ _ | refine Since.drew ?_))) ?_
 repeat (go_big_quiet_step ((first | (intro hC;go_at_call 124;refine(cmp_any _ _ _ _ _ _ _).mono ?_;rintro e w' ⟨rfl,hb⟩;refine⟨rfl,?_⟩;have k1:=keepC hb;have k2:=keepS hb;have hC:=hC.out;(try dsimp only at hC);simp[Cls,hC,k1,k2]) | (intro hC;have hC:=hC.out;(try simp only[hC,Result.andThen]);first | exact⟨True.intro,rfl⟩ | exact⟨rfl,rfl⟩ | rfl))))
 refine cls_end ?_
 rintro w1 ⟨d0,d1,d2,e0,e1,e2,hs⟩
 have hb1:=hs.blk HB.out
 have f0:=hb1.frozen 3
 have f1:=hb1.frozen 4
 have f2:=hb1.frozen 5
 have HB1:=Lib.hid hb1
 have HS:=Lib.hid hs
 clear HB hb1 hs
 go_wp2
 go_end0
 exact⟨rfl,((HB1.out.set_ 3 _).set_ 4 _).set_ 5 _,(((HS.out.only g).setCell (.inl rfl) _).setCell (.inl rfl) _).setCell (.inl rfl) _⟩
theorem most_pC(g:Nat)(ln ld hn hd n d:Int)(lc hc:Bool)(w:World)(hb:Blk w g 151 (part6 ln ld lc hn hd hc))(hd0:0≤d)(h1:bndCmp (n) (d) hn hd=0) :
  Calls Tryz.prog 158 #[.pointer (some ⟨g,0,none⟩),.int .i64 n,.int .i64 d,.bool true] w fun e w' => e=.returned (.tuple #[])∧Blk w' g 151 (part6 ln ld lc hn hd hc)∧Only g w w' := by
 have c0:w.cell? ⟨g,3,none⟩=some (.int .i64 hn):=hb.cell 3
 have c1:w.cell? ⟨g,4,none⟩=some (.int .i64 hd):=hb.cell 4
 have c2:w.cell? ⟨g,5,none⟩=some (.bool hc):=hb.cell 5
 have hl:=hb.lt
 have HB:=Lib.hid hb
 clear hb
 go_enter Tryz.func158,Tryz.ntmps158
 go_wp2
 refine region_cls (fun w' => w'.cell? ⟨g,3,none⟩=some (.int .i64 hn)∧w'.cell? ⟨g,4,none⟩=some (.int .i64 hd)∧w'.cell? ⟨g,5,none⟩=some (.bool hc)∧w'.cell? ⟨w.heap.size,0,none⟩=some (.int .i64 (n))∧w'.cell? ⟨w.heap.size,1,none⟩=some (.int .i64 (d))∧w'.cell? ⟨w.heap.size,2,none⟩=some (.bool true)∧Since w w') (by kernel_rfl) (by kernel_rfl) (by(repeat' refine And.intro ?_ ?_) <;> first | (simp (maxDischargeDepth:=9) [c0,c1,c2,hl,  cSetS,cSetO,cellNew,World.cell?_alloc_some,cellDrew];done) | (repeat (first | with_reducible assumption | with_reducible exact Since.rfl_ _ | refine Since.setCell ?_ (by(try dsimp only);omega) _ | refine Since.alloc ?_ _ | refine Since.drew ?_))) ?_
 repeat (go_big_quiet_step ((first | (intro hC;go_at_call 124;refine(cmp_any _ _ _ _ _ _ _).mono ?_;rintro e w' ⟨rfl,hb⟩;refine⟨rfl,?_⟩;have k1:=keepC hb;have k2:=keepS hb;have hC:=hC.out;(try dsimp only at hC);simp[Cls,hC,k1,k2]) | (intro hC;have hC:=hC.out;(try simp only[hC,Result.andThen]);first | exact⟨True.intro,rfl⟩ | exact⟨rfl,rfl⟩ | rfl))))
 refine cls_end ?_
 rintro w1 ⟨d0,d1,d2,e0,e1,e2,hs⟩
 have hb1:=hs.blk HB.out
 have f0:=hb1.frozen 3
 have f1:=hb1.frozen 4
 have f2:=hb1.frozen 5
 have HB1:=Lib.hid hb1
 have HS:=Lib.hid hs
 clear HB hb1 hs
 go_wp2
 go_end0
 exact⟨rfl,HB1.out,HS.out.only g⟩
theorem most_pD(g:Nat)(ln ld hn hd n d:Int)(lc hc closed:Bool)(w:World)(hb:Blk w g 151 (part6 ln ld lc hn hd hc))(hd0:0≤d)(h1:0<bndCmp (n) (d) hn hd) :
  Calls Tryz.prog 158 #[.pointer (some ⟨g,0,none⟩),.int .i64 n,.int .i64 d,.bool closed] w fun e w' => e=.returned (.tuple #[])∧Blk w' g 151 (part6 ln ld lc hn hd hc)∧Only g w w' := by
 have hz:(bndCmp (n) (d) hn hd == 0)=false:=by rw[beq_eq_false_iff_ne];omega
 have hz1:decide (bndCmp (n) (d) hn hd<0)=false:=by rw[decide_eq_false_iff_not];omega
 have c0:w.cell? ⟨g,3,none⟩=some (.int .i64 hn):=hb.cell 3
 have c1:w.cell? ⟨g,4,none⟩=some (.int .i64 hd):=hb.cell 4
 have c2:w.cell? ⟨g,5,none⟩=some (.bool hc):=hb.cell 5
 have hl:=hb.lt
 have HB:=Lib.hid hb
 clear hb
 go_enter Tryz.func158,Tryz.ntmps158
 go_wp2
 refine region_cls (fun w' => w'.cell? ⟨g,3,none⟩=some (.int .i64 hn)∧w'.cell? ⟨g,4,none⟩=some (.int .i64 hd)∧w'.cell? ⟨g,5,none⟩=some (.bool hc)∧w'.cell? ⟨w.heap.size,0,none⟩=some (.int .i64 (n))∧w'.cell? ⟨w.heap.size,1,none⟩=some (.int .i64 (d))∧w'.cell? ⟨w.heap.size,2,none⟩=some (.bool closed)∧Since w w') (by kernel_rfl) (by kernel_rfl) (by(repeat' refine And.intro ?_ ?_) <;> first | (simp (maxDischargeDepth:=9) [c0,c1,c2,hl,  cSetS,cSetO,cellNew,World.cell?_alloc_some,cellDrew];done) | (repeat (first | with_reducible assumption | with_reducible exact Since.rfl_ _ | refine Since.setCell ?_ (by(try dsimp only);omega) _ | refine Since.alloc ?_ _ | refine Since.drew ?_))) ?_
 repeat (go_big_quiet_step ((first | (intro hC;go_at_call 124;refine(cmp_any _ _ _ _ _ _ _).mono ?_;rintro e w' ⟨rfl,hb⟩;refine⟨rfl,?_⟩;have k1:=keepC hb;have k2:=keepS hb;have hC:=hC.out;(try dsimp only at hC);simp[Cls,hC,k1,k2]) | (intro hC;have hC:=hC.out;(try simp only[hC,Result.andThen]);first | exact⟨True.intro,rfl⟩ | exact⟨rfl,rfl⟩ | rfl))))
 refine cls_end ?_
 rintro w1 ⟨d0,d1,d2,e0,e1,e2,hs⟩
 have hb1:=hs.blk HB.out
 have f0:=hb1.frozen 3
 have f1:=hb1.frozen 4
 have f2:=hb1.frozen 5
 have HB1:=Lib.hid hb1
 have HS:=Lib.hid hs
 clear HB hb1 hs
 go_wp2
 go_end0
 exact⟨rfl,HB1.out,HS.out.only g⟩
theorem most_nA(g:Nat)(ln ld hn hd n d:Int)(lc hc closed:Bool)(w:World)(hb:Blk w g 151 (part6 ln ld lc hn hd hc))(hd0:d<0)(h1:bndCmp (wrap64 (-n)) (wrap64 (-d)) hn hd<0) :
  Calls Tryz.prog 158 #[.pointer (some ⟨g,0,none⟩),.int .i64 n,.int .i64 d,.bool closed] w fun e w' => e=.returned (.tuple #[])∧Blk w' g 151 (part6 ln ld lc (wrap64 (-n)) (wrap64 (-d)) closed)∧Only g w w' := by
 have c0:w.cell? ⟨g,3,none⟩=some (.int .i64 hn):=hb.cell 3
 have c1:w.cell? ⟨g,4,none⟩=some (.int .i64 hd):=hb.cell 4
 have c2:w.cell? ⟨g,5,none⟩=some (.bool hc):=hb.cell 5
 have hl:=hb.lt
 have HB:=Lib.hid hb
 clear hb
 go_enter Tryz.func158,Tryz.ntmps158
 go_wp2
 refine region_cls (fun w' => w'.cell? ⟨g,3,none⟩=some (.int .i64 hn)∧w'.cell? ⟨g,4,none⟩=some (.int .i64 hd)∧w'.cell? ⟨g,5,none⟩=some (.bool hc)∧w'.cell? ⟨w.heap.size,0,none⟩=some (.int .i64 (wrap64 (-n)))∧w'.cell? ⟨w.heap.size,1,none⟩=some (.int .i64 (wrap64 (-d)))∧w'.cell? ⟨w.heap.size,2,none⟩=some (.bool closed)∧Since w w') (by kernel_rfl) (by kernel_rfl) (by(repeat' refine And.intro ?_ ?_) <;> first | (simp (maxDischargeDepth:=9) [c0,c1,c2,hl,  cSetS,cSetO,cellNew,World.cell?_alloc_some,cellDrew];done) | (repeat (first | with_reducible assumption | with_reducible exact Since.rfl_ _ | refine Since.setCell ?_ (by(try dsimp only);omega) _ | refine Since.alloc ?_ _ | refine Since.drew ?_))) ?_
 repeat (go_big_quiet_step ((first | (intro hC;go_at_call 124;refine(cmp_any _ _ _ _ _ _ _).mono ?_;rintro e w' ⟨rfl,hb⟩;refine⟨rfl,?_⟩;have k1:=keepC hb;have k2:=keepS hb;have hC:=hC.out;(try dsimp only at hC);simp[Cls,hC,k1,k2]) | (intro hC;have hC:=hC.out;(try simp only[hC,Result.andThen]);first | exact⟨True.intro,rfl⟩ | exact⟨rfl,rfl⟩ | rfl))))
 refine cls_end ?_
 rintro w1 ⟨d0,d1,d2,e0,e1,e2,hs⟩
 have hb1:=hs.blk HB.out
 have f0:=hb1.frozen 3
 have f1:=hb1.frozen 4
 have f2:=hb1.frozen 5
 have HB1:=Lib.hid hb1
 have HS:=Lib.hid hs
 clear HB hb1 hs
 go_wp2
 go_end0
 exact⟨rfl,((HB1.out.set_ 3 _).set_ 4 _).set_ 5 _,(((HS.out.only g).setCell (.inl rfl) _).setCell (.inl rfl) _).setCell (.inl rfl) _⟩
theorem most_nB(g:Nat)(ln ld hn hd n d:Int)(lc hc:Bool)(w:World)(hb:Blk w g 151 (part6 ln ld lc hn hd hc))(hd0:d<0)(h1:bndCmp (wrap64 (-n)) (wrap64 (-d)) hn hd=0) :
  Calls Tryz.prog 158 #[.pointer (some ⟨g,0,none⟩),.int .i64 n,.int .i64 d,.bool false] w fun e w' => e=.returned (.tuple #[])∧Blk w' g 151 (part6 ln ld lc (wrap64 (-n)) (wrap64 (-d)) false)∧Only g w w' := by
 have c0:w.cell? ⟨g,3,none⟩=some (.int .i64 hn):=hb.cell 3
 have c1:w.cell? ⟨g,4,none⟩=some (.int .i64 hd):=hb.cell 4
 have c2:w.cell? ⟨g,5,none⟩=some (.bool hc):=hb.cell 5
 have hl:=hb.lt
 have HB:=Lib.hid hb
 clear hb
 go_enter Tryz.func158,Tryz.ntmps158
 go_wp2
 refine region_cls (fun w' => w'.cell? ⟨g,3,none⟩=some (.int .i64 hn)∧w'.cell? ⟨g,4,none⟩=some (.int .i64 hd)∧w'.cell? ⟨g,5,none⟩=some (.bool hc)∧w'.cell? ⟨w.heap.size,0,none⟩=some (.int .i64 (wrap64 (-n)))∧w'.cell? ⟨w.heap.size,1,none⟩=some (.int .i64 (wrap64 (-d)))∧w'.cell? ⟨w.heap.size,2,none⟩=some (.bool false)∧Since w w') (by kernel_rfl) (by kernel_rfl) (by(repeat' refine And.intro ?_ ?_) <;> first | (simp (maxDischargeDepth:=9) [c0,c1,c2,hl,  cSetS,cSetO,cellNew,World.cell?_alloc_some,cellDrew];done) | (repeat (first | with_reducible assumption | with_reducible exact Since.rfl_ _ | refine Since.setCell ?_ (by(try dsimp only);omega) _ | refine Since.alloc ?_ _ | refine Since.drew ?_))) ?_
 repeat (go_big_quiet_step ((first | (intro hC;go_at_call 124;refine(cmp_any _ _ _ _ _ _ _).mono ?_;rintro e w' ⟨rfl,hb⟩;refine⟨rfl,?_⟩;have k1:=keepC hb;have k2:=keepS hb;have hC:=hC.out;(try dsimp only at hC);simp[Cls,hC,k1,k2]) | (intro hC;have hC:=hC.out;(try simp only[hC,Result.andThen]);first | exact⟨True.intro,rfl⟩ | exact⟨rfl,rfl⟩ | rfl))))
 refine cls_end ?_
 rintro w1 ⟨d0,d1,d2,e0,e1,e2,hs⟩
 have hb1:=hs.blk HB.out
 have f0:=hb1.frozen 3
 have f1:=hb1.frozen 4
 have f2:=hb1.frozen 5
 have HB1:=Lib.hid hb1
 have HS:=Lib.hid hs
 clear HB hb1 hs
 go_wp2
 go_end0
 exact⟨rfl,((HB1.out.set_ 3 _).set_ 4 _).set_ 5 _,(((HS.out.only g).setCell (.inl rfl) _).setCell (.inl rfl) _).setCell (.inl rfl) _⟩
theorem most_nC(g:Nat)(ln ld hn hd n d:Int)(lc hc:Bool)(w:World)(hb:Blk w g 151 (part6 ln ld lc hn hd hc))(hd0:d<0)(h1:bndCmp (wrap64 (-n)) (wrap64 (-d)) hn hd=0) :
  Calls Tryz.prog 158 #[.pointer (some ⟨g,0,none⟩),.int .i64 n,.int .i64 d,.bool true] w fun e w' => e=.returned (.tuple #[])∧Blk w' g 151 (part6 ln ld lc hn hd hc)∧Only g w w' := by
 have c0:w.cell? ⟨g,3,none⟩=some (.int .i64 hn):=hb.cell 3
 have c1:w.cell? ⟨g,4,none⟩=some (.int .i64 hd):=hb.cell 4
 have c2:w.cell? ⟨g,5,none⟩=some (.bool hc):=hb.cell 5
 have hl:=hb.lt
 have HB:=Lib.hid hb
 clear hb
 go_enter Tryz.func158,Tryz.ntmps158
 go_wp2
 refine region_cls (fun w' => w'.cell? ⟨g,3,none⟩=some (.int .i64 hn)∧w'.cell? ⟨g,4,none⟩=some (.int .i64 hd)∧w'.cell? ⟨g,5,none⟩=some (.bool hc)∧w'.cell? ⟨w.heap.size,0,none⟩=some (.int .i64 (wrap64 (-n)))∧w'.cell? ⟨w.heap.size,1,none⟩=some (.int .i64 (wrap64 (-d)))∧w'.cell? ⟨w.heap.size,2,none⟩=some (.bool true)∧Since w w') (by kernel_rfl) (by kernel_rfl) (by(repeat' refine And.intro ?_ ?_) <;> first | (simp (maxDischargeDepth:=9) [c0,c1,c2,hl,  cSetS,cSetO,cellNew,World.cell?_alloc_some,cellDrew];done) | (repeat (first | with_reducible assumption | with_reducible exact Since.rfl_ _ | refine Since.setCell ?_ (by(try dsimp only);omega) _ | refine Since.alloc ?_ _ | refine Since.drew ?_))) ?_
 repeat (go_big_quiet_step ((first | (intro hC;go_at_call 124;refine(cmp_any _ _ _ _ _ _ _).mono ?_;rintro e w' ⟨rfl,hb⟩;refine⟨rfl,?_⟩;have k1:=keepC hb;have k2:=keepS hb;have hC:=hC.out;(try dsimp only at hC);simp[Cls,hC,k1,k2]) | (intro hC;have hC:=hC.out;(try simp only[hC,Result.andThen]);first | exact⟨True.intro,rfl⟩ | exact⟨rfl,rfl⟩ | rfl))))
 refine cls_end ?_
 rintro w1 ⟨d0,d1,d2,e0,e1,e2,hs⟩
 have hb1:=hs.blk HB.out
 have f0:=hb1.frozen 3
 have f1:=hb1.frozen 4
 have f2:=hb1.frozen 5
 have HB1:=Lib.hid hb1
 have HS:=Lib.hid hs
 clear HB hb1 hs
 go_wp2
 go_end0
 exact⟨rfl,HB1.out,HS.out.only g⟩
theorem most_nD(g:Nat)(ln ld hn hd n d:Int)(lc hc closed:Bool)(w:World)(hb:Blk w g 151 (part6 ln ld lc hn hd hc))(hd0:d<0)(h1:0<bndCmp (wrap64 (-n)) (wrap64 (-d)) hn hd) :
  Calls Tryz.prog 158 #[.pointer (some ⟨g,0,none⟩),.int .i64 n,.int .i64 d,.bool closed] w fun e w' => e=.returned (.tuple #[])∧Blk w' g 151 (part6 ln ld lc hn hd hc)∧Only g w w' := by
 have hz:(bndCmp (wrap64 (-n)) (wrap64 (-d)) hn hd == 0)=false:=by rw[beq_eq_false_iff_ne];omega
 have hz1:decide (bndCmp (wrap64 (-n)) (wrap64 (-d)) hn hd<0)=false:=by rw[decide_eq_false_iff_not];omega
 have c0:w.cell? ⟨g,3,none⟩=some (.int .i64 hn):=hb.cell 3
 have c1:w.cell? ⟨g,4,none⟩=some (.int .i64 hd):=hb.cell 4
 have c2:w.cell? ⟨g,5,none⟩=some (.bool hc):=hb.cell 5
 have hl:=hb.lt
 have HB:=Lib.hid hb
 clear hb
 go_enter Tryz.func158,Tryz.ntmps158
 go_wp2
 refine region_cls (fun w' => w'.cell? ⟨g,3,none⟩=some (.int .i64 hn)∧w'.cell? ⟨g,4,none⟩=some (.int .i64 hd)∧w'.cell? ⟨g,5,none⟩=some (.bool hc)∧w'.cell? ⟨w.heap.size,0,none⟩=some (.int .i64 (wrap64 (-n)))∧w'.cell? ⟨w.heap.size,1,none⟩=some (.int .i64 (wrap64 (-d)))∧w'.cell? ⟨w.heap.size,2,none⟩=some (.bool closed)∧Since w w') (by kernel_rfl) (by kernel_rfl) (by(repeat' refine And.intro ?_ ?_) <;> first | (simp (maxDischargeDepth:=9) [c0,c1,c2,hl,  cSetS,cSetO,cellNew,World.cell?_alloc_some,cellDrew];done) | (repeat (first | with_reducible assumption | with_reducible exact Since.rfl_ _ | refine Since.setCell ?_ (by(try dsimp only);omega) _ | refine Since.alloc ?_ _ | refine Since.drew ?_))) ?_
 repeat (go_big_quiet_step ((first | (intro hC;go_at_call 124;refine(cmp_any _ _ _ _ _ _ _).mono ?_;rintro e w' ⟨rfl,hb⟩;refine⟨rfl,?_⟩;have k1:=keepC hb;have k2:=keepS hb;have hC:=hC.out;(try dsimp only at hC);simp[Cls,hC,k1,k2]) | (intro hC;have hC:=hC.out;(try simp only[hC,Result.andThen]);first | exact⟨True.intro,rfl⟩ | exact⟨rfl,rfl⟩ | rfl))))
 refine cls_end ?_
 rintro w1 ⟨d0,d1,d2,e0,e1,e2,hs⟩
 have hb1:=hs.blk HB.out
 have f0:=hb1.frozen 3
 have f1:=hb1.frozen 4
 have f2:=hb1.frozen 5
 have HB1:=Lib.hid hb1
 have HS:=Lib.hid hs
 clear HB hb1 hs
 go_wp2
 go_end0
 exact⟨rfl,HB1.out,HS.out.only g⟩
end
section
open Go.RowKit Go.BigFrame
section
variable {P : Program} {ops : Array Oper} {md : Region.Mode} {C : World → Prop}
def wpHead(P:Program)(md:Region.Mode)(ops:Array Oper)(C:World→Prop)(n:Nat)(L:Array Bool→Act→Prop):Nat→Array Bool→Act→Prop
 | 0,listed,a=>L listed a
 | f+1,listed,a=>Region.ready md ops listed≠[]∧∀ i∈Region.ready md ops listed,i<n∧qOp P ops C i (wpHead P md ops C n L f (listed.setIfInBounds i true)) a
theorem wpHead_any{n g:Nat}{L:Array Bool→Act→Prop}{Q' : Exit→Act→World→Prop}(hL:∀ listed a w,C w→L listed a→wpAny P md ops Q' g listed a w) :
  ∀ (f:Nat) (listed:Array Bool) (a:Act) (w:World),C w→wpHead P md ops C n L f listed a→wpAny P md ops Q' (f+g) listed a w:=by
 intro f
 induction f with
 | zero=>intro listed a w hw h;rw[Nat.zero_add];exact hL _ _ _ hw h
 | succ f ih =>
  intro listed a w hw h
  rw[show f+1+g=(f+g)+1 by omega]
  exact⟨fun h0=>absurd h0 h.1,fun i hi=>wpOp_of_qOp hw (fun a' w' hw' h' => ih _ a' w' hw' h') (h.2 i hi).2⟩
theorem wpHead_first{n i:Nat}{oi:Oper}{v:Value}{L:Array Bool→Act→Prop}(hi:ops[i]? = some oi)(hsel:∀ (j:Nat) (o:Oper) cs b,ops[j]? = some o→o.op ≠ .select cs b)
  (hs:Region.sinkB md ops n=true) (hc:Region.chainB md ops n=true) (hn:n<ops.size) (hin:i<n)
  (hdone:∀ listed a,L listed a→∀ j∈Region.ready md ops listed,n≤j) :
  ∀ (f:Nat) (listed:Array Bool) (a:Act),HeadInv md ops n listed →
   (∀ j oj,ops[j]? = some oj→j≠i→listed.getD j true=false→(∀ e∈oj.after,Region.binds md e=true→e.on≠i)→oi.apart ops oj=true) →
   i∈Region.ready md ops listed→YieldsIn P ops C oi v a →
   wpHead P md ops C n L f (listed.setIfInBounds i true) (a.put oi.dst v)→wpHead P md ops C n L (f+1) listed a:=by
 intro f
 induction f with
 | zero =>
  intro listed a inv _ hr hy H
  refine⟨fun h=>(by rw[h] at hr;cases hr),fun j hj=>?_⟩
  have hjn:j<n:=by
   rcases Nat.lt_or_ge j n with h | h
   ·exact h
   ·exact absurd hj (tail_waits hs hc hn inv _ i rfl hin (mem_ready.1 hr).1 j h)
  refine⟨hjn,?_⟩
  by_cases hji:j=i
  ·subst hji;exact hy.qOp hi H
  ·have:=hdone _ _ H j (ready_mono hj hji)
   omega
 | succ f ih =>
  intro listed a inv hfree hr hy H
  refine⟨fun h=>(by rw[h] at hr;cases hr),fun j hj=>?_⟩
  have hjn:j<n:=by
   rcases Nat.lt_or_ge j n with h | h
   ·exact h
   ·exact absurd hj (tail_waits hs hc hn inv _ i rfl hin (mem_ready.1 hr).1 j h)
  refine⟨hjn,?_⟩
  by_cases hji:j=i
  ·subst hji;exact hy.qOp hi H
  ·have h1:=(H.2 j (ready_mono hj hji)).2
   obtain⟨hjun,oj,hoj,hall⟩:=mem_ready.1 hj
   have hnot:∀ e∈oj.after,Region.binds md e=true→e.on≠i:=fun e he hb heq=>by
    have h2:=hall e he hb
    rw[heq,getD_both (mem_ready.1 hr).1] at h2
    cases h2
   have h2:=qOp_put hoj (hfree j oj hoj hji hjun hnot) (fun cs b=>hsel i oi cs b hi) (fun cs b=>hsel j oj cs b hoj) hy h1
   refine qOp_mono (fun a' h3=>ih (listed.setIfInBounds j true) a' (inv.set hj hjn) (fun k ok hk hki hun hno=>hfree k ok hk hki ?_ hno) (ready_mono hr (Ne.symm hji)) h3.1 ?_) h2
   ·by_cases hjk:j=k
    ·subst hjk;exact hjun
    ·rw[getD_set_ne true hjk] at hun;exact hun
   ·rw[Array.setIfInBounds_comm _ _ hji]
    exact h3.2
theorem wpHead_lex{n g:Nat}{Lq:Act→Prop}(hsel:Region.noSelect ops=true)(hs:Region.sinkB md ops n=true)(hc:Region.chainB md ops n=true)(hn:n<ops.size) :
  ∀ (l:List Oper) (k:Nat) (listed:Array Bool) (a:Act),(∀ j,j<l.length→l[j]? = ops[k+j]?)→k+l.length=n→HeadInv md ops n listed →
  Region.lexHead md ops g l.length k listed=true→wpQuiet P ops C Lq l a →
  wpHead P md ops C n (fun listed' a' => Region.seqB md ops g n listed' = true∧Lq a') l.length listed a:=by
 intro l
 induction l with
 | nil =>
  intro k listed a _ hk _ hB h
  have:k=n:=by simpa using hk
  subst this
  exact⟨by simpa[Region.lexHead] using hB,h⟩
 | cons o l ih =>
  intro k listed a hl hk inv hB h
  have h0:ops[k]? = some o:=by simpa using (hl 0 (by simp)).symm
  simp only[List.length_cons,Region.lexHead,Bool.and_eq_true] at hB
  obtain⟨⟨hr,hf⟩,hB'⟩:=hB
  have hkn:k<n:=by simp only[List.length_cons] at hk;omega
  have hr' : k∈Region.ready md ops listed:=by simpa using hr
  have hst:qOp P ops C k (wpQuiet P ops C Lq l) a:=by unfold qOp;simp only[h0];exact h
  obtain⟨v,hy,hK⟩:=yieldsIn_of_qOp h0 hst
  exact wpHead_first h0 (Region.noSelect_spec hsel) hs hc hn hkn (fun listed' a' hL=>seqB_ready hL.1) l.length listed a inv (Region.free_spec h0 hf) hr' hy
   (ih (k+1) _ _ (fun j hj=>by have:=hl (j+1) (by simp;omega);simpa[Nat.add_assoc,Nat.add_comm 1 j] using this) (by simp only[List.length_cons] at hk;omega) (inv.set hr' hkn) hB' hK)
end
theorem region_tail{P:Program}{id:Nat}{Q:Exit→Act→World→Prop}{a:Act}{w:World}{l:List Oper}(n:Nat)(S:World→Prop)(hm:P.follows .mixedOrders=true)(hB:Region.lexTailB .any l.toArray n=true)(hS:S w.drew)
  (h:wpQuiet P l.toArray (Cls S) (fun a' => ∀ w',S w' → wpList P l.toArray Q (l.drop n) a' w') (l.take n) a):(Code.region id l.toArray true).wp P Q a w:=by
 simp only[Region.lexTailB,Bool.and_eq_true,decide_eq_true_eq] at hB
 obtain⟨⟨⟨⟨hsel,hn⟩,hs⟩,hc⟩,hlex⟩:=hB
 have hn' : n<l.length:=by simpa using hn
 have htl:(l.take n).length=n:=by simp;omega
 have hdl:(l.drop n).length=l.toArray.size-n:=by simp
 have inv0:HeadInv .any l.toArray n (Array.replicate l.toArray.size false) :=
  ⟨by simp,fun j oj _ hl=>(by rw[getD_replicate_false] at hl;cases hl),fun t _ ht=>getD_in (by simpa using ht) (getD_replicate_false _ _)⟩
 have H:=wpHead_lex (md:=.any) (g:=l.toArray.size-n) hsel hs hc hn (l.take n) 0 _ a (fun j hj=>by
  have hj' : j<n:=by rw[htl] at hj;exact hj
  simp[hj']) (by simpa using htl) inv0 (by rw[htl];exact hlex) h
 refine wp_region_any hm ?_
 have:=wpHead_any (Q' := Q) (g:=l.toArray.size-n) (fun listed a' w' hw' hL=>by
  have:=wpAny_of_seq (md:=.any) (Q' := Q) (l.drop n) n listed a' w' (fun j=>by simp[List.getElem?_drop]) (by rw[hdl];exact hL.1) (hL.2 w' hw')
  rwa[hdl] at this) _ _ _ { w with drawn:=w.drawn+1 } hS H
 rw[htl,show n+(l.toArray.size-n)=l.toArray.size by omega] at this
 exact this
theorem tail_end{P:Program}{ops:Array Oper}{S:World→Prop}{Q:Act→World→Prop}{a:Act}(h:∀ w',S w' → Q a w'):wpQuiet P ops (Cls S) (fun a' => ∀ w',S w' → Q a' w') [] a:=h
end
end Go.Proofs.YtdnccjdlmepafaaGreat
