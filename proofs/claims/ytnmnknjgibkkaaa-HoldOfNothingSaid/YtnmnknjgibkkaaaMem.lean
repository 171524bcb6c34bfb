/- Words for memory: blocks known whole, slices that read as lists, frames. -/
import Derived.WalkKit
import Derived.WalkSpells
import Derived.WalkLawsBesides
import Derived.Test.YtnmnknjgibkkaaaWords
import Derived.Laws.OwnMore
import Derived.Deep.AppendLies
import Derived.Deep.Draws
import Derived.Deep.QuietTactic
import Derived.BigQuiet
import Derived.StillTailTactics
namespace Go.Proofs.Ytnmnknjgibkkaaa
open Go.RowKit

theorem hide {p : Prop} (h : p) : Hid p := h
theorem unhide {p : Prop} (h : Hid p) : p := h

theorem quiet_add_same {P : Program} {f : FuncId} {args : Array Value} {w : World} {a n : Nat} {v : Value}
    (h : Calls P f args (w.drewN (a + n)) fun e w' => e = .returned v ∧ w' = w.drewN (a + n)) :
    Calls P f args (w.drewN (a + n)) fun e w'' => e = .returned v ∧ ∃ m, w'' = w.drewN (a + m) :=
  h.mono fun _ _ ⟨he, hm⟩ => ⟨he, n, hm⟩

/-- Block g is just the cells cs of element type t, none frozen. -/
def Blk (w : World) (g : Nat) (t : TypeId) (cs : Array Value) : Prop := w.heap[g]? = some (.cells cs t (0, 0))

section
variable {w w' : World} {g : Nat} {t : TypeId} {cs : Array Value}
theorem Blk.lt (h : Blk w g t cs) : g < w.heap.size := by
  rcases Nat.lt_or_ge g w.heap.size with hlt | hge
  · exact hlt
  · unfold Blk at h; rw [Array.getElem?_eq_none hge] at h; cases h
theorem Blk.cell (h : Blk w g t cs) (i : Nat) : w.cell? ⟨g, i, none⟩ = cs[i]? := cell_of_row w g i cs t (0, 0) h
theorem Blk.frozen (h : Blk w g t cs) (i : Nat) : w.frozen? ⟨g, i, none⟩ = false := by
  unfold Blk at h
  simp [World.frozen?, h]
theorem Blk.new (w : World) (t : TypeId) (cs : Array Value) : Blk (w.alloc (.cells cs t)) w.heap.size t cs := heap_alloc_new w _
theorem Blk.drew (h : Blk w g t cs) : Blk w.drew g t cs := h
theorem Blk.drewN (h : Blk w g t cs) (n : Nat) : Blk (w.drewN n) g t cs := h
theorem Blk.alloc (h : Blk w g t cs) (o : Obj) : Blk (w.alloc o) g t cs := (Below.heap_alloc w o g h.lt).trans h
theorem Blk.set_ (h : Blk w g t cs) (i : Nat) (u : Value) : Blk (w.setCell ⟨g, i, none⟩ u) g t (cs.setIfInBounds i u) := by
  unfold Blk at h ⊢
  simp [World.setCell, Array.getElem?_modify, h]
theorem Blk.far (h : Blk w g t cs) {p : Addr} (hp : g ≠ p.block) (u : Value) : Blk (w.setCell p u) g t cs := (Below.heap_setCell w p u g hp).trans h
theorem Blk.below {B : Nat} (h : Blk w g t cs) (hb : Below B w w') (hg : g < B) : Blk w' g t cs := (hb.block g hg).trans h
theorem Blk.grown {row : Option Nat} (h : Blk w g t cs) (hb : w.grownBy w' row) (hg : some g ≠ row) : Blk w' g t cs := (hb.block g h.lt hg).trans h
end

theorem block_of_add (a : Addr) (n : Nat) : (a.add n).block = a.block := by unfold Addr.add; split <;> rfl
theorem add_of_add (a : Addr) (i j : Nat) : (a.add i).add j = a.add (i + j) := by
  unfold Addr.add
  by_cases hi : i = 0 <;> by_cases hj : j = 0 <;> simp [hi, hj, Nat.add_assoc]

/-- The slice value '.slice A n c' holds the cells xs, of 'size' cells an element, below block B. -/
def Reads (w : World) (B size : Nat) (A : Option Addr) (n : Nat) (xs : List Value) : Prop :=
  xs.length = n * size ∧ (0 < n → ∃ ad, A = some ad ∧ ad.block < B ∧ ∀ j u, xs[j]? = some u → w.cell? (ad.add j) = some u)

section
variable {w w' : World} {B B' size n : Nat} {A : Option Addr} {xs : List Value}
theorem Reads.none_ : Reads w B size A 0 [] := ⟨by simp, fun h => absurd h (by omega)⟩
theorem Reads.at_ {k : Nat} (h : Reads w B 1 A n xs) (hk : k < n) : ∃ ad u, A = some ad ∧ ad.block < B ∧ xs[k]? = some u ∧ w.cell? (ad.add k) = some u := by
  obtain ⟨ad, e, hb, hc⟩ := h.2 (by omega)
  have hl : k < xs.length := by have := h.1; omega
  exact ⟨ad, xs[k], e, hb, List.getElem?_eq_getElem hl, hc k _ (List.getElem?_eq_getElem hl)⟩
theorem Reads.keep (h : Reads w B size A n xs) (hk : ∀ p : Addr, p.block < B → w'.cell? p = w.cell? p) : Reads w' B size A n xs :=
  ⟨h.1, fun hn => by
    obtain ⟨ad, e, hb, hc⟩ := h.2 hn
    exact ⟨ad, e, hb, fun j u hu => (hk _ (by rw [block_of_add]; exact hb)).trans (hc j u hu)⟩⟩
theorem Reads.more (h : Reads w B size A n xs) (hB : B ≤ B') : Reads w B' size A n xs :=
  ⟨h.1, fun hn => by
    obtain ⟨ad, e, hb, hc⟩ := h.2 hn
    exact ⟨ad, e, by omega, hc⟩⟩
theorem Reads.below (h : Reads w B size A n xs) (hb : Below B w w') : Reads w' B size A n xs := h.keep fun _ hp => hb.cell hp
theorem Reads.drew (h : Reads w B size A n xs) : Reads w.drew B size A n xs := h
theorem Reads.drewN (h : Reads w B size A n xs) (k : Nat) : Reads (w.drewN k) B size A n xs := h
theorem Reads.alloc (h : Reads w B size A n xs) (hB : B ≤ w.heap.size) (o : Obj) : Reads (w.alloc o) B size A n xs := h.keep fun p hp => World.cell?_alloc_lt w o p (by omega)
theorem Reads.setCell (h : Reads w B size A n xs) {p : Addr} (hB : B ≤ p.block) (u : Value) : Reads (w.setCell p u) B size A n xs :=
  h.keep fun q hq => World.cell?_setCell_other w p q u (fun e => by subst e; omega)
theorem Reads.grown (h : Reads w B size A n xs) {row : Option Nat} (hg : w.grownBy w' row) (hB : B ≤ w.heap.size) (hr : ∀ g, row = some g → B ≤ g) : Reads w' B size A n xs :=
  h.keep fun p hp => World.cell?_of_block (hg.block p.block (by omega) (fun e => by have := hr _ e.symm; omega))
theorem Reads.cut (h : Reads w B size A n xs) {k cap : Nat} (hk : k ≤ n) (hc : n ≤ cap) :
    Reads w B size (if cap = k then A else A.map (·.add (k * size))) (n - k) (xs.drop (k * size)) := by
  refine ⟨by rw [List.length_drop, h.1, Nat.sub_mul], fun hn => ?_⟩
  obtain ⟨ad, rfl, hb, hcell⟩ := h.2 (by omega)
  rw [if_neg (by omega)]
  refine ⟨ad.add (k * size), rfl, by rw [block_of_add]; exact hb, fun j u hu => ?_⟩
  rw [add_of_add]
  exact hcell _ u (by rw [← hu, List.getElem?_drop])
theorem Reads.of_own {base : Nat} {e : TypeId} {c : Nat} (h : w.ownsRow base e size (.slice A n c) n xs) : Reads w w.heap.size size A n xs := by
  refine ⟨h.1, fun hn => ?_⟩
  obtain ⟨g, cap, hv, _, hlt⟩ := h.form hn
  have hA : A = some ⟨g, 0, none⟩ := by injection hv
  subst hA
  exact ⟨_, rfl, hlt, h.cells (g := g) rfl⟩
/-- The first m of n elements. -/
theorem Reads.take (h : Reads w B size A n xs) {m : Nat} (hm : m ≤ n) : Reads w B size A m (xs.take (m * size)) := by
  refine ⟨by rw [List.length_take, h.1]; exact Nat.min_eq_left (Nat.mul_le_mul_right _ hm), fun hn => ?_⟩
  obtain ⟨ad, rfl, hb, hcell⟩ := h.2 (by omega)
  refine ⟨ad, rfl, hb, fun j u hu => hcell j u ?_⟩
  rw [List.getElem?_take] at hu
  split at hu
  · exact hu
  · cases hu
/-- A whole block's cells from i on, as a slice. -/
theorem Blk.reads {g : Nat} {t : TypeId} {cs : Array Value} (h : Blk w g t cs) (i m : Nat) (hm : i + m ≤ cs.size) : Reads w w.heap.size 1 (some ⟨g, i, none⟩) m ((cs.toList.drop i).take m) := by
  refine ⟨by simp; omega, fun _ => ⟨_, rfl, h.lt, fun j u hu => ?_⟩⟩
  have : (⟨g, i, none⟩ : Addr).add j = ⟨g, i + j, none⟩ := by unfold Addr.add; split <;> simp_all
  rw [this, h.cell]
  rw [List.getElem?_take] at hu
  split at hu
  · simpa [List.getElem?_drop] using hu
  · cases hu
end


/-- w is w0 with new blocks, and with writes to blocks of 'own' alone. -/
structure Grow (w0 : World) (own : Nat → Prop) (w : World) : Prop where
  os : w.os = w0.os
  tape : w.tape = w0.tape
  output : w.output = w0.output
  size : w0.heap.size ≤ w.heap.size
  block : ∀ i, i < w0.heap.size → ¬ own i → w.heap[i]? = w0.heap[i]?

/-- Nothing of what was there. -/
def noOwn : Nat → Prop := fun _ => False
/-- One block. -/
def own1 (g : Nat) : Nat → Prop := fun i => i = g

section
variable {w0 w w' : World} {own own' : Nat → Prop}
theorem Grow.refl (w : World) (own : Nat → Prop) : Grow w own w := ⟨rfl, rfl, rfl, Nat.le_refl _, fun _ _ _ => rfl⟩
theorem Grow.below (h : Grow w0 noOwn w) : Below w0.heap.size w0 w := ⟨h.os, h.tape, h.output, h.size, fun i hi => h.block i hi (fun e => e)⟩
theorem Grow.of_below (h : Below w0.heap.size w0 w) (own : Nat → Prop) : Grow w0 own w := ⟨h.os, h.tape, h.output, h.size, fun i hi _ => h.block i hi⟩
theorem Grow.of_grownBy {row : Option Nat} (h : w0.grownBy w row) : Grow w0 (fun i => some i = row) w := ⟨h.os, h.tape, h.output, h.size, fun i hi hn => h.block i hi hn⟩
theorem Grow.mono (h : Grow w0 own w) (hs : ∀ i, i < w0.heap.size → own i → own' i) : Grow w0 own' w := ⟨h.os, h.tape, h.output, h.size, fun i hi hn => h.block i hi (fun e => hn (hs i hi e))⟩
theorem Grow.any (h : Grow w0 noOwn w) (own : Nat → Prop) : Grow w0 own w := h.mono (fun _ _ e => e.elim)
theorem Grow.trans (h : Grow w0 own w) (k : Grow w own' w') (hs : ∀ i, i < w0.heap.size → own' i → own i) : Grow w0 own w' :=
  ⟨k.os.trans h.os, k.tape.trans h.tape, k.output.trans h.output, Nat.le_trans h.size k.size, fun i hi hn => (k.block i (Nat.lt_of_lt_of_le hi h.size) (fun e => hn (hs i hi e))).trans (h.block i hi hn)⟩
theorem Grow.then_ (h : Grow w0 own w) (k : Grow w noOwn w') : Grow w0 own w' := h.trans k (fun _ _ e => e.elim)
theorem Grow.drewN (h : Grow w0 own w) (n : Nat) : Grow w0 own (w.drewN n) := ⟨h.os, h.tape, h.output, h.size, h.block⟩
theorem Grow.drew (h : Grow w0 own w) : Grow w0 own w.drew := ⟨h.os, h.tape, h.output, h.size, h.block⟩
theorem Grow.alloc (h : Grow w0 own w) (o : Obj) : Grow w0 own (w.alloc o) :=
  ⟨h.os, h.tape, h.output, Nat.le_trans h.size (by simp), fun i hi hne => (Below.heap_alloc w o i (Nat.lt_of_lt_of_le hi h.size)).trans (h.block i hi hne)⟩
theorem Grow.setCell (h : Grow w0 own w) {p : Addr} (hp : own p.block ∨ w0.heap.size ≤ p.block) (u : Value) : Grow w0 own (w.setCell p u) :=
  ⟨h.os, h.tape, h.output, by simpa [World.setCell] using h.size, fun i hi hne => (Below.heap_setCell w p u i (by
    rintro rfl
    rcases hp with hp | hp
    · exact hne hp
    · omega)).trans (h.block i hi hne)⟩
theorem Grow.setRow (h : Grow w0 own w) {g : Nat} (hp : own g ∨ w0.heap.size ≤ g) (cs : Array Value) : Grow w0 own (w.setRow g cs) :=
  ⟨h.os, h.tape, h.output, by simpa using h.size, fun i hi hne => (setRow_other w g i cs (by
    rintro rfl
    rcases hp with hp | hp
    · exact hne hp
    · omega)).trans (h.block i hi hne)⟩
theorem Grow.blk (h : Grow w0 own w) {g : Nat} {t : TypeId} {cs : Array Value} (hb : Blk w0 g t cs) (hn : ¬ own g) : Blk w g t cs := (h.block g hb.lt hn).trans hb
theorem Grow.keep (h : Grow w0 own w) {p : Addr} (hp : p.block < w0.heap.size) (hn : ¬ own p.block) : w.cell? p = w0.cell? p := World.cell?_of_block (h.block _ hp hn)
theorem Reads.grow {B size n : Nat} {A : Option Addr} {xs : List Value} (h : Reads w0 B size A n xs) (hg : Grow w0 noOwn w) (hB : B ≤ w0.heap.size) : Reads w B size A n xs :=
  h.keep fun _ hp => hg.keep (by omega) (fun e => e)
theorem Reads.grow_own {B size n : Nat} {A : Option Addr} {xs : List Value} (h : Reads w0 B size A n xs) (hg : Grow w0 own w) (hB : B ≤ w0.heap.size) (hn : ∀ g, g < B → ¬ own g) : Reads w B size A n xs :=
  h.keep fun _ hp => hg.keep (by omega) (hn _ hp)
end

/-- What is at hand: a block known whole; a row of a slice's own (nil let in); a block of which something is known. -/
inductive Item where
  | blk (g : Nat) (t : TypeId) (cs : Array Value)
  | row (v : Value) (e : TypeId) (size n : Nat) (xs : List Value)
  | obj (g : Nat) (p : Obj → Prop)
  | res (F : Nat → Prop) (p : World → Prop)
/-- What holds of blocks F, holds as long as these are as they were. -/
def Stays (F : Nat → Prop) (p : World → Prop) : Prop := ∀ w1 w2 : World, (∀ i, F i → i < w1.heap.size) → (∀ i, F i → w2.heap[i]? = w1.heap[i]?) → p w1 → p w2
def Item.foot : Item → Nat → Prop
  | .blk g _ _ => fun i => g = i
  | .row v _ _ _ _ => fun i => v.ownBlock = some i
  | .obj g _ => fun i => g = i
  | .res F _ => F
def Item.at_ (w : World) : Item → Prop
  | .blk g t cs => Blk w g t cs
  | .row v e size n xs => w.ownsRow 0 e size v n xs
  | .obj g p => ∃ o, w.heap[g]? = some o ∧ p o
  | .res F p => (∀ i, F i → i < w.heap.size) ∧ p w ∧ Stays F p
theorem lt_of_same {w w' : World} {i : Nat} (hi : i < w.heap.size) (h : w'.heap[i]? = w.heap[i]?) : i < w'.heap.size := by
  rw [Array.getElem?_eq_getElem hi] at h
  exact (Array.getElem?_eq_some_iff.1 h).1
theorem Item.at_lt {w : World} {x : Item} (h : x.at_ w) (g : Nat) (hg : x.foot g) : g < w.heap.size := by
  cases x with
  | blk g' t cs => simp [Item.foot] at hg; subst hg; exact Blk.lt h
  | row v e size n xs => exact (World.ownsRow.lt h g hg).2
  | obj g' p =>
    simp [Item.foot] at hg; subst hg
    obtain ⟨o, ho, _⟩ := h
    exact (Array.getElem?_eq_some_iff.1 ho).1
  | res F p => exact h.1 g hg
theorem Item.keep {w w' : World} {x : Item} (h : x.at_ w) (hk : ∀ g, x.foot g → w'.heap[g]? = w.heap[g]?) : x.at_ w' := by
  cases x with
  | blk g t cs => exact (hk g rfl).trans h
  | row v e size n xs =>
    refine ⟨h.1, ?_⟩
    rcases h.2 with hn | ⟨g, cap, cur, rfl, hb, hgg, rest⟩
    · exact .inl hn
    · exact .inr ⟨g, cap, cur, rfl, hb, (hk g rfl).trans hgg, rest⟩
  | obj g p =>
    obtain ⟨o, ho, hp⟩ := h
    exact ⟨o, (hk g rfl).trans ho, hp⟩
  | res F p => exact ⟨fun i hi => lt_of_same (h.1 i hi) (hk i hi), h.2.2 w w' h.1 hk h.2.1, h.2.2⟩

/-- What is at hand: no two of them in one block, each new or the call's to write. -/
structure Mem (w0 : World) (own : Nat → Prop) (w : World) (L : List Item) : Prop where
  grow : Grow w0 own w
  has : ∀ x ∈ L, x.at_ w
  apart : L.Pairwise (fun x y => ∀ g, x.foot g → ¬ y.foot g)
  mine : ∀ x ∈ L, ∀ g, x.foot g → own g ∨ w0.heap.size ≤ g

section
variable {w0 w w' : World} {own own' : Nat → Prop} {L : List Item} {g : Nat} {t : TypeId} {cs : Array Value}
theorem Mem.nil (w0 : World) (own : Nat → Prop) : Mem w0 own w0 [] := ⟨Grow.refl _ _, (fun _ h => by cases h), List.Pairwise.nil, (fun _ h => by cases h)⟩
theorem Mem.start1 (hb : Blk w g t cs) (ho : own g) : Mem w own w [.blk g t cs] :=
  ⟨Grow.refl _ _, (fun x h => by simp at h; subst h; exact hb), by simp, (fun x h g' e => by simp at h; subst h; simp [Item.foot] at e; subst e; exact .inl ho)⟩
theorem Mem.drewN (h : Mem w0 own w L) (n : Nat) : Mem w0 own (w.drewN n) L := ⟨h.grow.drewN n, fun x hx => Item.keep (h.has x hx) (fun _ _ => rfl), h.apart, h.mine⟩
theorem Mem.drew (h : Mem w0 own w L) : Mem w0 own w.drew L := ⟨h.grow.drew, fun x hx => Item.keep (h.has x hx) (fun _ _ => rfl), h.apart, h.mine⟩
theorem Mem.at_ (h : Mem w0 own w L) (i : Nat) {x : Item} (hi : L[i]? = some x) : x.at_ w := h.has _ (List.mem_of_getElem? hi)
theorem Mem.blk (h : Mem w0 own w L) (i : Nat) (hi : L[i]? = some (.blk g t cs)) : Blk w g t cs := h.at_ i hi
theorem Mem.row (h : Mem w0 own w L) (i : Nat) {v : Value} {e : TypeId} {size n : Nat} {xs : List Value} (hi : L[i]? = some (.row v e size n xs)) : w.ownsRow 0 e size v n xs := h.at_ i hi
theorem Mem.own_ (h : Mem w0 own w L) (i : Nat) {x : Item} (hi : L[i]? = some x) (hg : x.foot g) : own g ∨ w0.heap.size ≤ g := h.mine _ (List.mem_of_getElem? hi) g hg
theorem Mem.lt (h : Mem w0 own w L) (i : Nat) {x : Item} (hi : L[i]? = some x) (hg : x.foot g) : g < w.heap.size := Item.at_lt (h.at_ i hi) g hg
theorem Mem.cell (h : Mem w0 own w L) (i : Nat) (hi : L[i]? = some (.blk g t cs)) (j : Nat) : w.cell? ⟨g, j, none⟩ = cs[j]? := (h.blk i hi).cell j
theorem Mem.frozen (h : Mem w0 own w L) (i : Nat) (hi : L[i]? = some (.blk g t cs)) (j : Nat) : w.frozen? ⟨g, j, none⟩ = false := (h.blk i hi).frozen j
theorem Mem.ne (h : Mem w0 own w L) (i j : Nat) {x y : Item} (hi : L[i]? = some x) (hj : L[j]? = some y) (hij : i ≠ j) (hx : x.foot g) : ¬ y.foot g := by
  obtain ⟨hli, rfl⟩ := List.getElem?_eq_some_iff.1 hi
  obtain ⟨hlj, rfl⟩ := List.getElem?_eq_some_iff.1 hj
  have hp := List.pairwise_iff_getElem.1 h.apart
  rcases Nat.lt_or_gt_of_ne hij with hlt | hlt
  · exact hp i j hli hlj hlt g hx
  · exact fun e => hp j i hlj hli hlt g e hx
/-- One thing more, in a new block (or in none). -/
theorem Mem.push (h : Mem w0 own w L) {x : Item} (hg : Grow w0 own w') (hk : ∀ k, k < w.heap.size → w'.heap[k]? = w.heap[k]?) (hx : x.at_ w') (hb : ∀ g, x.foot g → w.heap.size ≤ g) : Mem w0 own w' (x :: L) :=
  ⟨hg, fun y hy => by
    rcases List.mem_cons.1 hy with rfl | hy
    · exact hx
    · exact Item.keep (h.has y hy) (fun g e => hk g (Item.at_lt (h.has y hy) g e)),
   List.pairwise_cons.2 ⟨fun y hy g e e2 => by have := Item.at_lt (h.has y hy) g e2; have := hb g e; omega, h.apart⟩,
   fun y hy g e => by
    rcases List.mem_cons.1 hy with rfl | hy
    · have := hb g e; have := h.grow.size; exact .inr (by omega)
    · exact h.mine y hy g e⟩
theorem Mem.alloc (h : Mem w0 own w L) (t : TypeId) (cs : Array Value) : Mem w0 own (w.alloc (.cells cs t)) (.blk w.heap.size t cs :: L) :=
  h.push (h.grow.alloc _) (fun k hk => Below.heap_alloc w _ k hk) (Blk.new w t cs) (fun g e => by simp [Item.foot] at e; omega)
theorem Mem.obj (h : Mem w0 own w L) (o : Obj) : Mem w0 own (w.alloc o) L :=
  ⟨h.grow.alloc _, fun x hx => Item.keep (h.has x hx) (fun g e => Below.heap_alloc w o g (Item.at_lt (h.has x hx) g e)), h.apart, h.mine⟩
theorem Mem.pushNil (h : Mem w0 own w L) (e : TypeId) (size : Nat) : Mem w0 own w (.row (.slice none 0 0) e size 0 [] :: L) :=
  h.push h.grow (fun _ _ => rfl) (World.ownsRow_nil w 0 e size) (fun g e => by simp [Item.foot, Value.ownBlock] at e)
/-- One thing is changed, where it lies or into a new block. -/
theorem Mem.upd (h : Mem w0 own w L) (i : Nat) {x x' : Item} (hi : L[i]? = some x) (hg : Grow w0 own w') (hk : ∀ k, k < w.heap.size → ¬ x.foot k → w'.heap[k]? = w.heap[k]?) (hx : x'.at_ w')
    (hb : ∀ g, x'.foot g → x.foot g ∨ w.heap.size ≤ g) : Mem w0 own w' (L.set i x') := by
  have hli := (List.getElem?_eq_some_iff.1 hi).1
  have key : ∀ j (hj : j < (L.set i x').length), (j = i ∧ (L.set i x')[j] = x') ∨ (j ≠ i ∧ ∃ hj' : j < L.length, (L.set i x')[j] = L[j]) := by
    intro j hj
    by_cases hji : j = i
    · subst hji; exact .inl ⟨rfl, by simp⟩
    · exact .inr ⟨hji, by simpa using hj, by simp [Ne.symm hji]⟩
  have far : ∀ j (hj : j < L.length), j ≠ i → ∀ g, L[j].foot g → ¬ x'.foot g := by
    intro j hj hji g e e'
    rcases hb g e' with hb | hb
    · exact h.ne i j hi (List.getElem?_eq_getElem hj) (Ne.symm hji) hb e
    · have := h.lt j (List.getElem?_eq_getElem hj) e; omega
  refine ⟨hg, fun y hy => ?_, List.pairwise_iff_getElem.2 fun j k hj hk hjk g e => ?_, fun y hy g e => ?_⟩
  · obtain ⟨j, hj, rfl⟩ := List.mem_iff_getElem.1 hy
    rcases key j hj with ⟨_, e⟩ | ⟨hji, hj', e⟩
    · rw [e]; exact hx
    · rw [e]
      exact Item.keep (h.has _ (List.getElem_mem hj')) (fun g eg => hk g (h.lt j (List.getElem?_eq_getElem hj') eg) (fun e2 => h.ne i j hi (List.getElem?_eq_getElem hj') (Ne.symm hji) e2 eg))
  · rcases key j hj with ⟨hji, ej⟩ | ⟨hji, hj', ej⟩ <;> rcases key k hk with ⟨hki, ek⟩ | ⟨hki, hk', ek⟩
    · omega
    · rw [ek]; rw [ej] at e; exact fun e2 => far k hk' hki g e2 e
    · rw [ek]; rw [ej] at e; exact far j hj' hji g e
    · rw [ek]; rw [ej] at e; exact h.ne j k (List.getElem?_eq_getElem hj') (List.getElem?_eq_getElem hk') (by omega) e
  · obtain ⟨j, hj, rfl⟩ := List.mem_iff_getElem.1 hy
    rcases key j hj with ⟨_, e2⟩ | ⟨hji, hj', e2⟩
    · rw [e2] at e
      rcases hb g e with hb | hb
      · exact h.own_ i hi hb
      · exact .inr (by have := h.grow.size; omega)
    · rw [e2] at e; exact h.own_ j (List.getElem?_eq_getElem hj') e
theorem Mem.set (h : Mem w0 own w L) (i : Nat) (hi : L[i]? = some (.blk g t cs)) (j : Nat) (v : Value) : Mem w0 own (w.setCell ⟨g, j, none⟩ v) (L.set i (.blk g t (cs.setIfInBounds j v))) :=
  h.upd i hi (h.grow.setCell (p := ⟨g, j, none⟩) (h.own_ i hi rfl) v) (fun k _ hne => Below.heap_setCell w ⟨g, j, none⟩ v k (fun e => hne (by rw [e]; rfl))) ((h.blk i hi).set_ j v) (fun _ e => .inl e)
theorem Mem.setRow (h : Mem w0 own w L) (i : Nat) (hi : L[i]? = some (.blk g t cs)) (cs' : Array Value) : Mem w0 own (w.setRow g cs') (L.set i (.blk g t cs')) :=
  h.upd i hi (h.grow.setRow (h.own_ i hi rfl) cs') (fun k _ hne => setRow_other w g k cs' (fun e => hne (by rw [e]; rfl))) (setRow_heap w g cs cs' t (0, 0) (h.blk i hi)) (fun _ e => .inl e)
theorem Mem.sub (h : Mem w0 own w L) {L' : List Item} (hs : L'.Sublist L) : Mem w0 own w L' :=
  ⟨h.grow, fun x hx => h.has x (hs.subset hx), h.apart.sublist hs, fun x hx => h.mine x (hs.subset hx)⟩
theorem Mem.tail {x : Item} (h : Mem w0 own w (x :: L)) : Mem w0 own w L := h.sub (List.sublist_cons_self _ _)
/-- A call that writes nothing that was there. -/
theorem Mem.call (h : Mem w0 own w L) (k : Grow w noOwn w') : Mem w0 own w' L :=
  ⟨h.grow.then_ k, fun x hx => Item.keep (h.has x hx) (fun g e => k.block g (Item.at_lt (h.has x hx) g e) (fun e => e)), h.apart, h.mine⟩
/-- A call that writes one thing. -/
theorem Mem.call1 (h : Mem w0 own w L) (i : Nat) {x x' : Item} (hi : L[i]? = some x) (hg : x.foot g) (k : Grow w (own1 g) w') (hx : x'.at_ w') (hb : ∀ g', x'.foot g' → g' = g ∨ w.heap.size ≤ g') : Mem w0 own w' (L.set i x') :=
  h.upd i hi (h.grow.trans k (fun i' hi' e => by
    rcases h.own_ i hi hg with ho | ho
    · have e' : i' = g := e; rw [e']; exact ho
    · have e' : i' = g := e; omega)) (fun i' hi' hne => k.block i' hi' (fun e => hne (by rw [show i' = g from e]; exact hg))) hx (fun g' e => by
      rcases hb g' e with h1 | h1
      · subst h1; exact .inl hg
      · exact .inr h1)
/-- A call that writes what one thing stands on. -/
theorem Mem.callAt (h : Mem w0 own w L) (i : Nat) {x x' : Item} (hi : L[i]? = some x) {F : Nat → Prop} (hF : ∀ g, F g → x.foot g ∨ w.heap.size ≤ g) (k : Grow w F w') (hx : x'.at_ w') (hb : ∀ g, x'.foot g → x.foot g ∨ w.heap.size ≤ g) : Mem w0 own w' (L.set i x') :=
  h.upd i hi (h.grow.trans k (fun i' hi' e => by
    rcases hF i' e with h1 | h1
    · rcases h.own_ i hi h1 with ho | ho
      · exact ho
      · omega
    · have := h.grow.size; omega)) (fun i' hi' hne => k.block i' hi' (fun e => by
      rcases hF i' e with h1 | h1
      · exact hne h1
      · omega)) hx hb
theorem Mem.old (h : Mem w0 own w L) (hb : Blk w0 g t cs) (hn : ¬ own g) : Blk w g t cs := h.grow.blk hb hn
theorem Mem.reads (h : Mem w0 own w L) {B size n : Nat} {A : Option Addr} {xs : List Value} (hr : Reads w0 B size A n xs) (hB : B ≤ w0.heap.size) (hn : ∀ g, g < B → ¬ own g) : Reads w B size A n xs := hr.grow_own h.grow hB hn
end

/-- A slice that holds something: where it lies. -/
theorem Reads.form {w : World} {B size n : Nat} {A : Option Addr} {xs : List Value} (h : Reads w B size A n xs) (hn : 0 < n) (hs : 0 < size) :
    ∃ b off, A = some ⟨b, off, none⟩ ∧ b < B ∧ ∀ j u, xs[j]? = some u → w.cell? ⟨b, off + j, none⟩ = some u := by
  obtain ⟨ad, rfl, hb, hc⟩ := h.2 hn
  obtain ⟨b, off, spot⟩ := ad
  have hl : 0 < xs.length := by rw [h.1]; exact Nat.mul_pos hn hs
  have h0 := hc 0 _ (List.getElem?_eq_getElem hl)
  have hsp : spot = none := by
    cases spot with
    | none => rfl
    | some k =>
      rw [show (⟨b, off, some k⟩ : Addr).add 0 = ⟨b, off, some k⟩ from by simp [Addr.add]] at h0
      simp only [World.cell?] at h0
      split at h0
      · simp at h0
      · cases h0
  subst hsp
  refine ⟨b, off, rfl, hb, fun j u hu => ?_⟩
  have := hc j u hu
  rwa [show (⟨b, off, none⟩ : Addr).add j = ⟨b, off + j, none⟩ from by unfold Addr.add; split <;> simp_all] at this

/-- The slice '.slice A n c' holds these bytes, below block B. -/
def Bytes (w : World) (B : Nat) (A : Option Addr) (n : Nat) (l : List (BitVec 8)) : Prop := Reads w B 1 A n (l.map V8)
section
variable {w : World} {B n : Nat} {A : Option Addr} {l : List (BitVec 8)}
theorem Bytes.len (h : Bytes w B A n l) : l.length = n := by have := h.1; simpa using this
theorem Bytes.form (h : Bytes w B A n l) (hn : 0 < n) : ∃ b off, A = some ⟨b, off, none⟩ ∧ b < B ∧ ∀ j, j < n → w.cell? ⟨b, off + j, none⟩ = some (V8 (l.getD j 0)) := by
  obtain ⟨b, off, hA, hb, hc⟩ := Reads.form h hn (by decide)
  refine ⟨b, off, hA, hb, fun j hj => hc j _ ?_⟩
  have hjl : j < l.length := by rw [h.len]; exact hj
  simp [List.getElem?_eq_getElem hjl]
end

theorem Bytes.cut {w : World} {B n b off k cap : Nat} {l : List (BitVec 8)} (h : Bytes w B (some ⟨b, off, none⟩) n l) (hk : k ≤ n) (hc : n ≤ cap) :
    Bytes w B (if cap = k then some ⟨b, off, none⟩ else some ⟨b, off + k, none⟩) (n - k) (l.drop k) := by
  have h1 := Reads.cut h hk hc
  have e : (if cap = k then (some ⟨b, off, none⟩ : Option Addr) else (some ⟨b, off, none⟩ : Option Addr).map (·.add (k * 1))) = if cap = k then some ⟨b, off, none⟩ else some ⟨b, off + k, none⟩ := by
    split
    · rfl
    · rw [Nat.mul_one]; unfold Addr.add; simp only [Option.map]; split <;> simp_all
  rw [e] at h1
  unfold Bytes
  rw [List.map_drop]
  simpa using h1
theorem Bytes.grow {w w' : World} {own : Nat → Prop} {B n : Nat} {A : Option Addr} {l : List (BitVec 8)} (h : Bytes w B A n l) (hg : Grow w own w') (hB : B ≤ w.heap.size) (hn : ∀ g, g < B → ¬ own g) : Bytes w' B A n l :=
  Reads.grow_own h hg hB hn
theorem Bytes.more {w : World} {B B' n : Nat} {A : Option Addr} {l : List (BitVec 8)} (h : Bytes w B A n l) (hB : B ≤ B') : Bytes w B' A n l := Reads.more h hB
theorem Bytes.take {w : World} {B n m : Nat} {A : Option Addr} {l : List (BitVec 8)} (h : Bytes w B A n l) (hm : m ≤ n) : Bytes w B A m (l.take m) := by
  have := Reads.take h hm
  unfold Bytes
  rw [List.map_take]
  simpa using this

section
variable {P : Program} {ops : Array Oper} {rest : List Oper} {o : Oper} {a : Act} {w : World} {Q : Exit → Act → World → Prop}
/-- A new variable of a type whose zero value is an aggregate. -/
theorem wpList_alloc (hgd : Region.wanted o (yielded ops a.tmps) = true) (T : TypeId) (ho : o.op = .alloc T) (cs : Array Value) (hz : ((P.info? T).bind (·.zero)).map (·.cells) = some cs)
    (h : wpList P ops Q rest (a.put o.dst (.pointer (some ⟨w.heap.size, 0, none⟩))) (w.alloc (.cells cs T))) : wpList P ops Q (o :: rest) a w :=
  BigFrame.wpList_want hgd fun K hK => by
    cases hq : P.info? T with
    | none => simp [hq] at hz
    | some i =>
      cases hzi : i.zero with
      | none => simp [hq, hzi] at hz
      | some z =>
        have hz' : z.cells = cs := by simpa [hq, hzi] using hz
        have hr : (execOp a.eval o).run P w = .ok (.value (.pointer (some ⟨w.heap.size, 0, none⟩))) (w.alloc (.cells cs T)) := by
          simp [execOp, ho, Instr.alloc, zeroValue, typeInfo, hq, hzi, newVar, newRow, hz']
        unfold Oper.wp
        rw [hr]
        exact hK _ _ h
/-- A value is put into a block of its own. -/
theorem wpList_box (hgd : Region.wanted o (yielded ops a.tmps) = true) (T : TypeId) (x : Operand) (ho : o.op = .box T x) (v : Value) (hx : a.eval x = v)
    (h : wpList P ops Q rest (a.put o.dst (.pointer (some ⟨w.heap.size, 0, none⟩))) (w.alloc (.cells v.cells T))) : wpList P ops Q (o :: rest) a w :=
  BigFrame.wpList_want hgd fun K hK => by
    have hr : (execOp a.eval o).run P w = .ok (.value (.pointer (some ⟨w.heap.size, 0, none⟩))) (w.alloc (.cells v.cells T)) := by
      simp [execOp, ho, Instr.box, newVar, newRow, hx]
    unfold Oper.wp
    rw [hr]
    exact hK _ _ h
/-- The same two, the new block and the world behind names. -/
theorem wpList_alloc_mem {w0 : World} {own : Nat → Prop} {L : List Item} (hM : Mem w0 own w L) (hgd : Region.wanted o (yielded ops a.tmps) = true) (T : TypeId) (ho : o.op = .alloc T) (cs : Array Value) (hz : ((P.info? T).bind (·.zero)).map (·.cells) = some cs)
    (h : ∀ g w', Mem w0 own w' (.blk g T cs :: L) → wpList P ops Q rest (a.put o.dst (.pointer (some ⟨g, 0, none⟩))) w') : wpList P ops Q (o :: rest) a w :=
  wpList_alloc hgd T ho cs hz (h _ _ (hM.alloc T cs))
theorem wpList_box_mem {w0 : World} {own : Nat → Prop} {L : List Item} (hM : Mem w0 own w L) (hgd : Region.wanted o (yielded ops a.tmps) = true) (T : TypeId) (x : Operand) (ho : o.op = .box T x) (v : Value) (hx : a.eval x = v) (cs : Array Value) (hc : v.cells = cs)
    (h : ∀ g w', Mem w0 own w' (.blk g T cs :: L) → wpList P ops Q rest (a.put o.dst (.pointer (some ⟨g, 0, none⟩))) w') : wpList P ops Q (o :: rest) a w := by
  subst hc
  exact wpList_box hgd T x ho v hx (h _ _ (hM.alloc T v.cells))
/-- An aggregate made of parts. -/
theorem wpList_build_to (hgd : Region.wanted o (yielded ops a.tmps) = true) (t : TypeId) (parts : Array (Nat × Operand)) (ho : o.op = .build t parts) (cs : Array Value)
    (hf : P.built t (parts.map fun (i, x) => (i, a.eval x)).toList = some cs) (h : wpList P ops Q rest (a.put o.dst (.agg cs)) w) : wpList P ops Q (o :: rest) a w :=
  BigFrame.wpList_want hgd fun _ hK => wp_build t parts ho (by rw [hf]; rfl) (by rw [hf]; exact hK _ _ h)
/-- A whole block is written: the world behind it is a name. -/
theorem wpList_store_mem {w0 : World} {own : Nat → Prop} {L : List Item} (hgd : Region.wanted o (yielded ops a.tmps) = true) (ty : TypeId) (x y : Operand) (ho : o.op = .store ty x y)
    (hM : Mem w0 own w L) (i g : Nat) (t : TypeId) (old cs : Array Value) (hi : L[i]? = some (.blk g t old)) (hx : a.eval x = .pointer (some ⟨g, 0, none⟩)) (hy : a.eval y = .agg cs)
    (hs : (P.info? ty).map (·.size) = some cs.size) (hold : old.size = cs.size) (h1 : cs.all (·.oneCell') = true)
    (h : ∀ w', Mem w0 own w' (L.set i (.blk g t cs)) → w'.heap.size = w.heap.size → wpList P ops Q rest (a.put o.dst undef) w') : wpList P ops Q (o :: rest) a w :=
  BigFrame.wpList_want hgd fun _ hK => wp_store_row ty x y ho g cs hx hy t old (hM.blk i hi) hs hold h1 (hK _ _ (h _ (hM.setRow i hi cs) (by simp)))
/-- A whole block is read. -/
theorem wpList_load_mem {w0 : World} {own : Nat → Prop} {L : List Item} (hgd : Region.wanted o (yielded ops a.tmps) = true) (ty : TypeId) (x : Operand) (ho : o.op = .load ty x)
    (hM : Mem w0 own w L) (i g : Nat) (t : TypeId) (cs : Array Value) (hi : L[i]? = some (.blk g t cs)) (hx : a.eval x = .pointer (some ⟨g, 0, none⟩)) (d : TypeDesc)
    (hu : P.underlying ty = some d) (hd : (match d with | .struct _ | .array _ _ => true | _ => false) = true) (hs : (P.info? ty).map (·.size) = some cs.size)
    (h : wpList P ops Q rest (a.put o.dst (.agg cs)) w) : wpList P ops Q (o :: rest) a w :=
  BigFrame.wpList_want hgd fun _ hK => wp_load_row ty x ho g hx t cs (0, 0) d (hM.blk i hi) hu hd hs (hK _ _ h)
/-- A result that lies in a block. -/
theorem bodyPost_row {fn : Func} {R : Ending → World → Prop} {p : Tmp} {ty : TypeId} (hr : fn.results = #[.cell p ty]) (hd : a.defers = []) (g : Nat) (t : TypeId) (cs : Array Value) (hb : Blk w g t cs)
    (hp : a.tmps.getD p undef = .pointer (some ⟨g, 0, none⟩)) (d : TypeDesc)
    (hu : P.underlying ty = some d) (ha : (match d with | .struct _ | .array _ _ => true | _ => false) = true) (hs : (P.info? ty).map (·.size) = some cs.size)
    (hR : R (.returned (.agg cs)) w) : bodyPost P fn R .ret a w :=
  bodyPost_ret (results_cell_row hr _ w g t cs (0, 0) d hp hb hu ha hs) hd hR
/-- In a region that draws its order: an operation that only reads, its run given. -/
theorem wpStill_run {Lq : Act → Prop} (hgd : o.guard = none) (v : Value) (hr : (execOp a.eval o).run P w = .ok (.value v) w) (h : wpStill P ops w Lq rest (a.put o.dst v)) : wpStill P ops w Lq (o :: rest) a := by
  unfold wpStill
  rw [if_pos (by simp [Region.wanted, hgd])]
  unfold Oper.still
  rw [hr, Oper.stillUpon_value]
  exact h
theorem wpStill_load_blk {Lq : Act → Prop} (hgd : o.guard = none) (ty : TypeId) (x : Operand) (ho : o.op = .load ty x) (g : Nat) (t : TypeId) (cs : Array Value) (hb : Blk w g t cs) (hx : a.eval x = .pointer (some ⟨g, 0, none⟩)) (d : TypeDesc)
    (hu : P.underlying ty = some d) (hd : (match d with | .struct _ | .array _ _ => true | _ => false) = true) (hs : (P.info? ty).map (·.size) = some cs.size)
    (h : wpStill P ops w Lq rest (a.put o.dst (.agg cs))) : wpStill P ops w Lq (o :: rest) a := by
  refine wpStill_run hgd (.agg cs) ?_ h
  unfold execOp
  simp only [ho, hx, Instr.loadAt, Instr.sureAddr, Sem.run_bind, Sem.run_pure, Result.andThen_ok, run_loadVar_row w g t ty cs (0, 0) d hb hu hd hs]
end
end Go.Proofs.Ytnmnknjgibkkaaa
