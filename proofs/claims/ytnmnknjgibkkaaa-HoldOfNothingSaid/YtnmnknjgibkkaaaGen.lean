/- Rules that find what they want: what a type is, and what is at hand, by instances. -/
import Derived.Test.YtnmnknjgibkkaaaIMap
import Derived.Test.YtnmnknjgibkkaaaMxMn
import Derived.Test.YtnmnknjgibkkaaaStr
import Derived.Deep.MidRow
namespace Go.Proofs.Ytnmnknjgibkkaaa
set_option linter.unusedVariables false
open Go.RowKit Go.MapKept

/-! What a type is. -/
def scB (P : Program) (T : TypeId) : Bool := match P.underlying T with
  | some (.struct _) => false
  | some (.array _ _) => false
  | none => false
  | some _ => true
def agB (P : Program) (T : TypeId) : Bool := match P.underlying T with
  | some (.struct _) => true
  | some (.array _ _) => true
  | _ => false
class TySc (P : Program) (T : TypeId) : Prop where out : scB P T = true
class TyAg (P : Program) (T : TypeId) : Prop where out : agB P T = true
class TyS (P : Program) (T : TypeId) (n : outParam Nat) : Prop where out : (P.info? T).map (·.size) = some n
class TyZ (P : Program) (T : TypeId) (cs : outParam (Array Value)) : Prop where out : ((P.info? T).bind (·.zero)).map (·.cells) = some cs
class TySl (P : Program) (T : TypeId) (e : outParam TypeId) (z : outParam Value) (size bytes : outParam Nat) : Prop where
  under : P.underlying T = some (.slice e)
  row : Row3 P e z size bytes
  zs : z.cells.size = size
  pos : 0 < size
  le : size ≤ 65536
class TyMi (P : Program) (T : TypeId) (K E : outParam TypeId) (z : outParam Value) : Prop where
  under : P.underlying T = some (.map K E)
  key : P.underlying K = some (.int .i64)
  zero : (P.info? E).bind (·.zero) = some z
theorem TySc.ex {P : Program} {T : TypeId} [h : TySc P T] : ∃ dd, P.underlying T = some dd ∧ (match dd with | .struct _ | .array _ _ => false | _ => true) = true := by
  have := h.out
  unfold scB at this
  cases hq : P.underlying T with
  | none => simp [hq] at this
  | some dd => refine ⟨dd, rfl, ?_⟩; cases dd <;> simp_all
theorem TyAg.ex {P : Program} {T : TypeId} [h : TyAg P T] : ∃ dd, P.underlying T = some dd ∧ (match dd with | .struct _ | .array _ _ => true | _ => false) = true := by
  have := h.out
  unfold agB at this
  cases hq : P.underlying T with
  | none => simp [hq] at this
  | some dd => refine ⟨dd, rfl, ?_⟩; cases dd <;> simp_all

/-! Lists and arrays of values, place by place. -/
class AtL (l : List Value) (j : Nat) (v : outParam Value) : Prop where out : l[j]? = some v
instance {v : Value} {l : List Value} : AtL (v :: l) 0 v := ⟨rfl⟩
instance {v x : Value} {l : List Value} {j : Nat} [h : AtL l j v] : AtL (x :: l) (j + 1) v := ⟨by simpa using h.out⟩
class AtA (cs : Array Value) (j : Nat) (v : outParam Value) : Prop where out : cs[j]? = some v
instance {l : List Value} {j : Nat} {v : Value} [h : AtL l j v] : AtA l.toArray j v := ⟨by simpa using h.out⟩
class PutL (l : List Value) (j : Nat) (v : Value) (l' : outParam (List Value)) : Prop where
  out : l.set j v = l'
  lt : j < l.length
instance {v x : Value} {l : List Value} : PutL (x :: l) 0 v (v :: l) := ⟨rfl, by simp⟩
instance {v x : Value} {l l' : List Value} {j : Nat} [h : PutL l j v l'] : PutL (x :: l) (j + 1) v (x :: l') := ⟨by rw [List.set_cons_succ, h.out], by have := h.lt; simp; omega⟩
class PutA (cs : Array Value) (j : Nat) (v : Value) (cs' : outParam (Array Value)) : Prop where
  out : cs.setIfInBounds j v = cs'
  lt : j < cs.size
instance {l l' : List Value} {j : Nat} {v : Value} [h : PutL l j v l'] : PutA l.toArray j v l'.toArray := ⟨by rw [List.setIfInBounds_toArray, h.out], by simpa using h.lt⟩

/-- Cells each of one value. -/
class One (l : List Value) : Prop where out : ∀ u ∈ l, u.oneCell' = true
theorem one_cons {v : Value} {l : List Value} (hv : v.oneCell' = true) (h : One l) : One (v :: l) := ⟨fun u hu => by
  rcases List.mem_cons.1 hu with rfl | hu
  · exact hv
  · exact h.out u hu⟩
instance : One [] := ⟨fun u hu => by cases hu⟩
instance {k : IntKind} {n : Int} {l : List Value} [h : One l] : One (.int k n :: l) := one_cons rfl h
instance {b : Bool} {l : List Value} [h : One l] : One (.bool b :: l) := one_cons rfl h
instance {b : ByteArray} {l : List Value} [h : One l] : One (.string b :: l) := one_cons rfl h
instance {A : Option Addr} {n c : Nat} {l : List Value} [h : One l] : One (.slice A n c :: l) := one_cons rfl h
instance {A : Option Addr} {l : List Value} [h : One l] : One (.pointer A :: l) := one_cons rfl h
instance {A : Option Nat} {l : List Value} [h : One l] : One (.map A :: l) := one_cons rfl h
instance {l m : List Value} [h : One l] [h2 : One m] : One (l ++ m) := ⟨fun u hu => by
  rcases List.mem_append.1 hu with hu | hu
  · exact h.out u hu
  · exact h2.out u hu⟩
instance {l : List (BitVec 8)} : One (l.map V8) := ⟨fun u hu => by
  obtain ⟨x, _, rfl⟩ := List.mem_map.1 hu
  rfl⟩

/-! What is at hand. -/
class HasBlk (L : List Item) (g : Nat) (t : outParam TypeId) (cs : outParam (Array Value)) : Prop where out : Item.blk g t cs ∈ L
instance {L : List Item} {g : Nat} {t : TypeId} {cs : Array Value} : HasBlk (.blk g t cs :: L) g t cs := ⟨List.mem_cons_self ..⟩
instance (priority := low) {L : List Item} {x : Item} {g : Nat} {t : TypeId} {cs : Array Value} [h : HasBlk L g t cs] : HasBlk (x :: L) g t cs := ⟨List.mem_cons_of_mem _ h.out⟩
class PutBlk (L : List Item) (g j : Nat) (v : Value) (L' : outParam (List Item)) : Prop where
  out : ∃ (i : Nat) (t : TypeId) (cs : Array Value), L[i]? = some (.blk g t cs) ∧ j < cs.size ∧ L.set i (.blk g t (cs.setIfInBounds j v)) = L'
instance {L : List Item} {g j : Nat} {v : Value} {t : TypeId} {cs cs' : Array Value} [h : PutA cs j v cs'] : PutBlk (.blk g t cs :: L) g j v (.blk g t cs' :: L) := ⟨0, t, cs, rfl, h.lt, by rw [h.out]; rfl⟩
instance (priority := low) {L L' : List Item} {x : Item} {g j : Nat} {v : Value} [h : PutBlk L g j v L'] : PutBlk (x :: L) g j v (x :: L') :=
  ⟨by obtain ⟨i, t, cs, h1, h2, h3⟩ := h.out; exact ⟨i + 1, t, cs, by simpa using h1, h2, by rw [List.set_cons_succ, h3]⟩⟩
class PutAll (L : List Item) (g n : Nat) (cs' : Array Value) (L' : outParam (List Item)) : Prop where
  out : ∃ (i : Nat) (t : TypeId) (cs : Array Value), L[i]? = some (.blk g t cs) ∧ cs.size = n ∧ L.set i (.blk g t cs') = L'
class SzA (cs : Array Value) (n : outParam Nat) : Prop where out : cs.size = n
class SzL (l : List Value) (n : outParam Nat) : Prop where out : l.length = n
instance : SzL [] 0 := ⟨rfl⟩
instance {x : Value} {l : List Value} {n : Nat} [h : SzL l n] : SzL (x :: l) (n + 1) := ⟨by rw [List.length_cons, h.out]⟩
instance {l : List Value} {n : Nat} [h : SzL l n] : SzA l.toArray n := ⟨by simpa using h.out⟩
instance {L : List Item} {g n : Nat} {t : TypeId} {cs cs' : Array Value} [h : SzA cs n] : PutAll (.blk g t cs :: L) g n cs' (.blk g t cs' :: L) := ⟨0, t, cs, rfl, h.out, rfl⟩
instance (priority := low) {L L' : List Item} {x : Item} {g n : Nat} {cs' : Array Value} [h : PutAll L g n cs' L'] : PutAll (x :: L) g n cs' (x :: L') :=
  ⟨by obtain ⟨i, t, cs, h1, h2, h3⟩ := h.out; exact ⟨i + 1, t, cs, by simpa using h1, h2, by rw [List.set_cons_succ, h3]⟩⟩
class HasMap (L : List Item) (g : Nat) (f : outParam (Int → Option Value)) : Prop where out : Item.obj g (IsMap f) ∈ L
instance {L : List Item} {g : Nat} {f : Int → Option Value} : HasMap (.obj g (IsMap f) :: L) g f := ⟨List.mem_cons_self ..⟩
instance (priority := low) {L : List Item} {x : Item} {g : Nat} {f : Int → Option Value} [h : HasMap L g f] : HasMap (x :: L) g f := ⟨List.mem_cons_of_mem _ h.out⟩
class PutMap (L : List Item) (g : Nat) (f : outParam (Int → Option Value)) (F : (Int → Option Value) → Item) (L' : outParam (List Item)) : Prop where
  out : ∃ i : Nat, L[i]? = some (.obj g (IsMap f)) ∧ L.set i (F f) = L'
instance {L : List Item} {g : Nat} {f : Int → Option Value} {F : (Int → Option Value) → Item} : PutMap (.obj g (IsMap f) :: L) g f F (F f :: L) := ⟨0, rfl, rfl⟩
instance (priority := low) {L L' : List Item} {x : Item} {g : Nat} {f : Int → Option Value} {F : (Int → Option Value) → Item} [h : PutMap L g f F L'] : PutMap (x :: L) g f F (x :: L') :=
  ⟨by obtain ⟨i, h1, h2⟩ := h.out; exact ⟨i + 1, by simpa using h1, by rw [List.set_cons_succ, h2]⟩⟩
/-- Where a row at hand stands. -/
class RowIx (L : List Item) (v : Value) (i : outParam Nat) (e : outParam TypeId) (size n : outParam Nat) (xs : outParam (List Value)) : Prop where
  out : L[i]? = some (.row v e size n xs)
instance {L : List Item} {v : Value} {e : TypeId} {size n : Nat} {xs : List Value} : RowIx (.row v e size n xs :: L) v 0 e size n xs := ⟨rfl⟩
instance (priority := low) {L : List Item} {x : Item} {v : Value} {i : Nat} {e : TypeId} {size n : Nat} {xs : List Value} [h : RowIx L v i e size n xs] : RowIx (x :: L) v (i + 1) e size n xs := ⟨by simpa using h.out⟩
class HasRow (L : List Item) (v : Value) (e : outParam TypeId) (size n : outParam Nat) (xs : outParam (List Value)) : Prop where out : Item.row v e size n xs ∈ L
instance {L : List Item} {v : Value} {e : TypeId} {size n : Nat} {xs : List Value} : HasRow (.row v e size n xs :: L) v e size n xs := ⟨List.mem_cons_self ..⟩
instance (priority := low) {L : List Item} {x : Item} {v : Value} {e : TypeId} {size n : Nat} {xs : List Value} [h : HasRow L v e size n xs] : HasRow (x :: L) v e size n xs := ⟨List.mem_cons_of_mem _ h.out⟩
/-- Cells of a block that was there and is not the call's to write. -/
class Old (w0 : World) (own : Nat → Prop) (ad : Addr) (v : outParam Value) : Prop where
  cell : w0.cell? ad = some v
  no : ¬ own ad.block
theorem Old.lt {w0 : World} {own : Nat → Prop} {ad : Addr} {v : Value} (h : Old w0 own ad v) : ad.block < w0.heap.size := block_lt_of_cell h.cell
theorem old_no {w0 : World} {ad : Addr} {v : Value} (h : w0.cell? ad = some v) : Old w0 noOwn ad v := ⟨h, fun e => e⟩
instance {w0 : World} {own : Nat → Prop} {ad : Addr} {v : Value} [h : Old w0 own ad v] : Old w0.drew own ad v := ⟨h.cell, h.no⟩

/-- What a scalar cell holds. -/
class Cell (w0 : World) (own : Nat → Prop) (L : List Item) (ad : Addr) (v : outParam Value) : Prop where
  out : ∀ w, Mem w0 own w L → w.cell? ad = some v
instance {w0 : World} {own : Nat → Prop} {L : List Item} {g j : Nat} {t : TypeId} {cs : Array Value} {v : Value} [h : HasBlk L g t cs] [h2 : AtA cs j v] : Cell w0 own L ⟨g, j, none⟩ v :=
  ⟨fun _ hM => (Blk.cell (hM.has _ h.out) j).trans h2.out⟩
instance (priority := low) {w0 : World} {own : Nat → Prop} {L : List Item} {ad : Addr} {v : Value} [h : Old w0 own ad v] : Cell w0 own L ad v :=
  ⟨fun _ hM => (hM.grow.keep h.lt h.no).trans h.cell⟩

/-- Cells in a row, of a block that was there and is not the call's to write. -/
class OldR (w0 : World) (own : Nat → Prop) (b o : Nat) (vs : outParam (List Value)) : Prop where
  out : w0.rangeAt b o vs
  lt : b < w0.heap.size
  no : ¬ own b
theorem oldR_no {w0 : World} {b o : Nat} {vs : List Value} (h : w0.rangeAt b o vs) (hb : b < w0.heap.size) : OldR w0 noOwn b o vs := ⟨h, hb, fun e => e⟩
class Rng (w0 : World) (own : Nat → Prop) (L : List Item) (b o : Nat) (vs : outParam (List Value)) : Prop where
  out : ∀ w, Mem w0 own w L → w.rangeAt b o vs
instance {w0 : World} {own : Nat → Prop} {L : List Item} {b o : Nat} {vs : List Value} [h : OldR w0 own b o vs] : Rng w0 own L b o vs :=
  ⟨fun _ hM j v hv => (hM.grow.keep (p := ⟨b, o + j, none⟩) h.lt h.no).trans (h.out j v hv)⟩
section
variable {P : Program} {ops : Array Oper} {rest : List Oper} {o : Oper} {a : Act} {w w0 : World} {own : Nat → Prop} {L L' : List Item} {Q : Exit → Act → World → Prop}
theorem wo_boxa {T : TypeId} {x : Operand} (ho : o.op = .box T x) (hM : Mem w0 own w L) (hgd : Region.wanted o (yielded ops a.tmps) = true) {cs : Array Value} (hx : a.eval x = .agg cs)
    (h : ∀ g w', Mem w0 own w' (.blk g T cs :: L) → wpList P ops Q rest (a.put o.dst (.pointer (some ⟨g, 0, none⟩))) w') : wpList P ops Q (o :: rest) a w :=
  wpList_box_mem hM hgd T x ho _ hx cs rfl h
theorem wo_box1 {T : TypeId} {x : Operand} (ho : o.op = .box T x) (hM : Mem w0 own w L) (hgd : Region.wanted o (yielded ops a.tmps) = true) {v : Value} (hx : a.eval x = v) (h1 : v.oneCell' = true)
    (h : ∀ g w', Mem w0 own w' (.blk g T #[v] :: L) → wpList P ops Q rest (a.put o.dst (.pointer (some ⟨g, 0, none⟩))) w') : wpList P ops Q (o :: rest) a w :=
  wpList_box_mem hM hgd T x ho v hx #[v] (by cases v <;> first | rfl | cases h1) h
theorem wo_alloc {T : TypeId} (ho : o.op = .alloc T) (hM : Mem w0 own w L) (hgd : Region.wanted o (yielded ops a.tmps) = true) {cs : Array Value} [hz : TyZ P T cs]
    (h : ∀ g w', Mem w0 own w' (.blk g T cs :: L) → wpList P ops Q rest (a.put o.dst (.pointer (some ⟨g, 0, none⟩))) w') : wpList P ops Q (o :: rest) a w :=
  wpList_alloc_mem hM hgd T ho cs hz.out h
theorem run_ld {T : TypeId} {ad : Addr} {v : Value} [ht : TySc P T] (hc : w.cell? ad = some v) : (loadVar T ad).run P w = .ok v w := by
  obtain ⟨dd, hu, hd⟩ := ht.ex
  exact run_load1 dd hu (by cases dd <;> first | rfl | cases hd) hc
theorem wo_ld {T : TypeId} {x : Operand} (ho : o.op = .load T x) (hM : Mem w0 own w L) (hgd : Region.wanted o (yielded ops a.tmps) = true) {ad : Addr} (hx : a.eval x = .pointer (some ad)) {v : Value} [hc : Cell w0 own L ad v] [ht : TySc P T]
    (h : wpList P ops Q rest (a.put o.dst v) w) : wpList P ops Q (o :: rest) a w :=
  BigFrame.wpList_want hgd fun _ hK => by
    unfold Oper.wp execOp
    simp only [ho, hx, Instr.loadAt, Instr.sureAddr, Sem.run_bind, Sem.run_pure, Result.andThen_ok, run_ld (hc.out w hM)]
    exact hK _ _ h
theorem wo_lda {T : TypeId} {x : Operand} (ho : o.op = .load T x) (hM : Mem w0 own w L) (hgd : Region.wanted o (yielded ops a.tmps) = true) {g : Nat} (hx : a.eval x = .pointer (some ⟨g, 0, none⟩)) {t : TypeId} {cs : Array Value} {n : Nat} [hc : HasBlk L g t cs] [ht : TyAg P T] [hs : TyS P T n] [hn : SzA cs n]
    (h : wpList P ops Q rest (a.put o.dst (.agg cs)) w) : wpList P ops Q (o :: rest) a w := by
  obtain ⟨dd, hu, hd⟩ := ht.ex
  refine BigFrame.wpList_want hgd fun _ hK => ?_
  unfold Oper.wp execOp
  simp only [ho, hx, Instr.loadAt, Instr.sureAddr, Sem.run_bind, Sem.run_pure, Result.andThen_ok, run_loadVar_row w g t T cs (0, 0) dd (show Blk w g t cs from hM.has _ hc.out) hu (by cases dd <;> first | rfl | cases hd) (by rw [hs.out, hn.out])]
  exact hK _ _ h
theorem wp_st {K : Act → World → Prop} (hM : Mem w0 own w L) {T : TypeId} {x y : Operand} (ho : o.op = .store T x y) {g j : Nat} (hx : a.eval x = .pointer (some ⟨g, j, none⟩)) {v : Value} (hy : a.eval y = v) (h1 : v.oneCell' = true) [hs : TyS P T 1] [hp : PutBlk L g j v L']
    (h : ∀ w', Mem w0 own w' L' → K (a.put o.dst undef) w') : o.wp P a w K Q := by
  obtain ⟨i, t, cs, hi, hj, rfl⟩ := hp.out
  exact wp_store1 T x y ho hM i g j t cs hi hj hx v hy h1 hs.out h
theorem wo_ldr {T : TypeId} {x : Operand} (ho : o.op = .load T x) (hM : Mem w0 own w L) (hgd : Region.wanted o (yielded ops a.tmps) = true) {b of : Nat} (hx : a.eval x = .pointer (some ⟨b, of, none⟩)) {vs : List Value} {n : Nat} [hc : Rng w0 own L b of vs] [ht : TyAg P T] [hs : TyS P T n] [hn : SzL vs n]
    (h : wpList P ops Q rest (a.put o.dst (.agg vs.toArray)) w) : wpList P ops Q (o :: rest) a w := by
  obtain ⟨dd, hu, hd⟩ := ht.ex
  exact BigFrame.wpList_want hgd fun _ hK => wp_load_mid T x ho b of hx vs dd (hc.out w hM) hu (by cases dd <;> first | rfl | cases hd) (by rw [hs.out, hn.out]) (hK _ _ h)
theorem wo_st {T : TypeId} {x y : Operand} (ho : o.op = .store T x y) (hM : Mem w0 own w L) (hgd : Region.wanted o (yielded ops a.tmps) = true) {g j : Nat} (hx : a.eval x = .pointer (some ⟨g, j, none⟩)) {v : Value} (hy : a.eval y = v) (h1 : v.oneCell' = true) [hs : TyS P T 1] [hp : PutBlk L g j v L']
    (h : ∀ w', Mem w0 own w' L' → wpList P ops Q rest (a.put o.dst undef) w') : wpList P ops Q (o :: rest) a w :=
  BigFrame.wpList_want hgd fun _ hK => wp_st hM ho hx hy h1 fun w' h2 => hK _ _ (h w' h2)
theorem wo_sta {T : TypeId} {x y : Operand} (ho : o.op = .store T x y) (hM : Mem w0 own w L) (hgd : Region.wanted o (yielded ops a.tmps) = true) {g : Nat} (hx : a.eval x = .pointer (some ⟨g, 0, none⟩)) {cs : Array Value} (hy : a.eval y = .agg cs) (h1 : cs.all (·.oneCell') = true) {n : Nat} [hs : TyS P T n] [hn : SzA cs n] [hp : PutAll L g n cs L']
    (h : ∀ w', Mem w0 own w' L' → wpList P ops Q rest (a.put o.dst undef) w') : wpList P ops Q (o :: rest) a w := by
  obtain ⟨i, t, old, hi, ho', rfl⟩ := hp.out
  exact wpList_store_mem hgd T x y ho hM i g t old cs hi hx hy (by rw [hs.out, hn.out]) (by rw [ho', hn.out]) h1 (fun w' h2 _ => h w' h2)
theorem wo_bs0 {T : TypeId} (ho : o.op = .buildSlice T 0 #[]) (hM : Mem w0 own w L) (hgd : Region.wanted o (yielded ops a.tmps) = true) {e : TypeId} {z : Value} {size bytes : Nat} [ht : TySl P T e z size bytes]
    (h : ∀ g w', Mem w0 own w' (.row (.slice (some ⟨g, 0, none⟩) 0 0) e size 0 [] :: L) → wpList P ops Q rest (a.put o.dst (.slice (some ⟨g, 0, none⟩) 0 0)) w') : wpList P ops Q (o :: rest) a w :=
  wpList_buildSlice_row hgd T 0 #[] ho hM e ht.under z size bytes ht.row (by omega) ht.pos [] (by simp [slCells, Instr.fill]) (by simp) h
theorem wo_bs1 {T : TypeId} {x : Operand} (ho : o.op = .buildSlice T 1 #[(0, x)]) (hM : Mem w0 own w L) (hgd : Region.wanted o (yielded ops a.tmps) = true) {e : TypeId} {z : Value} {size bytes : Nat} [ht : TySl P T e z size bytes] {v : Value} (hx : a.eval x = v) {xs : List Value} (hxs : v.cells.toList = xs) (hxl : xs.length = size)
    (h : ∀ g w', Mem w0 own w' (.row (.slice (some ⟨g, 0, none⟩) 1 1) e size 1 xs :: L) → wpList P ops Q rest (a.put o.dst (.slice (some ⟨g, 0, none⟩) 1 1)) w') : wpList P ops Q (o :: rest) a w := by
  subst hxs
  refine wpList_buildSlice_row hgd T 1 _ ho hM e ht.under z size bytes ht.row (by have := ht.le; omega) ht.pos _ ?_ (by omega) h
  simp only [List.map_toArray, List.map_cons, List.map_nil, hx]
  rw [slCells_one z size v (by simpa using hxl)]
/-- append onto a row at hand, of a row at hand. -/
theorem wo_app {s x : Operand} {T : TypeId} (ho : o.op = .call { callee := .builtin .append, args := #[s, x], argTypes := #[T, T] }) (hM : Mem w0 own w L) (hgd : Region.wanted o (yielded ops a.tmps) = true) {e : TypeId} {z : Value} {size bytes : Nat} [ht : TySl P T e z size bytes]
    {v : Value} (hs : a.eval s = v) {u : Value} (hx : a.eval x = u) {e' : TypeId} {m : Nat} {news : List Value} [hr : HasRow L u e' size m news] (h1 : ∀ u ∈ news, u.oneCell' = true)
    {i n k : Nat} {xs ys : List Value} [hp : RowIx L v i e size n xs] (h63 : n + m ≤ maxLen) (hbytes : (n + m) * bytes ≤ 140737488355328) (hk : n + m = k) (hys : xs ++ news = ys)
    (h : ∀ A' c' w', Mem w0 own w' (L.set i (.row (.slice A' k c') e size k ys)) → wpList P ops Q rest (a.put o.dst (.slice A' k c')) w') : wpList P ops Q (o :: rest) a w := by
  have hr0 := hM.has _ hr.out
  obtain ⟨A, c, rfl, _, _⟩ := row_form (show w.ownsRow 0 e' size u m news from hr0)
  exact wpList_append_row hgd s x T ho hM i v e size n xs hp.out hs ht.under z bytes ht.row ht.zs ht.pos w.heap.size A m c news hx (Reads.of_own hr0) h1 h63 hbytes k hk ys hys h
end

/-- A slice that reads as xs, whatever the call has written. -/
class Rds (w0 : World) (own : Nat → Prop) (A : Option Addr) (n : Nat) (size : outParam Nat) (xs : outParam (List Value)) : Prop where
  out : ∀ w, Grow w0 own w → Reads w w.heap.size size A n xs
theorem rds_no {w0 : World} {A : Option Addr} {n size : Nat} {xs : List Value} (h : Reads w0 w0.heap.size size A n xs) : Rds w0 noOwn A n size xs :=
  ⟨fun _ hg => (h.grow hg (Nat.le_refl _)).more hg.size⟩
theorem rds_far {w0 : World} {own : Nat → Prop} {A : Option Addr} {n size : Nat} {xs : List Value} (h : Reads w0 w0.heap.size size A n xs) (hA : 0 < n → ∀ ad, A = some ad → ¬ own ad.block) : Rds w0 own A n size xs :=
  ⟨fun w hg => ⟨h.1, fun hn => by
    obtain ⟨ad, e, hlt, hc⟩ := h.2 hn
    exact ⟨ad, e, Nat.lt_of_lt_of_le hlt hg.size, fun j u hu => (hg.keep (by rw [block_of_add]; exact hlt) (by rw [block_of_add]; exact hA hn ad e)).trans (hc j u hu)⟩⟩⟩
section
variable {P : Program} {ops : Array Oper} {rest : List Oper} {o : Oper} {a : Act} {w w0 : World} {own : Nat → Prop} {L : List Item} {Q : Exit → Act → World → Prop}
/-- append onto a row at hand, of a slice that reads. -/
theorem wo_appv {s x : Operand} {T : TypeId} (ho : o.op = .call { callee := .builtin .append, args := #[s, x], argTypes := #[T, T] }) (hM : Mem w0 own w L) (hgd : Region.wanted o (yielded ops a.tmps) = true) {e : TypeId} {z : Value} {size bytes : Nat} [ht : TySl P T e z size bytes]
    {v : Value} (hs : a.eval s = v) {A : Option Addr} {m c : Nat} (hx : a.eval x = .slice A m c) {news : List Value} [hr : Rds w0 own A m size news] (h1 : ∀ u ∈ news, u.oneCell' = true)
    {i n k : Nat} {xs ys : List Value} [hp : RowIx L v i e size n xs] (h63 : n + m ≤ maxLen) (hbytes : (n + m) * bytes ≤ 140737488355328) (hk : n + m = k) (hys : xs ++ news = ys)
    (h : ∀ A' c' w', Mem w0 own w' (L.set i (.row (.slice A' k c') e size k ys)) → wpList P ops Q rest (a.put o.dst (.slice A' k c')) w') : wpList P ops Q (o :: rest) a w :=
  wpList_append_row hgd s x T ho hM i v e size n xs hp.out hs ht.under z bytes ht.row ht.zs ht.pos w.heap.size A m c news hx (hr.out w hM.grow) h1 h63 hbytes k hk ys hys h
end

theorem bytesUp {w w' : World} {n : Nat} {D : Option Addr} {l : List (BitVec 8)} (hb : Bytes w w.heap.size D n l) (hg : Grow w noOwn w') : Bytes w' w'.heap.size D n l := Reads.more (Reads.grow hb hg (Nat.le_refl _)) hg.size
/-- A slice that reads as bytes. -/
class RdsB (w0 : World) (own : Nat → Prop) (A : Option Addr) (n : Nat) (l : outParam (List (BitVec 8))) : Prop where
  out : ∀ w, Grow w0 own w → Bytes w w.heap.size A n l
theorem rdsB_no {w0 : World} {A : Option Addr} {n : Nat} {l : List (BitVec 8)} (h : Bytes w0 w0.heap.size A n l) : RdsB w0 noOwn A n l := ⟨(rds_no h).out⟩
theorem rdsB_far {w0 : World} {own : Nat → Prop} {A : Option Addr} {n : Nat} {l : List (BitVec 8)} (h : Bytes w0 w0.heap.size A n l) (hA : 0 < n → ∀ ad, A = some ad → ¬ own ad.block) : RdsB w0 own A n l := ⟨(rds_far h hA).out⟩
instance {w0 : World} {own : Nat → Prop} {A : Option Addr} {n : Nat} {l : List (BitVec 8)} [h : RdsB w0 own A n l] : Rds w0 own A n 1 (l.map V8) := ⟨h.out⟩
class TyBS (P : Program) (src dst : TypeId) : Prop where out : ∃ e, P.underlying src = some (.slice e) ∧ P.underlying e = some (.int .u8) ∧ P.underlying dst = some .string
section
variable {P : Program} {ops : Array Oper} {rest : List Oper} {o : Oper} {a : Act} {w w0 : World} {own : Nat → Prop} {L : List Item} {Q : Exit → Act → World → Prop}
theorem wo_conv {src dst : TypeId} {x : Operand} (ho : o.op = .convert src dst x) (hM : Mem w0 own w L) (hgd : Region.wanted o (yielded ops a.tmps) = true) {A : Option Addr} {n c : Nat} (hx : a.eval x = .slice A n c) {l : List (BitVec 8)} [hr : RdsB w0 own A n l] [ht : TyBS P src dst]
    (h : wpList P ops Q rest (a.put o.dst (.string (strOf l))) w) : wpList P ops Q (o :: rest) a w := by
  obtain ⟨e, h1, h2, h3⟩ := ht.out
  exact wpList_conv_str hgd src dst e x ho h1 h2 h3 w.heap.size n c A l hx (hr.out w hM.grow) h
end

/-! The same in a region that draws its order. -/
/-- What is at hand in every world that comes. -/
def CM (w0 : World) (own : Nat → Prop) (L : List Item) (B : Nat) (w : World) : Prop := Mem w0 own w L ∧ B ≤ w.heap.size ∧ w0.heap.size ≤ B ∧ ∀ x ∈ L, ∀ g, x.foot g → g < B
def Grows (w w' : World) : Prop := Grow w noOwn w'
def GrowsB (B : Nat) (w w' : World) : Prop := Grow w (fun i => B ≤ i) w'
def Any1 (_ : World) : Prop := True
theorem cm_quiet {w0 : World} {own : Nat → Prop} {L : List Item} {B : Nat} : Quiet (CM w0 own L B) Grows (GrowsB B) := ⟨fun w _ => Grow.refl w _, fun w _ => Grow.refl w _⟩
theorem cm_grow {w0 : World} {own : Nat → Prop} {L : List Item} {B : Nat} (w w' : World) (h : CM w0 own L B w) (k : Grow w noOwn w') : CM w0 own L B w' ∧ Grows w w' := ⟨⟨h.1.call k, Nat.le_trans h.2.1 k.size, h.2.2⟩, k⟩
theorem cm_growB {w0 : World} {own : Nat → Prop} {L : List Item} {B : Nat} (w w' : World) (h : CM w0 own L B w) (k : Grow w (fun i => B ≤ i) w') : CM w0 own L B w' ∧ GrowsB B w w' :=
  ⟨⟨h.1.callFar k (fun x hx g e => by have := h.2.2.2 x hx g e; omega) (fun i hi (e : B ≤ i) => by have := h.2.2.1; omega), Nat.le_trans h.2.1 k.size, h.2.2⟩, k⟩
/-- A new row that a region has laid. -/
theorem cm_row {w0 w : World} {own : Nat → Prop} {L : List Item} {B n size : Nat} {e : TypeId} {xs : List Value} {v : Value} (h : CM w0 own L B w) (hv : RowFrom B e size n xs v w) : ∃ A c, v = .slice A n c ∧ n ≤ c ∧ Mem w0 own w (.row (.slice A n c) e size n xs :: L) := by
  obtain ⟨A, c, rfl, hc, _⟩ := hv.slice
  have hB : ∀ g, (Value.slice A n c).ownBlock = some g → B ≤ g := fun g hg => by
    rcases hv.2 with ⟨e2, _⟩ | ⟨g', cap, cur, e2, hb, _⟩
    · rw [e2] at hg; cases hg
    · rw [e2] at hg; simp [Value.ownBlock] at hg; omega
  refine ⟨A, c, rfl, hc, h.1.grow, fun y hy => ?_, List.pairwise_cons.2 ⟨fun y hy g e1 e2 => ?_, h.1.apart⟩, fun y hy g e1 => ?_⟩
  · rcases List.mem_cons.1 hy with rfl | hy
    · exact ownsRow_base hv
    · exact h.1.has y hy
  · have := hB g e1
    have := h.2.2.2 y hy g e2
    omega
  · rcases List.mem_cons.1 hy with rfl | hy
    · have := hB g e1
      have := h.2.2.1
      exact .inr (by omega)
    · exact h.1.mine y hy g e1
section
variable {P : Program} {l : List Oper} {a : Act} {w w0 : World} {own : Nat → Prop} {L : List Item} {Q : Exit → Act → World → Prop}
theorem cm_start (hM : Mem w0 own w L) : CM w0 own L w.heap.size w.drew := ⟨hM.drew, Nat.le_refl _, hM.grow.size, fun x hx g e => Item.at_lt (hM.has x hx) g e⟩
theorem wp_region_mem {id : Nat} (bigs preds keeps : List Nat) (hM : Mem w0 own w L) (hm : P.follows .mixedOrders = true) (hB : ghostB l.toArray a.tmps.size = true)
    (hA : ancB l.toArray (ancs l.toArray) = true) (hG : bigB l.toArray (ancs l.toArray) bigs preds keeps = true)
    (h : GW P l.toArray (CM w0 own L w.heap.size) Any1 Grows (GrowsB w.heap.size) bigs preds a.defers (Done l (CM w0 own L w.heap.size) keeps a.defers Q) 0 l (initS a)) : (Code.region id l.toArray true).wp P Q a w :=
  wp_region_ghost (C := CM w0 own L w.heap.size) (D := Any1) (R := Grows) (R' := GrowsB w.heap.size) bigs preds keeps hm hB hA hG (cm_start hM) trivial (fun _ _ _ _ _ h => h) cm_quiet.1 cm_quiet.2 h
theorem wp_region_memT {id : Nat} (m : Nat) (bigs preds keeps : List Nat) (olast : Oper) (holast : l[m]? = some olast) (hM : Mem w0 own w L) (hT : tailB l m = true) (hm : P.follows .mixedOrders = true) (hB : ghostB l.toArray a.tmps.size = true)
    (hA : ancB l.toArray (ancs l.toArray) = true) (hG : bigB l.toArray (ancs l.toArray) bigs preds keeps = true)
    (h : GW P l.toArray (CM w0 own L w.heap.size) Any1 Grows (GrowsB w.heap.size) bigs preds a.defers (DoneK l (CM w0 own L w.heap.size) keeps a.defers (fun a w => olast.wp P a w (Q .normal) Q)) 0 (l.take m) (initS a)) : (Code.region id l.toArray true).wp P Q a w :=
  wp_region_ghost_tail m olast holast hT (C := CM w0 own L w.heap.size) (D := Any1) (R := Grows) (R' := GrowsB w.heap.size) bigs preds keeps hm hB hA hG (cm_start hM) trivial (fun _ _ _ _ _ h => h) cm_quiet.1 cm_quiet.2 h
end
section
variable {P : Program} {ops : Array Oper} {w0 : World} {own : Nat → Prop} {L : List Item} {B : Nat} {D : World → Prop} {bigs preds : List Nat} {d : List Deferred} {Fin : List Slot → Prop} {k : Nat} {o : Oper} {rest : List Oper} {S : List Slot}
theorem go1_ld {T : TypeId} {x : Operand} (ho : o.op = .load T x) (hw : slWants ops S o = some true) {ad : Addr} (hx : slEval S x = some (.pointer (some ad))) {v : Value} [hc : Cell w0 own L ad v] [ht : TySc P T]
    (h : GW P ops (CM w0 own L B) D Grows (GrowsB B) bigs preds d Fin (k + 1) rest (setD S o.dst (.val v))) : GW P ops (CM w0 own L B) D Grows (GrowsB B) bigs preds d Fin k (o :: rest) S := by
  obtain ⟨dd, hu, hd⟩ := ht.ex
  exact gw_load1 cm_quiet hw T x ho ad hx dd hu (by cases dd <;> first | rfl | cases hd) v (fun w hC => hc.out w hC.1) h
theorem go1_lda {T : TypeId} {x : Operand} (ho : o.op = .load T x) (hw : slWants ops S o = some true) {g : Nat} (hx : slEval S x = some (.pointer (some ⟨g, 0, none⟩))) {t : TypeId} {cs : Array Value} {n : Nat} [hc : HasBlk L g t cs] [ht : TyAg P T] [hs : TyS P T n] [hn : SzA cs n]
    (h : GW P ops (CM w0 own L B) D Grows (GrowsB B) bigs preds d Fin (k + 1) rest (setD S o.dst (.val (.agg cs)))) : GW P ops (CM w0 own L B) D Grows (GrowsB B) bigs preds d Fin k (o :: rest) S := by
  obtain ⟨dd, hu, hd⟩ := ht.ex
  exact gw_load_blk cm_quiet hw T x ho g t cs hx (fun w hC => hC.1.has _ hc.out) dd hu (by cases dd <;> first | rfl | cases hd) (by rw [hs.out, hn.out]) h
theorem go1_lookup {T : TypeId} {x y : Operand} {ok : Bool} (ho : o.op = .lookup T x y ok) (hw : slWants ops S o = some true) {g : Nat} (hx : slEval S x = some (.map (some g))) {kk : Int} (hy : slEval S y = some (.int .i64 kk)) {f : Int → Option Value} [hc : HasMap L g f] {K E : TypeId} {z : Value} [ht : TyMi P T K E z]
    {v : Value} (hv : (if ok then .tuple #[(f kk).getD z, .bool (f kk).isSome] else (f kk).getD z) = v) (h : GW P ops (CM w0 own L B) D Grows (GrowsB B) bigs preds d Fin (k + 1) rest (setD S o.dst (.val v))) : GW P ops (CM w0 own L B) D Grows (GrowsB B) bigs preds d Fin k (o :: rest) S :=
  gw_lookup cm_quiet hw T x y ok ho g f (fun w hC => by obtain ⟨ob, h1, h2⟩ := hC.1.has _ hc.out; exact ⟨ob, h1, h2⟩) K E ht.under ht.key z ht.zero hx kk hy v hv h
theorem go1_row0 {T : TypeId} (ho : o.op = .buildSlice T 0 #[]) (hw : slWants ops S o = some true) {e : TypeId} {z : Value} {size bytes : Nat} [ht : TySl P T e z size bytes] (hnb : bigs.contains k = false) (hp : preds.contains k = true)
    (h : GW P ops (CM w0 own L B) D Grows (GrowsB B) bigs preds d Fin (k + 1) rest (setD S o.dst (.pred (RowFrom B e size 0 [])))) : GW P ops (CM w0 own L B) D Grows (GrowsB B) bigs preds d Fin k (o :: rest) S :=
  gw_row0 B size hw hnb hp (fun _ h => h.2.1) cm_grow (fun _ _ h => h) T e ho ht.under z bytes ht.row h
theorem go1_row1 {T : TypeId} {x : Operand} (ho : o.op = .buildSlice T 1 #[(0, x)]) (hw : slWants ops S o = some true) {e : TypeId} {z : Value} {size bytes : Nat} [ht : TySl P T e z size bytes] (hnb : bigs.contains k = false) (hp : preds.contains k = true) {v : Value} (hx : slEval S x = some v) {xs : List Value} (hxs : v.cells.toList = xs) (hxl : xs.length = size)
    (h : GW P ops (CM w0 own L B) D Grows (GrowsB B) bigs preds d Fin (k + 1) rest (setD S o.dst (.pred (RowFrom B e size 1 xs)))) : GW P ops (CM w0 own L B) D Grows (GrowsB B) bigs preds d Fin k (o :: rest) S :=
  gw_row1 B size hw hnb hp (fun _ h => h.2.1) cm_grow (fun _ _ h => h) T e x ho v hx ht.under z bytes ht.row ht.pos ht.le xs hxs hxl h
/-- A row of nothing, with room for nothing. -/
def Row00 (B : Nat) (e : TypeId) (size : Nat) (v : Value) (w : World) : Prop := RowFrom B e size 0 [] v w ∧ ∃ ad, v = .slice (some ad) 0 0
theorem go1_row00 (hw : slWants ops S o = some true) {T : TypeId} (ho : o.op = .buildSlice T 0 #[]) {e : TypeId} {z : Value} {size bytes : Nat} [ht : TySl P T e z size bytes] (hnb : bigs.contains k = false) (hp : preds.contains k = true)
    (h : GW P ops (CM w0 own L B) D Grows (GrowsB B) bigs preds d Fin (k + 1) rest (setD S o.dst (.pred (Row00 B e size)))) : GW P ops (CM w0 own L B) D Grows (GrowsB B) bigs preds d Fin k (o :: rest) S :=
  gw_any hw (.pred (Row00 B e size)) (.inr ⟨by simpa using hp, fun v w w' _ _ hR hv => ⟨RowFrom.grow (show Row00 B e size v w from hv).1 hR, (show Row00 B e size v w from hv).2⟩⟩) (fun γ w hC _ _ => by
    unfold yld
    rw [run_buildSlice_row (P := P) (w := w) (slAct S γ d).eval T 0 #[] ho e ht.under z size bytes ht.row (by omega) [] (by simp [slCells, Instr.fill])]
    have hg : Grow w noOwn (w.alloc (.cells [].toArray e)) := (Grow.refl w _).alloc _
    refine ⟨(cm_grow _ _ hC hg).1, ?_, ?_⟩
    · unfold eff
      rw [if_neg (by rw [hnb]; exact Bool.false_ne_true)]
      exact (cm_grow _ _ hC hg).2
    · exact ⟨⟨by simp, .inr ⟨w.heap.size, 0, #[], rfl, hC.2.1, heap_alloc_new w _, Nat.le_refl _, Nat.zero_le _, by simp, by simp⟩⟩, _, rfl⟩) h
/-- append onto a row of nothing: it writes nothing that is there. -/
theorem go1_appv0 (hw : slWants ops S o = some true) {s : Nat} {x : Operand} {T : TypeId} (ho : o.op = .call { callee := .builtin .append, args := #[.tmp s, x], argTypes := #[T, T] }) (hnb : bigs.contains k = false) (hp : preds.contains k = true) {e : TypeId} {z : Value} {size bytes : Nat} [ht : TySl P T e z size bytes]
    (hs : S[s]? = some (.pred (Row00 B e size))) {A : Option Addr} {m c : Nat} (hx : slEval S x = some (.slice A m c)) {news : List Value} [hr : Rds w0 own A m size news] (h63 : 0 + m ≤ maxLen) (hbytes : (0 + m) * bytes ≤ 140737488355328)
    (h : GW P ops (CM w0 own L B) D Grows (GrowsB B) bigs preds d Fin (k + 1) rest (setD S o.dst (.pred (RowFrom B e size m news)))) : GW P ops (CM w0 own L B) D Grows (GrowsB B) bigs preds d Fin k (o :: rest) S :=
  gw_any hw (.pred (RowFrom B e size m news)) (.inr ⟨by simpa using hp, fun v w w' _ _ hR hv => RowFrom.grow (show RowFrom B e size m news v w from hv) hR⟩) (fun γ w hC _ hV => by
    have hv : Row00 B e size (γ s) w := hV s _ (List.mem_append_left _ (List.mem_filterMap.2 ⟨.tmp s, by simp [ho, Op.operands, Call.operands], rfl⟩)) hs
    obtain ⟨hrow, ad, e1⟩ := hv
    obtain ⟨ti, hti, hz0, hz1, hz2⟩ := info_parts ht.row
    have he1 : (slAct S γ d).eval (.tmp s) = .slice (some ad) 0 0 := by simp [Act.eval, slAct_tmp, hs, Slot.get, e1]
    have hrd := hr.out w hC.1.grow
    rcases Nat.eq_zero_or_pos m with h0 | h0
    · subst h0
      have hnews : news = [] := List.eq_nil_of_length_eq_zero (by have := hrd.1; simpa using this)
      subst hnews
      have hrun : (Builtin.append_ #[T, T] o.type #[.slice (some ad) 0 0, .slice A 0 c]).run P w = .ok (.slice (some ad) 0 0) w := by
        cases A with
        | none => simp [Builtin.append_, run_underlying ht.under, sizeOf, typeInfo, hti, Builtin.lenOf, Builtin.firstCells, storeCells]
        | some a' => simp [Builtin.append_, run_underlying ht.under, sizeOf, typeInfo, hti, Builtin.lenOf, Builtin.firstCells, storeCells, loadCells, loadCellsFrom]
      unfold yld execOp
      simp only [ho, resolve, invoke, builtin, Sem.run_bind, Sem.run_pure, Result.andThen_ok, List.map_toArray, List.map_cons, List.map_nil, he1, slEval_spec hx γ, hrun]
      refine ⟨hC, ?_, e1 ▸ hrow⟩
      unfold eff
      rw [if_neg (by rw [hnb]; exact Bool.false_ne_true)]
      exact Grow.refl _ _
    · obtain ⟨ad', rfl, _, hc'⟩ := hrd.2 h0
      obtain ⟨v', w', hrun, hown, hg⟩ := run_append_arg_grows (P := P) w T o.type e ti z size bytes ht.under hti hz0 hz1 hz2 ht.zs ht.pos ad 0 0 [] (by simp) (fun j u hu => by simp at hu) ad' m c news hrd.1 hc' (by omega) h63 hbytes
      have hg' : Grow w noOwn w' := (Grow.of_grownBy hg).mono (fun _ _ e => by cases e)
      unfold yld execOp
      simp only [ho, resolve, invoke, builtin, Sem.run_bind, Sem.run_pure, Result.andThen_ok, List.map_toArray, List.map_cons, List.map_nil, he1, slEval_spec hx γ, hrun]
      refine ⟨(cm_grow _ _ hC hg').1, ?_, ?_⟩
      · unfold eff
        rw [if_neg (by rw [hnb]; exact Bool.false_ne_true)]
        exact (cm_grow _ _ hC hg').2
      · have h1 := hown
        rw [Nat.zero_add, List.nil_append] at h1
        refine ⟨h1.1, ?_⟩
        rcases h1.2 with h2 | ⟨g, cap, cur, h3, h4, h5⟩
        · exact .inl h2
        · exact .inr ⟨g, cap, cur, h3, Nat.le_trans hC.2.1 h4, h5⟩) h
/-- append onto a new row, of a slice that reads. -/
theorem go1_appv {s : Nat} {x : Operand} {T : TypeId} (ho : o.op = .call { callee := .builtin .append, args := #[.tmp s, x], argTypes := #[T, T] }) (hw : slWants ops S o = some true) (hb : bigs.contains k = true) (hp : preds.contains k = true) {e : TypeId} {z : Value} {size bytes : Nat} [ht : TySl P T e z size bytes]
    {n : Nat} {xs : List Value} (hs : S[s]? = some (.pred (RowFrom B e size n xs))) {A : Option Addr} {m c : Nat} (hx : slEval S x = some (.slice A m c)) {news : List Value} [hr : Rds w0 own A m size news] (h1 : ∀ u ∈ news, u.oneCell' = true) (h63 : n + m ≤ maxLen) (hbytes : (n + m) * bytes ≤ 140737488355328)
    (h : GW P ops (CM w0 own L B) D Grows (GrowsB B) bigs preds d Fin (k + 1) rest (setD S o.dst (.pred (RowFrom B e size (n + m) (xs ++ news))))) : GW P ops (CM w0 own L B) D Grows (GrowsB B) bigs preds d Fin k (o :: rest) S :=
  gw_append B size hw hb hp (fun _ h => h.2.1) cm_growB (fun _ _ h => h) s T ho e n xs hs A m c hx news (fun w hC => hr.out w hC.1.grow) h1 ht.under z bytes ht.row ht.zs ht.pos h63 hbytes h
/-- append onto a new row, of a new row. -/
theorem go1_app {s x : Nat} {T : TypeId} (ho : o.op = .call { callee := .builtin .append, args := #[.tmp s, .tmp x], argTypes := #[T, T] }) (hw : slWants ops S o = some true) (hb : bigs.contains k = true) (hp : preds.contains k = true) {e : TypeId} {z : Value} {size bytes : Nat} [ht : TySl P T e z size bytes]
    {n : Nat} {xs : List Value} (hs : S[s]? = some (.pred (RowFrom B e size n xs))) {m : Nat} {news : List Value} (hx : S[x]? = some (.pred (RowFrom B e size m news))) (h1 : ∀ u ∈ news, u.oneCell' = true) (h63 : n + m ≤ maxLen) (hbytes : (n + m) * bytes ≤ 140737488355328)
    (h : GW P ops (CM w0 own L B) D Grows (GrowsB B) bigs preds d Fin (k + 1) rest (setD S o.dst (.pred (RowFrom B e size (n + m) (xs ++ news))))) : GW P ops (CM w0 own L B) D Grows (GrowsB B) bigs preds d Fin k (o :: rest) S :=
  gw_any hw (.pred (RowFrom B e size (n + m) (xs ++ news))) (.inr ⟨by simpa using hp, fun v w w' _ _ hR hv => RowFrom.grow (show RowFrom B e size (n + m) (xs ++ news) v w from hv) hR⟩) (fun γ w hC _ hV => by
    have hv : RowFrom B e size n xs (γ s) w := hV s _ (List.mem_append_left _ (List.mem_filterMap.2 ⟨.tmp s, by simp [ho, Op.operands, Call.operands], rfl⟩)) hs
    have hu : RowFrom B e size m news (γ x) w := hV x _ (List.mem_append_left _ (List.mem_filterMap.2 ⟨.tmp x, by simp [ho, Op.operands, Call.operands], rfl⟩)) hx
    obtain ⟨ti, hti, hz0, hz1, hz2⟩ := info_parts ht.row
    obtain ⟨A', c', e', hc', hr'⟩ := hu.slice
    obtain ⟨v', w', hrun, h2, h3, h4⟩ := run_append_any (P := P) w B T o.type e ti z size bytes ht.under hti hz0 hz1 hz2 ht.zs ht.pos (γ s) n xs hv w.heap.size A' m c' news hr' h1 h63 hbytes hC.2.1
    have he1 : (slAct S γ d).eval (.tmp s) = γ s := by simp [Act.eval, slAct_tmp, hs, Slot.get]
    have he2 : (slAct S γ d).eval (.tmp x) = .slice A' m c' := by simp [Act.eval, slAct_tmp, hx, Slot.get, e']
    have hg : Grow w (fun i => B ≤ i) w' := (Grow.of_grownBy h3).mono (fun i hi e' => by
      rcases hv.2 with ⟨e2, _⟩ | ⟨g, cap, cur, e2, h5, _⟩
      · rw [e2] at e'; cases e'
      · rw [e2] at e'; simp [Value.ownBlock] at e'; omega)
    unfold yld execOp
    simp only [ho, resolve, invoke, builtin, Sem.run_bind, Sem.run_pure, Result.andThen_ok, List.map_toArray, List.map_cons, List.map_nil, he1, he2, hrun]
    refine ⟨(cm_growB _ _ hC hg).1, ?_, h2⟩
    unfold eff
    rw [if_pos hb]
    exact (cm_growB _ _ hC hg).2) h
end

/-! Fast forms: the frame, the operations and what is known of the slots as lists. -/
def ev (T : List Value) : Operand → Option Value
  | .tmp t => T[t]?
  | .const v => some v
  | .global g => some (.pointer (some ⟨g, 0, none⟩))
  | .func f => some (.func (.func f) #[] #[])
def wantB (l : List Oper) (T : List Value) : Option (Nat × Bool) → Option Bool
  | none => some true
  | some (j, want) => match l[j]? with
    | some o => match o.dst with
      | some t => match T[t]? with
        | some (.bool b) => some (b == want)
        | _ => none
      | none => none
    | none => none
def putT (T : List Value) (dst : Option Tmp) (v : Value) : List Value := match dst with
  | some t => T.set t v
  | none => T
theorem put_of (T : List Value) (d : List Deferred) (dst : Option Tmp) (v : Value) : (⟨T.toArray, d⟩ : Act).put dst v = ⟨(putT T dst v).toArray, d⟩ := by
  cases dst with
  | none => rfl
  | some t => simp [Act.put, putT]
theorem ev_of {T : List Value} {d : List Deferred} {x : Operand} {v : Value} (h : ev T x = some v) : (⟨T.toArray, d⟩ : Act).eval x = v := by
  cases x with
  | tmp t =>
    have h' : T[t]? = some v := h
    simp [Act.eval, h']
  | const c => exact Option.some.inj h
  | global g => exact Option.some.inj h
  | func f => exact Option.some.inj h
theorem want_of {l : List Oper} {T : List Value} {d : List Deferred} {o : Oper} {b : Bool} (h : wantB l T o.guard = some b) : Region.wanted o (yielded l.toArray (⟨T.toArray, d⟩ : Act).tmps) = b := by
  unfold wantB at h
  unfold Region.wanted
  split at h
  · rename_i hg
    rw [hg]
    simpa using h
  · rename_i j want hg
    rw [hg]
    split at h
    · rename_i o1 ho1
      split at h
      · rename_i t ht
        split at h
        · rename_i b' hb
          have h1 : l.toArray[j]? = some o1 := by simpa using ho1
          have h2 : T.toArray[t]? = some (.bool b') := by simpa using hb
          have hy : yielded l.toArray T.toArray j = some b' := by
            unfold yielded
            rw [h1, Option.bind_some, ht, Option.bind_some, h2]
          obtain rfl := Option.some.inj h
          simp only [hy]
          cases b' <;> cases want <;> rfl
        · cases h
      · cases h
    · cases h
def slWantsL (l : List Oper) (S : List Slot) : Option (Nat × Bool) → Option Bool
  | none => some true
  | some (j, want) => match l[j]? with
    | some o => match o.dst with
      | some t => match S[t]? with
        | some (.val (.bool b)) => some (b == want)
        | _ => none
      | none => none
    | none => none
theorem slWants_of {l : List Oper} {S : List Slot} {o : Oper} {b : Bool} (h : slWantsL l S o.guard = some b) : slWants l.toArray S o = some b := by
  unfold slWantsL at h
  unfold slWants
  split at h
  · rename_i hg
    rw [hg]
    exact h
  · rename_i j want hg
    rw [hg]
    split at h
    · rename_i o1 ho1
      split at h
      · rename_i t ht
        have h1 : l.toArray[j]? = some o1 := by simpa using ho1
        simp only [h1, Option.bind_some, ht]
        exact h
      · cases h
    · cases h
section
variable {P : Program} {l : List Oper} {T0 : List Value} {d0 : List Deferred} {rest : List Oper} {o : Oper} {w w0 : World} {own : Nat → Prop} {L L' : List Item} {Q : Exit → Act → World → Prop}
theorem wl_shape (h : wpList P l.toArray Q (o :: rest) ⟨T0.toArray, d0⟩ w) : wpList P l.toArray Q (o :: rest) ⟨T0.toArray, d0⟩ w := h
theorem wp_stL {K : Act → World → Prop} {T : TypeId} {x y : Operand} (ho : o.op = .store T x y) (hM : Mem w0 own w L) {g j : Nat} (hx : ev T0 x = some (.pointer (some ⟨g, j, none⟩))) {v : Value} (hy : ev T0 y = some v) (h1 : v.oneCell' = true) (hs : TyS P T 1) (hp : PutBlk L g j v L')
    (h : ∀ w', Mem w0 own w' L' → K ⟨(putT T0 o.dst undef).toArray, d0⟩ w') : o.wp P ⟨T0.toArray, d0⟩ w K Q :=
  wp_st (hs := hs) (hp := hp) hM ho (ev_of hx) (ev_of hy) h1 (by simp only [put_of]; exact h)
theorem wl_conv {src dst : TypeId} {x : Operand} (ho : o.op = .convert src dst x) (hM : Mem w0 own w L) (hgd : wantB l T0 o.guard = some true) {A : Option Addr} {n c : Nat} (hx : ev T0 x = some (.slice A n c)) {b : List (BitVec 8)} (hr : RdsB w0 own A n b) (ht : TyBS P src dst)
    (h : wpList P l.toArray Q rest ⟨(putT T0 o.dst (.string (strOf b))).toArray, d0⟩ w) : wpList P l.toArray Q (o :: rest) ⟨T0.toArray, d0⟩ w :=
  wo_conv (hr := hr) (ht := ht) ho hM (want_of hgd) (ev_of hx) (by simp only [put_of]; exact h)
theorem wl_boxa {T : TypeId} {x : Operand} (ho : o.op = .box T x) (hM : Mem w0 own w L) (hgd : wantB l T0 o.guard = some true) {cs : Array Value} (hx : ev T0 x = some (.agg cs))
    (h : ∀ g w', Mem w0 own w' (.blk g T cs :: L) → wpList P l.toArray Q rest ⟨(putT T0 o.dst (.pointer (some ⟨g, 0, none⟩))).toArray, d0⟩ w') : wpList P l.toArray Q (o :: rest) ⟨T0.toArray, d0⟩ w :=
  wo_boxa ho hM (want_of hgd) (ev_of hx) (by simp only [put_of]; exact h)
theorem wl_box1 {T : TypeId} {x : Operand} (ho : o.op = .box T x) (hM : Mem w0 own w L) (hgd : wantB l T0 o.guard = some true) {v : Value} (hx : ev T0 x = some (v)) (h1 : v.oneCell' = true)
    (h : ∀ g w', Mem w0 own w' (.blk g T #[v] :: L) → wpList P l.toArray Q rest ⟨(putT T0 o.dst (.pointer (some ⟨g, 0, none⟩))).toArray, d0⟩ w') : wpList P l.toArray Q (o :: rest) ⟨T0.toArray, d0⟩ w :=
  wo_box1 ho hM (want_of hgd) (ev_of hx) h1 (by simp only [put_of]; exact h)
theorem wl_alloc {T : TypeId} (ho : o.op = .alloc T) (hM : Mem w0 own w L) (hgd : wantB l T0 o.guard = some true) {cs : Array Value} (hz : TyZ P T cs)
    (h : ∀ g w', Mem w0 own w' (.blk g T cs :: L) → wpList P l.toArray Q rest ⟨(putT T0 o.dst (.pointer (some ⟨g, 0, none⟩))).toArray, d0⟩ w') : wpList P l.toArray Q (o :: rest) ⟨T0.toArray, d0⟩ w :=
  wo_alloc (hz := hz) ho hM (want_of hgd) (by simp only [put_of]; exact h)
theorem wl_ld {T : TypeId} {x : Operand} (ho : o.op = .load T x) (hM : Mem w0 own w L) (hgd : wantB l T0 o.guard = some true) {ad : Addr} (hx : ev T0 x = some (.pointer (some ad))) {v : Value} (hc : Cell w0 own L ad v) (ht : TySc P T)
    (h : wpList P l.toArray Q rest ⟨(putT T0 o.dst v).toArray, d0⟩ w) : wpList P l.toArray Q (o :: rest) ⟨T0.toArray, d0⟩ w :=
  wo_ld (hc := hc) (ht := ht) ho hM (want_of hgd) (ev_of hx) (by simp only [put_of]; exact h)
theorem wl_ldr {T : TypeId} {x : Operand} (ho : o.op = .load T x) (hM : Mem w0 own w L) (hgd : wantB l T0 o.guard = some true) {b of : Nat} (hx : ev T0 x = some (.pointer (some ⟨b, of, none⟩))) {vs : List Value} {n : Nat} (hc : Rng w0 own L b of vs) (ht : TyAg P T) (hs : TyS P T n) (hn : SzL vs n)
    (h : wpList P l.toArray Q rest ⟨(putT T0 o.dst (.agg vs.toArray)).toArray, d0⟩ w) : wpList P l.toArray Q (o :: rest) ⟨T0.toArray, d0⟩ w :=
  wo_ldr (hc := hc) (ht := ht) (hs := hs) (hn := hn) ho hM (want_of hgd) (ev_of hx) (by simp only [put_of]; exact h)
theorem wl_lda {T : TypeId} {x : Operand} (ho : o.op = .load T x) (hM : Mem w0 own w L) (hgd : wantB l T0 o.guard = some true) {g : Nat} (hx : ev T0 x = some (.pointer (some ⟨g, 0, none⟩))) {t : TypeId} {cs : Array Value} {n : Nat} (hc : HasBlk L g t cs) (ht : TyAg P T) (hs : TyS P T n) (hn : SzA cs n)
    (h : wpList P l.toArray Q rest ⟨(putT T0 o.dst (.agg cs)).toArray, d0⟩ w) : wpList P l.toArray Q (o :: rest) ⟨T0.toArray, d0⟩ w :=
  wo_lda (hc := hc) (ht := ht) (hs := hs) (hn := hn) ho hM (want_of hgd) (ev_of hx) (by simp only [put_of]; exact h)
theorem wl_st {T : TypeId} {x y : Operand} (ho : o.op = .store T x y) (hM : Mem w0 own w L) (hgd : wantB l T0 o.guard = some true) {g j : Nat} (hx : ev T0 x = some (.pointer (some ⟨g, j, none⟩))) {v : Value} (hy : ev T0 y = some (v)) (h1 : v.oneCell' = true) (hs : TyS P T 1) (hp : PutBlk L g j v L')
    (h : ∀ w', Mem w0 own w' L' → wpList P l.toArray Q rest ⟨(putT T0 o.dst undef).toArray, d0⟩ w') : wpList P l.toArray Q (o :: rest) ⟨T0.toArray, d0⟩ w :=
  wo_st (hs := hs) (hp := hp) ho hM (want_of hgd) (ev_of hx) (ev_of hy) h1 (by simp only [put_of]; exact h)
theorem wl_sta {T : TypeId} {x y : Operand} (ho : o.op = .store T x y) (hM : Mem w0 own w L) (hgd : wantB l T0 o.guard = some true) {g : Nat} (hx : ev T0 x = some (.pointer (some ⟨g, 0, none⟩))) {cs : Array Value} (hy : ev T0 y = some (.agg cs)) (h1 : cs.all (·.oneCell') = true) {n : Nat} (hs : TyS P T n) (hn : SzA cs n) (hp : PutAll L g n cs L')
    (h : ∀ w', Mem w0 own w' L' → wpList P l.toArray Q rest ⟨(putT T0 o.dst undef).toArray, d0⟩ w') : wpList P l.toArray Q (o :: rest) ⟨T0.toArray, d0⟩ w :=
  wo_sta (hs := hs) (hn := hn) (hp := hp) ho hM (want_of hgd) (ev_of hx) (ev_of hy) h1 (by simp only [put_of]; exact h)
theorem wl_bs0 {T : TypeId} (ho : o.op = .buildSlice T 0 #[]) (hM : Mem w0 own w L) (hgd : wantB l T0 o.guard = some true) {e : TypeId} {z : Value} {size bytes : Nat} (ht : TySl P T e z size bytes)
    (h : ∀ g w', Mem w0 own w' (.row (.slice (some ⟨g, 0, none⟩) 0 0) e size 0 [] :: L) → wpList P l.toArray Q rest ⟨(putT T0 o.dst (.slice (some ⟨g, 0, none⟩) 0 0)).toArray, d0⟩ w') : wpList P l.toArray Q (o :: rest) ⟨T0.toArray, d0⟩ w :=
  wo_bs0 (ht := ht) ho hM (want_of hgd) (by simp only [put_of]; exact h)
theorem wl_bs1 {T : TypeId} {x : Operand} (ho : o.op = .buildSlice T 1 #[(0, x)]) (hM : Mem w0 own w L) (hgd : wantB l T0 o.guard = some true) {e : TypeId} {z : Value} {size bytes : Nat} (ht : TySl P T e z size bytes) {v : Value} (hx : ev T0 x = some (v)) {xs : List Value} (hxs : v.cells.toList = xs) (hxl : xs.length = size)
    (h : ∀ g w', Mem w0 own w' (.row (.slice (some ⟨g, 0, none⟩) 1 1) e size 1 xs :: L) → wpList P l.toArray Q rest ⟨(putT T0 o.dst (.slice (some ⟨g, 0, none⟩) 1 1)).toArray, d0⟩ w') : wpList P l.toArray Q (o :: rest) ⟨T0.toArray, d0⟩ w :=
  wo_bs1 (ht := ht) ho hM (want_of hgd) (ev_of hx) hxs hxl (by simp only [put_of]; exact h)
theorem wl_bs1a {T : TypeId} {x : Operand} (ho : o.op = .buildSlice T 1 #[(0, x)]) (hM : Mem w0 own w L) (hgd : wantB l T0 o.guard = some true) {e : TypeId} {z : Value} {size bytes : Nat} (ht : TySl P T e z size bytes) {xs : List Value} (hx : ev T0 x = some (.agg xs.toArray)) (hxl : SzL xs size)
    (h : ∀ g w', Mem w0 own w' (.row (.slice (some ⟨g, 0, none⟩) 1 1) e size 1 xs :: L) → wpList P l.toArray Q rest ⟨(putT T0 o.dst (.slice (some ⟨g, 0, none⟩) 1 1)).toArray, d0⟩ w') : wpList P l.toArray Q (o :: rest) ⟨T0.toArray, d0⟩ w :=
  wl_bs1 ho hM hgd ht hx rfl hxl.out h
theorem wl_bs11 {T : TypeId} {x : Operand} (ho : o.op = .buildSlice T 1 #[(0, x)]) (hM : Mem w0 own w L) (hgd : wantB l T0 o.guard = some true) {e : TypeId} {z : Value} {bytes : Nat} (ht : TySl P T e z 1 bytes) {v : Value} (hx : ev T0 x = some v) (h1 : v.oneCell' = true)
    (h : ∀ g w', Mem w0 own w' (.row (.slice (some ⟨g, 0, none⟩) 1 1) e 1 1 [v] :: L) → wpList P l.toArray Q rest ⟨(putT T0 o.dst (.slice (some ⟨g, 0, none⟩) 1 1)).toArray, d0⟩ w') : wpList P l.toArray Q (o :: rest) ⟨T0.toArray, d0⟩ w :=
  wl_bs1 ho hM hgd ht hx (xs := [v]) (by cases v <;> first | rfl | cases h1) rfl h
theorem wl_app {s x : Operand} {T : TypeId} (ho : o.op = .call { callee := .builtin .append, args := #[s, x], argTypes := #[T, T] }) (hM : Mem w0 own w L) (hgd : wantB l T0 o.guard = some true) {e : TypeId} {z : Value} {size bytes : Nat} (ht : TySl P T e z size bytes)
    {v : Value} (hs : ev T0 s = some (v)) {u : Value} (hx : ev T0 x = some (u)) {e' : TypeId} {m : Nat} {news : List Value} (hr : HasRow L u e' size m news) (h1 : ∀ u ∈ news, u.oneCell' = true)
    {i n k : Nat} {xs ys : List Value} (hp : RowIx L v i e size n xs) (h63 : n + m ≤ maxLen) (hbytes : (n + m) * bytes ≤ 140737488355328) (hk : n + m = k) (hys : xs ++ news = ys)
    (h : ∀ A' c' w', Mem w0 own w' (L.set i (.row (.slice A' k c') e size k ys)) → wpList P l.toArray Q rest ⟨(putT T0 o.dst (.slice A' k c')).toArray, d0⟩ w') : wpList P l.toArray Q (o :: rest) ⟨T0.toArray, d0⟩ w :=
  wo_app (ht := ht) (hr := hr) (hp := hp) ho hM (want_of hgd) (ev_of hs) (ev_of hx) h1 h63 hbytes hk hys (by simp only [put_of]; exact h)
theorem wl_appv {s x : Operand} {T : TypeId} (ho : o.op = .call { callee := .builtin .append, args := #[s, x], argTypes := #[T, T] }) (hM : Mem w0 own w L) (hgd : wantB l T0 o.guard = some true) {e : TypeId} {z : Value} {size bytes : Nat} (ht : TySl P T e z size bytes)
    {v : Value} (hs : ev T0 s = some (v)) {A : Option Addr} {m c : Nat} (hx : ev T0 x = some (.slice A m c)) {news : List Value} (hr : Rds w0 own A m size news) (h1 : ∀ u ∈ news, u.oneCell' = true)
    {i n k : Nat} {xs ys : List Value} (hp : RowIx L v i e size n xs) (h63 : n + m ≤ maxLen) (hbytes : (n + m) * bytes ≤ 140737488355328) (hk : n + m = k) (hys : xs ++ news = ys)
    (h : ∀ A' c' w', Mem w0 own w' (L.set i (.row (.slice A' k c') e size k ys)) → wpList P l.toArray Q rest ⟨(putT T0 o.dst (.slice A' k c')).toArray, d0⟩ w') : wpList P l.toArray Q (o :: rest) ⟨T0.toArray, d0⟩ w :=
  wo_appv (ht := ht) (hr := hr) (hp := hp) ho hM (want_of hgd) (ev_of hs) (ev_of hx) h1 h63 hbytes hk hys (by simp only [put_of]; exact h)
end
section
variable {P : Program} {l : List Oper} {w0 : World} {own : Nat → Prop} {L : List Item} {B : Nat} {D : World → Prop} {bigs preds : List Nat} {d : List Deferred} {Fin : List Slot → Prop} {k : Nat} {o : Oper} {rest : List Oper} {S : List Slot}
theorem gl_conv {src dst : TypeId} {x : Operand} (ho : o.op = .convert src dst x) (hw : slWantsL l S o.guard = some true) {A : Option Addr} {n c : Nat} (hx : slEval S x = some (.slice A n c)) {b : List (BitVec 8)} (hr : RdsB w0 own A n b) (ht : TyBS P src dst)
    (h : GW P l.toArray (CM w0 own L B) D Grows (GrowsB B) bigs preds d Fin (k + 1) rest (setD S o.dst (.val (.string (strOf b))))) : GW P l.toArray (CM w0 own L B) D Grows (GrowsB B) bigs preds d Fin k (o :: rest) S := by
  obtain ⟨e, h1, h2, h3⟩ := ht.out
  refine gw_read cm_quiet (slWants_of hw) (.string (strOf b)) (fun γ w hC => ?_) h
  unfold execOp
  simp only [ho, slEval_spec hx γ, Sem.run_bind, Sem.run_pure, Result.andThen_ok, run_convert_bytes_string w src dst e A n c h1 h2 h3, run_bytes_str (hr.out w hC.1.grow)]
theorem gw_nil {C : World → Prop} {R R' : World → World → Prop} {ops : Array Oper} (h : Fin S) : GW P ops C D R R' bigs preds d Fin k [] S := h
theorem gl_ldr {T : TypeId} {x : Operand} (ho : o.op = .load T x) (hw : slWantsL l S o.guard = some true) {b of : Nat} (hx : slEval S x = some (.pointer (some ⟨b, of, none⟩))) {vs : List Value} {n : Nat} (hc : Rng w0 own L b of vs) (ht : TyAg P T) (hs : TyS P T n) (hn : SzL vs n)
    (h : GW P l.toArray (CM w0 own L B) D Grows (GrowsB B) bigs preds d Fin (k + 1) rest (setD S o.dst (.val (.agg vs.toArray)))) : GW P l.toArray (CM w0 own L B) D Grows (GrowsB B) bigs preds d Fin k (o :: rest) S := by
  obtain ⟨dd, hu, hd⟩ := TyAg.ex (h := ht)
  refine gw_read cm_quiet (slWants_of hw) (.agg vs.toArray) (fun γ w hC => ?_) h
  unfold execOp
  simp only [ho, slEval_spec hx γ, Sem.run_bind, run_loadAt_mid w b of T vs dd (hc.out w hC.1) hu (by cases dd <;> first | rfl | cases hd) (by rw [hs.out, hn.out]), Result.andThen_ok, Sem.run_pure]
theorem gl_skip (hw : slWantsL l S o.guard = some false) (h : GW P l.toArray (CM w0 own L B) D Grows (GrowsB B) bigs preds d Fin (k + 1) rest (setD S o.dst (.val undef))) : GW P l.toArray (CM w0 own L B) D Grows (GrowsB B) bigs preds d Fin k (o :: rest) S := gw_skip (slWants_of hw) h
theorem gl_move {x : Operand} (ho : o.op = .move x ∨ o.op = .assign x) (hw : slWantsL l S o.guard = some true) {c : Value} (hx : slEval S x = some c) (h : GW P l.toArray (CM w0 own L B) D Grows (GrowsB B) bigs preds d Fin (k + 1) rest (setD S o.dst (.val c))) : GW P l.toArray (CM w0 own L B) D Grows (GrowsB B) bigs preds d Fin k (o :: rest) S := gw_move cm_quiet (slWants_of hw) x ho c hx h
theorem gl_pure (hw : slWantsL l S o.guard = some true) (h : ∀ K : Value → Prop, (∀ c, GW P l.toArray (CM w0 own L B) D Grows (GrowsB B) bigs preds d Fin (k + 1) rest (setD S o.dst (.val c)) → K c) → ∃ c, (∀ γ w, (execOp (slAct S γ d).eval o).run P w = .ok (.value c) w) ∧ K c) : GW P l.toArray (CM w0 own L B) D Grows (GrowsB B) bigs preds d Fin k (o :: rest) S := gw_pure_ex cm_quiet (slWants_of hw) h
theorem gl_pick {x y z : Operand} (ho : o.op = .pick x y z) (hw : slWantsL l S o.guard = some true) {b : Bool} {u v : Value} (hx : slEval S x = some (.bool b)) (hy : slEval S y = some u) (hz : slEval S z = some v)
    (h : GW P l.toArray (CM w0 own L B) D Grows (GrowsB B) bigs preds d Fin (k + 1) rest (setD S o.dst (.val (bif b then u else v)))) : GW P l.toArray (CM w0 own L B) D Grows (GrowsB B) bigs preds d Fin k (o :: rest) S := gw_pick cm_quiet (slWants_of hw) x y z ho b u v hx hy hz h
theorem gl_cmp (b : Bool) {bop : BinOp} {t t' : TypeId} {x y : Operand} (ho : o.op = .binOp bop t x y t') (hw : slWantsL l S o.guard = some true) {kd : IntKind} {m n : Int} (hx : slEval S x = some (.int kd m)) (hy : slEval S y = some (.int kd n)) (hb : cmpB bop m n = some b)
    (h : GW P l.toArray (CM w0 own L B) D Grows (GrowsB B) bigs preds d Fin (k + 1) rest (setD S o.dst (.val (.bool b)))) : GW P l.toArray (CM w0 own L B) D Grows (GrowsB B) bigs preds d Fin k (o :: rest) S := gw_cmp cm_quiet (slWants_of hw) bop t t' x y ho kd m n hx hy b hb h
/-- A call whose result is one value, and which writes nothing that is there. -/
theorem gl_call {f : FuncId} {xs : Array Operand} {ts : Array TypeId} (ho : o.op = .call { callee := .value (.func f), args := xs, argTypes := ts }) (hw : slWantsL l S o.guard = some true) (hnb : bigs.contains k = false) (args : Array Value) (hx : xs.toList.map (slEval S) = args.toList.map some) (c : Value) (hr : ∀ γ w, (execOp (slAct S γ d).eval o).run P w = .ok (.enter f args) w)
    (hc : ∀ w, CM w0 own L B w → Calls P f args w fun e w' => e = .returned c ∧ Grow w noOwn w') (h : GW P l.toArray (CM w0 own L B) D Grows (GrowsB B) bigs preds d Fin (k + 1) rest (setD S o.dst (.val c))) : GW P l.toArray (CM w0 own L B) D Grows (GrowsB B) bigs preds d Fin k (o :: rest) S :=
  gw_call (slWants_of hw) hnb f xs ts ho args hx c hr (fun w hC => (hc w hC).mono fun e w' ⟨he, hg⟩ => ⟨he, (cm_grow w w' hC hg).1, hg⟩) h
theorem gl_ld {T : TypeId} {x : Operand} (ho : o.op = .load T x) (hw : slWantsL l S o.guard = some true) {ad : Addr} (hx : slEval S x = some (.pointer (some ad))) {v : Value} (hc : Cell w0 own L ad v) (ht : TySc P T)
    (h : GW P l.toArray (CM w0 own L B) D Grows (GrowsB B) bigs preds d Fin (k + 1) rest (setD S o.dst (.val v))) : GW P l.toArray (CM w0 own L B) D Grows (GrowsB B) bigs preds d Fin k (o :: rest) S :=
  go1_ld (hc := hc) (ht := ht) ho (slWants_of hw) hx h
theorem gl_lda {T : TypeId} {x : Operand} (ho : o.op = .load T x) (hw : slWantsL l S o.guard = some true) {g : Nat} (hx : slEval S x = some (.pointer (some ⟨g, 0, none⟩))) {t : TypeId} {cs : Array Value} {n : Nat} (hc : HasBlk L g t cs) (ht : TyAg P T) (hs : TyS P T n) (hn : SzA cs n)
    (h : GW P l.toArray (CM w0 own L B) D Grows (GrowsB B) bigs preds d Fin (k + 1) rest (setD S o.dst (.val (.agg cs)))) : GW P l.toArray (CM w0 own L B) D Grows (GrowsB B) bigs preds d Fin k (o :: rest) S :=
  go1_lda (hc := hc) (ht := ht) (hs := hs) (hn := hn) ho (slWants_of hw) hx h
theorem gl_lookup {T : TypeId} {x y : Operand} {ok : Bool} (ho : o.op = .lookup T x y ok) (hw : slWantsL l S o.guard = some true) {g : Nat} (hx : slEval S x = some (.map (some g))) {kk : Int} (hy : slEval S y = some (.int .i64 kk)) {f : Int → Option Value} (hc : HasMap L g f) {K E : TypeId} {z : Value} (ht : TyMi P T K E z)
    {v : Value} (hv : (if ok then .tuple #[(f kk).getD z, .bool (f kk).isSome] else (f kk).getD z) = v) (h : GW P l.toArray (CM w0 own L B) D Grows (GrowsB B) bigs preds d Fin (k + 1) rest (setD S o.dst (.val v))) : GW P l.toArray (CM w0 own L B) D Grows (GrowsB B) bigs preds d Fin k (o :: rest) S :=
  go1_lookup (hc := hc) (ht := ht) ho (slWants_of hw) hx hy hv h
theorem gl_row0 {T : TypeId} (ho : o.op = .buildSlice T 0 #[]) (hw : slWantsL l S o.guard = some true) {e : TypeId} {z : Value} {size bytes : Nat} (ht : TySl P T e z size bytes) (hnb : bigs.contains k = false) (hp : preds.contains k = true)
    (h : GW P l.toArray (CM w0 own L B) D Grows (GrowsB B) bigs preds d Fin (k + 1) rest (setD S o.dst (.pred (RowFrom B e size 0 [])))) : GW P l.toArray (CM w0 own L B) D Grows (GrowsB B) bigs preds d Fin k (o :: rest) S :=
  go1_row0 (ht := ht) ho (slWants_of hw) hnb hp h
theorem gl_row1 {T : TypeId} {x : Operand} (ho : o.op = .buildSlice T 1 #[(0, x)]) (hw : slWantsL l S o.guard = some true) {e : TypeId} {z : Value} {size bytes : Nat} (ht : TySl P T e z size bytes) (hnb : bigs.contains k = false) (hp : preds.contains k = true) {v : Value} (hx : slEval S x = some v) {xs : List Value} (hxs : v.cells.toList = xs) (hxl : xs.length = size)
    (h : GW P l.toArray (CM w0 own L B) D Grows (GrowsB B) bigs preds d Fin (k + 1) rest (setD S o.dst (.pred (RowFrom B e size 1 xs)))) : GW P l.toArray (CM w0 own L B) D Grows (GrowsB B) bigs preds d Fin k (o :: rest) S :=
  go1_row1 (ht := ht) ho (slWants_of hw) hnb hp hx hxs hxl h
theorem gl_appv {s : Nat} {x : Operand} {T : TypeId} (ho : o.op = .call { callee := .builtin .append, args := #[.tmp s, x], argTypes := #[T, T] }) (hw : slWantsL l S o.guard = some true) (hb : bigs.contains k = true) (hp : preds.contains k = true) {e : TypeId} {z : Value} {size bytes : Nat} (ht : TySl P T e z size bytes)
    {n : Nat} {xs : List Value} (hs : S[s]? = some (.pred (RowFrom B e size n xs))) {A : Option Addr} {m c : Nat} (hx : slEval S x = some (.slice A m c)) {news : List Value} (hr : Rds w0 own A m size news) (h1 : ∀ u ∈ news, u.oneCell' = true) (h63 : n + m ≤ maxLen) (hbytes : (n + m) * bytes ≤ 140737488355328)
    (h : GW P l.toArray (CM w0 own L B) D Grows (GrowsB B) bigs preds d Fin (k + 1) rest (setD S o.dst (.pred (RowFrom B e size (n + m) (xs ++ news))))) : GW P l.toArray (CM w0 own L B) D Grows (GrowsB B) bigs preds d Fin k (o :: rest) S :=
  go1_appv (ht := ht) (hr := hr) ho (slWants_of hw) hb hp hs hx h1 h63 hbytes h
theorem gl_app {s x : Nat} {T : TypeId} (ho : o.op = .call { callee := .builtin .append, args := #[.tmp s, .tmp x], argTypes := #[T, T] }) (hw : slWantsL l S o.guard = some true) (hb : bigs.contains k = true) (hp : preds.contains k = true) {e : TypeId} {z : Value} {size bytes : Nat} (ht : TySl P T e z size bytes)
    {n : Nat} {xs : List Value} (hs : S[s]? = some (.pred (RowFrom B e size n xs))) {m : Nat} {news : List Value} (hx : S[x]? = some (.pred (RowFrom B e size m news))) (h1 : ∀ u ∈ news, u.oneCell' = true) (h63 : n + m ≤ maxLen) (hbytes : (n + m) * bytes ≤ 140737488355328)
    (h : GW P l.toArray (CM w0 own L B) D Grows (GrowsB B) bigs preds d Fin (k + 1) rest (setD S o.dst (.pred (RowFrom B e size (n + m) (xs ++ news))))) : GW P l.toArray (CM w0 own L B) D Grows (GrowsB B) bigs preds d Fin k (o :: rest) S :=
  go1_app (ht := ht) ho (slWants_of hw) hb hp hs hx h1 h63 hbytes h
theorem gl_row1a {T : TypeId} {x : Operand} (ho : o.op = .buildSlice T 1 #[(0, x)]) (hw : slWantsL l S o.guard = some true) {e : TypeId} {z : Value} {size bytes : Nat} (ht : TySl P T e z size bytes) (hnb : bigs.contains k = false) (hp : preds.contains k = true) {xs : List Value} (hx : slEval S x = some (.agg xs.toArray)) (hxl : SzL xs size)
    (h : GW P l.toArray (CM w0 own L B) D Grows (GrowsB B) bigs preds d Fin (k + 1) rest (setD S o.dst (.pred (RowFrom B e size 1 xs)))) : GW P l.toArray (CM w0 own L B) D Grows (GrowsB B) bigs preds d Fin k (o :: rest) S :=
  gl_row1 ho hw ht hnb hp hx rfl hxl.out h
theorem gl_row11 {T : TypeId} {x : Operand} (ho : o.op = .buildSlice T 1 #[(0, x)]) (hw : slWantsL l S o.guard = some true) {e : TypeId} {z : Value} {bytes : Nat} (ht : TySl P T e z 1 bytes) (hnb : bigs.contains k = false) (hp : preds.contains k = true) {v : Value} (hx : slEval S x = some v) (h1 : v.oneCell' = true)
    (h : GW P l.toArray (CM w0 own L B) D Grows (GrowsB B) bigs preds d Fin (k + 1) rest (setD S o.dst (.pred (RowFrom B e 1 1 [v])))) : GW P l.toArray (CM w0 own L B) D Grows (GrowsB B) bigs preds d Fin k (o :: rest) S :=
  gl_row1 ho hw ht hnb hp hx (xs := [v]) (by cases v <;> first | rfl | cases h1) rfl h
theorem gl_row00 {T : TypeId} (ho : o.op = .buildSlice T 0 #[]) (hw : slWantsL l S o.guard = some true) {e : TypeId} {z : Value} {size bytes : Nat} (ht : TySl P T e z size bytes) (hnb : bigs.contains k = false) (hp : preds.contains k = true)
    (h : GW P l.toArray (CM w0 own L B) D Grows (GrowsB B) bigs preds d Fin (k + 1) rest (setD S o.dst (.pred (Row00 B e size)))) : GW P l.toArray (CM w0 own L B) D Grows (GrowsB B) bigs preds d Fin k (o :: rest) S :=
  go1_row00 (ht := ht) (slWants_of hw) ho hnb hp h
theorem gl_appv0 {s : Nat} {x : Operand} {T : TypeId} (ho : o.op = .call { callee := .builtin .append, args := #[.tmp s, x], argTypes := #[T, T] }) (hw : slWantsL l S o.guard = some true) (hnb : bigs.contains k = false) (hp : preds.contains k = true) {e : TypeId} {z : Value} {size bytes : Nat} (ht : TySl P T e z size bytes)
    (hs : S[s]? = some (.pred (Row00 B e size))) {A : Option Addr} {m c : Nat} (hx : slEval S x = some (.slice A m c)) {news : List Value} (hr : Rds w0 own A m size news) (h63 : 0 + m ≤ maxLen) (hbytes : (0 + m) * bytes ≤ 140737488355328)
    (h : GW P l.toArray (CM w0 own L B) D Grows (GrowsB B) bigs preds d Fin (k + 1) rest (setD S o.dst (.pred (RowFrom B e size m news)))) : GW P l.toArray (CM w0 own L B) D Grows (GrowsB B) bigs preds d Fin k (o :: rest) S :=
  go1_appv0 (ht := ht) (hr := hr) (slWants_of hw) ho hnb hp hs hx h63 hbytes h
end
end Go.Proofs.Ytnmnknjgibkkaaa
