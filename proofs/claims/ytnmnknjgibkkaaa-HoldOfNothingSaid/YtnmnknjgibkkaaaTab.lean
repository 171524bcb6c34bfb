/- Tables under whole numbers: rising rows of pairs; maps that hold them: length, delete, the keys. -/
import Derived.Test.YtnmnknjgibkkaaaGen
import Derived.Maps.Range
import Derived.Lib.SlKeysI
namespace Go.Proofs.Ytnmnknjgibkkaaa
open Go.RowKit Go.MapKept
set_option linter.unusedSimpArgs false
set_option linter.unusedVariables false
/-- What a row of pairs holds under a key. -/
def tget {β : Type} (tb : List (Int × β)) (k : Int) : Option β := (tb.find? (fun p => decide (p.1 = k))).map (·.2)
/-- Keys that rise. -/
def Rise {β : Type} (tb : List (Int × β)) : Prop := tb.Pairwise (fun p q => p.1 < q.1)
def tset {β : Type} (k : Int) (v : β) : List (Int × β) → List (Int × β)
  | [] => [(k, v)]
  | p :: r => if k < p.1 then (k, v) :: p :: r else if k = p.1 then (k, v) :: r else p :: tset k v r
def tdel {β : Type} (k : Int) (tb : List (Int × β)) : List (Int × β) := tb.filter (fun p => decide (p.1 ≠ k))
def tmap {β γ : Type} (f : β → γ) (tb : List (Int × β)) : List (Int × γ) := tb.map fun p => (p.1, f p.2)
section
variable {β : Type}
theorem tget_nil (k : Int) : tget ([] : List (Int × β)) k = none := rfl
theorem tget_cons (p : Int × β) (r : List (Int × β)) (k : Int) : tget (p :: r) k = if p.1 = k then some p.2 else tget r k := by
  unfold tget
  by_cases h : p.1 = k <;> simp [List.find?_cons, h]
theorem tget_none {tb : List (Int × β)} {k : Int} (h : ∀ p ∈ tb, p.1 ≠ k) : tget tb k = none := by
  unfold tget
  rw [List.find?_eq_none.2 (fun p hp => by simp [h p hp])]
  rfl
theorem tget_some {tb : List (Int × β)} {k : Int} {v : β} (h : tget tb k = some v) : (k, v) ∈ tb := by
  unfold tget at h
  obtain ⟨p, hp, rfl⟩ := Option.map_eq_some_iff.1 h
  have h1 := List.find?_some hp
  have h2 := List.mem_of_find?_eq_some hp
  obtain ⟨a, b⟩ := p
  have e : a = k := by simpa using h1
  subst e
  exact h2
theorem tget_mem {tb : List (Int × β)} (hr : Rise tb) {k : Int} {v : β} (h : (k, v) ∈ tb) : tget tb k = some v := by
  induction tb with
  | nil => cases h
  | cons p r ih =>
    rw [tget_cons]
    obtain ⟨h1, h2⟩ := List.pairwise_cons.1 hr
    rcases List.mem_cons.1 h with e | h
    · subst e; simp
    · have := h1 _ h
      rw [if_neg (by simp only at this; omega)]
      exact ih h2 h
theorem tget_isSome {tb : List (Int × β)} {k : Int} : (tget tb k).isSome = tb.any (fun p => decide (p.1 = k)) := by
  induction tb with
  | nil => rfl
  | cons p r ih =>
    rw [tget_cons, List.any_cons, ← ih]
    by_cases h : p.1 = k <;> simp [h]
theorem tset_mem {k : Int} {v : β} : ∀ {tb : List (Int × β)} {p : Int × β}, p ∈ tset k v tb → p = (k, v) ∨ p ∈ tb
  | [], p, h => by simpa [tset] using h
  | q :: r, p, h => by
    unfold tset at h
    split at h
    · rcases List.mem_cons.1 h with h | h
      · exact .inl h
      · exact .inr h
    · split at h
      · rcases List.mem_cons.1 h with h | h
        · exact .inl h
        · exact .inr (List.mem_cons_of_mem _ h)
      · rcases List.mem_cons.1 h with h | h
        · exact .inr (by rw [h]; exact List.mem_cons_self ..)
        · rcases tset_mem h with h | h
          · exact .inl h
          · exact .inr (List.mem_cons_of_mem _ h)
theorem tset_rise {k : Int} {v : β} : ∀ {tb : List (Int × β)}, Rise tb → Rise (tset k v tb)
  | [], h => by simp [tset, Rise]
  | q :: r, h => by
    obtain ⟨h1, h2⟩ := List.pairwise_cons.1 h
    unfold tset
    split
    · rename_i hlt
      refine List.pairwise_cons.2 ⟨fun p hp => ?_, h⟩
      rcases List.mem_cons.1 hp with rfl | hp
      · exact hlt
      · have := h1 p hp; show k < p.1; omega
    · split
      · rename_i he
        exact List.pairwise_cons.2 ⟨fun p hp => by have := h1 p hp; show k < p.1; omega, h2⟩
      · rename_i hlt hne
        refine List.pairwise_cons.2 ⟨fun p hp => ?_, tset_rise h2⟩
        rcases tset_mem hp with rfl | hp
        · show q.1 < k; omega
        · exact h1 p hp
theorem tget_tset {k : Int} {v : β} (j : Int) : ∀ (tb : List (Int × β)), tget (tset k v tb) j = if j = k then some v else tget tb j
  | [] => by unfold tset; rw [tget_cons, tget_nil]; simp [eq_comm]
  | q :: r => by
    unfold tset
    split
    · rename_i hlt
      rw [tget_cons]
      by_cases h : j = k
      · simp [h]
      · rw [if_neg (by simp only; omega), if_neg h]
    · split
      · rename_i he
        rw [tget_cons, tget_cons]
        by_cases h : j = k
        · simp [h]
        · rw [if_neg (by simp only; omega), if_neg h, if_neg (by omega)]
      · rename_i hlt hne
        rw [tget_cons, tget_cons, tget_tset j r]
        by_cases h : q.1 = j
        · rw [if_pos h, if_pos h, if_neg (by omega)]
        · rw [if_neg h, if_neg h]
theorem tdel_rise {k : Int} {tb : List (Int × β)} (h : Rise tb) : Rise (tdel k tb) := List.Pairwise.sublist List.filter_sublist h
theorem tget_tdel {k : Int} (j : Int) : ∀ (tb : List (Int × β)), tget (tdel k tb) j = if j = k then none else tget tb j
  | [] => by simp [tdel, tget]
  | q :: r => by
    unfold tdel
    rw [List.filter_cons]
    by_cases h : q.1 = k
    · rw [if_neg (by simp [h])]
      have := tget_tdel (k := k) j r
      unfold tdel at this
      rw [this, tget_cons]
      by_cases h2 : j = k
      · simp [h2]
      · rw [if_neg h2, if_neg h2, if_neg (by omega)]
    · rw [if_pos (by simp [h]), tget_cons, tget_cons]
      have := tget_tdel (k := k) j r
      unfold tdel at this
      rw [this]
      by_cases h2 : q.1 = j
      · rw [if_pos h2, if_pos h2, if_neg (by omega)]
      · rw [if_neg h2, if_neg h2]
theorem tdel_same {k : Int} {tb : List (Int × β)} (h : (tget tb k).isSome = false) : tdel k tb = tb := by
  unfold tdel
  rw [tget_isSome] at h
  refine List.filter_eq_self.2 fun p hp => ?_
  have := List.any_eq_false.1 h p hp
  simpa using this
theorem tset_len {k : Int} {v : β} : ∀ (tb : List (Int × β)), (tset k v tb).length ≤ tb.length + 1
  | [] => by simp [tset]
  | q :: r => by
    have := tset_len (k := k) (v := v) r
    unfold tset
    split
    · simp
    · split <;> simp <;> omega
theorem tdel_len {k : Int} (tb : List (Int × β)) : (tdel k tb).length ≤ tb.length := List.length_filter_le _ _
theorem rise_nodup {tb : List (Int × β)} (h : Rise tb) : (tb.map (·.1)).Nodup := List.pairwise_map.2 (h.imp fun {a b} hab => by show a.1 ≠ b.1; have h' : a.1 < b.1 := hab; omega)
end
section
variable {tb : List (Int × Value)} {es : Array MapEntry} {clock : Nat}
/-- The keys of a map that holds a rising row. -/
theorem isMap_keys (hr : Rise tb) (h : IsMap (tget tb) (.map es clock)) : (es.toList.map (·.key)).Perm (tb.map fun p => Value.int .i64 p.1) := by
  obtain ⟨es', clock', e, hs, hks, hnone, hsome⟩ := h
  injection e with e1 e2
  subst e1 e2
  refine (List.perm_ext_iff_of_nodup hs.2.2 ?_).2 fun x => ?_
  · rw [show (tb.map fun p => Value.int .i64 p.1) = (tb.map (·.1)).map (Value.int .i64) from by rw [List.map_map]; rfl]
    exact List.pairwise_map.2 ((rise_nodup hr).imp fun {a b} hab e => hab (by injection e))
  · rw [List.mem_map, List.mem_map]
    constructor
    · rintro ⟨y, hy, rfl⟩
      have hk := hks y hy
      obtain ⟨k, hk2⟩ : ∃ k, y.key = .int .i64 k := by
        unfold IsKey at hk
        split at hk <;> first | (cases hk; done) | skip
        all_goals (first | (rename_i h1 h2; cases h1; done) | skip)
        all_goals (rename_i a b h1 h2; injection h1 with h1; subst h1; subst hk; exact ⟨_, h2⟩)
      cases hf : tget tb k with
      | none => exact absurd hk2 (hnone k hf y hy)
      | some v => exact ⟨(k, v), tget_some hf, hk2.symm⟩
    · rintro ⟨p, hp, rfl⟩
      obtain ⟨x, hx, h1, _⟩ := hsome p.1 p.2 (tget_mem hr hp)
      exact ⟨x, hx, h1⟩
theorem isMap_size (hr : Rise tb) (h : IsMap (tget tb) (.map es clock)) : es.size = tb.length := by
  have := (isMap_keys hr h).length_eq
  simpa using this
end
section
variable {P : Program} {w : World} {T K E : TypeId} {g : Nat} {f : Int → Option Value} {o : Obj}
theorem run_delete_map (hT : P.underlying T = some (.map K E)) (hK : P.underlying K = some (.int .i64)) (ho : w.heap[g]? = some o) (hf : IsMap f o) (k : Int) (ty : TypeId) :
    ∃ o', (Builtin.delete_ #[T, K] ty #[.map (some g), .int .i64 k]).run P w = .ok (.tuple #[]) { w with heap := w.heap.setIfInBounds g o' } ∧ IsMap (fun j => if j = k then none else f j) o' := by
  obtain ⟨es, clock, rfl, hs, hks, hnone, hsome⟩ := hf
  rcases findNow_spec (isKey_i64 k) es.toList 0 hks with ⟨h1, h2⟩ | ⟨j, e, h1, h2, h3⟩
  · refine ⟨.map es clock, by simp [Builtin.delete_, run_underlying hT, MapKept.run_getObj_map ho, MapKept.run_checkKey hK (isKey_i64 k), MapKept.run_findKey hK h1, MapKept.run_setObj_map _ ho, Result.andThen], es, clock, rfl, hs, hks, fun i hi x hx => ?_, fun i v hi => ?_⟩
    · simp only at hi
      split at hi
      · rename_i e; subst e; exact h2 x hx
      · exact hnone i hi x hx
    · simp only at hi
      split at hi
      · cases hi
      · exact hsome i v hi
  · have hjl : j < es.toList.length := (List.getElem?_eq_some_iff.1 h2).1
    have hjs : j < es.size := by simpa using hjl
    have hsub : (es.eraseIdxIfInBounds j).toList = es.toList.eraseIdx j := by
      unfold Array.eraseIdxIfInBounds
      rw [dif_pos hjs]
      simp
    have hmem : ∀ x, x ∈ (es.eraseIdxIfInBounds j).toList → x ∈ es.toList := fun x hx => by rw [hsub] at hx; exact (List.eraseIdx_sublist _ _).subset hx
    have hst := stamped_erase hs j
    have hej : e ∈ es.toList := List.mem_of_getElem? h2
    have hgone : ∀ x ∈ (es.eraseIdxIfInBounds j).toList, x.key ≠ .int .i64 k := by
      intro x hx hk
      have e1 := nodup_key hs (hmem x hx) hej (hk.trans h3.symm)
      subst e1
      have hnd : es.toList.Nodup := List.Pairwise.of_map (fun y => y.key) (fun a b hab e => hab (by rw [e])) hs.2.2
      rw [hsub] at hx
      obtain ⟨q, hq, hqj, rfl⟩ := List.mem_eraseIdx_iff_getElem.1 hx
      have hidx : es.toList[j] = es.toList[q] := (List.getElem?_eq_some_iff.1 h2).2
      have hp := List.pairwise_iff_getElem.1 hnd
      rcases Nat.lt_trichotomy q j with h | h | h
      · exact hp q j hq hjl h hidx.symm
      · exact hqj h
      · exact hp j q hjl hq h hidx
    refine ⟨.map (es.eraseIdxIfInBounds j) clock, by simp [Builtin.delete_, run_underlying hT, MapKept.run_getObj_map ho, MapKept.run_checkKey hK (isKey_i64 k), MapKept.run_findKey hK h1, MapKept.run_setObj_map _ ho, Result.andThen], _, clock, rfl, hst, fun x hx => hks x (hmem x hx), fun i hi x hx => ?_, fun i v hi => ?_⟩
    · simp only at hi
      split at hi
      · rename_i e; subst e; exact hgone x hx
      · exact hnone i hi x (hmem x hx)
    · simp only at hi
      split at hi
      · cases hi
      · rename_i hne
        obtain ⟨x, hx, h4, h5⟩ := hsome i v hi
        refine ⟨x, ?_, h4, h5⟩
        rw [hsub]
        refine List.mem_eraseIdx_iff_getElem.2 ?_
        obtain ⟨q, hq, rfl⟩ := List.mem_iff_getElem.1 hx
        refine ⟨q, hq, ?_, rfl⟩
        rintro rfl
        have : es.toList[q] = e := (List.getElem?_eq_some_iff.1 h2).2
        rw [this, h3] at h4
        injection h4 with _ h4
        exact hne h4.symm
end
section
variable {P : Program} {l : List Oper} {T0 : List Value} {d0 : List Deferred} {rest : List Oper} {o : Oper} {w w0 : World} {own : Nat → Prop} {L : List Item} {Q : Exit → Act → World → Prop}
/-- What a table's map holds, by its row. -/
class HasTab (L : List Item) (g : Nat) (tb : outParam (List (Int × Value))) : Prop where out : Item.obj g (IsMap (tget tb)) ∈ L
instance {L : List Item} {g : Nat} {tb : List (Int × Value)} : HasTab (.obj g (IsMap (tget tb)) :: L) g tb := ⟨List.mem_cons_self ..⟩
instance (priority := low) {L : List Item} {x : Item} {g : Nat} {tb : List (Int × Value)} [h : HasTab L g tb] : HasTab (x :: L) g tb := ⟨List.mem_cons_of_mem _ h.out⟩
class PutTab (L : List Item) (g : Nat) (tb : outParam (List (Int × Value))) (F : List (Int × Value) → List (Int × Value)) (L' : outParam (List Item)) : Prop where
  out : ∃ i : Nat, L[i]? = some (.obj g (IsMap (tget tb))) ∧ L.set i (.obj g (IsMap (tget (F tb)))) = L'
instance {L : List Item} {g : Nat} {tb : List (Int × Value)} {F : List (Int × Value) → List (Int × Value)} : PutTab (.obj g (IsMap (tget tb)) :: L) g tb F (.obj g (IsMap (tget (F tb))) :: L) := ⟨0, rfl, rfl⟩
instance (priority := low) {L L' : List Item} {x : Item} {g : Nat} {tb : List (Int × Value)} {F : List (Int × Value) → List (Int × Value)} [h : PutTab L g tb F L'] : PutTab (x :: L) g tb F (x :: L') :=
  ⟨by obtain ⟨i, h1, h2⟩ := h.out; exact ⟨i + 1, by simpa using h1, by rw [List.set_cons_succ, h2]⟩⟩
theorem Mem.setObj (hM : Mem w0 own w L) (i : Nat) {g : Nat} {p p' : Obj → Prop} {o' : Obj} (hi : L[i]? = some (.obj g p)) (hp : p' o') : Mem w0 own { w with heap := w.heap.setIfInBounds g o' } (L.set i (.obj g p')) := by
  have hlt := hM.lt i hi rfl
  have hk : ∀ k, k ≠ g → (w.heap.setIfInBounds g o')[k]? = w.heap[k]? := fun k hk => by rw [Array.getElem?_setIfInBounds, if_neg (fun e => hk e.symm)]
  refine hM.upd i hi ⟨hM.grow.os, hM.grow.tape, hM.grow.output, by simpa using hM.grow.size, fun k hk1 hk2 => ?_⟩ (fun k hk1 hk2 => hk k (fun e => hk2 (by rw [e]; rfl))) ⟨o', by simp [hlt], hp⟩ (fun k e => .inl e)
  show (w.heap.setIfInBounds g o')[k]? = w0.heap[k]?
  rw [hk k ?_]
  · exact hM.grow.block k hk1 hk2
  · rintro rfl
    rcases hM.own_ i hi rfl with h | h
    · exact hk2 h
    · omega
/-- A look-up. -/
theorem wl_tget {T : TypeId} {x y : Operand} {ok : Bool} (ho : o.op = .lookup T x y ok) (hM : Mem w0 own w L) (hgd : wantB l T0 o.guard = some true) {g : Nat} (hx : ev T0 x = some (.map (some g))) {k : Int} (hy : ev T0 y = some (.int .i64 k)) {tb : List (Int × Value)} (hc : HasTab L g tb) {K E : TypeId} {z : Value} (ht : TyMi P T K E z)
    {v : Value} (hv : (if ok then .tuple #[(tget tb k).getD z, .bool (tget tb k).isSome] else (tget tb k).getD z) = v) (h : wpList P l.toArray Q rest ⟨(putT T0 o.dst v).toArray, d0⟩ w) : wpList P l.toArray Q (o :: rest) ⟨T0.toArray, d0⟩ w :=
  BigFrame.wpList_want (want_of hgd) fun K1 hK1 => by
    obtain ⟨ob, h1, h2⟩ := hM.has _ hc.out
    unfold Oper.wp execOp
    simp only [ho, ev_of hx, ev_of hy, Sem.run_bind, Sem.run_pure, Result.andThen_ok, run_lookup_map ht.under ht.key ht.zero h1 h2 k ok, hv]
    exact hK1 _ _ (by rw [put_of]; exact h)
/-- A key has a value now. -/
theorem wl_tset {T : TypeId} {x y u : Operand} (ho : o.op = .mapUpdate T x y u) (hM : Mem w0 own w L) (hgd : wantB l T0 o.guard = some true) {g : Nat} (hx : ev T0 x = some (.map (some g))) {k : Int} (hy : ev T0 y = some (.int .i64 k)) {v : Value} (hu : ev T0 u = some v) {tb : List (Int × Value)} {L' : List Item} (hc : PutTab L g tb (tset k v) L') {K E : TypeId} {z : Value} (ht : TyMi P T K E z)
    (h : ∀ w', Mem w0 own w' L' → wpList P l.toArray Q rest ⟨(putT T0 o.dst undef).toArray, d0⟩ w') : wpList P l.toArray Q (o :: rest) ⟨T0.toArray, d0⟩ w :=
  BigFrame.wpList_want (want_of hgd) fun K1 hK1 => by
    obtain ⟨i, hi, rfl⟩ := hc.out
    obtain ⟨ob, h1, h2⟩ := hM.at_ i hi
    obtain ⟨o', hr, ho'⟩ := run_update_map ht.under ht.key h1 h2 k v
    unfold Oper.wp execOp
    simp only [ho, ev_of hx, ev_of hy, ev_of hu, Sem.run_bind, Sem.run_pure, Result.andThen_ok, hr]
    refine hK1 _ _ ?_
    rw [put_of]
    exact (h _ (hM.setObj i hi (by
      have e : (fun j => if j = k then some v else tget tb j) = tget (tset k v tb) := funext fun j => (tget_tset j tb).symm
      rw [← e]; exact ho')))
/-- A key has no value now. -/
theorem wl_tdel {T K' : TypeId} {x y : Operand} (ho : o.op = .call { callee := .builtin .delete, args := #[x, y], argTypes := #[T, K'] }) (hM : Mem w0 own w L) (hgd : wantB l T0 o.guard = some true) {g : Nat} (hx : ev T0 x = some (.map (some g))) {k : Int} (hy : ev T0 y = some (.int .i64 k)) {tb : List (Int × Value)} {L' : List Item} (hc : PutTab L g tb (tdel k) L') {E : TypeId} {z : Value} (ht : TyMi P T K' E z)
    (h : ∀ w', Mem w0 own w' L' → wpList P l.toArray Q rest ⟨(putT T0 o.dst (.tuple #[])).toArray, d0⟩ w') : wpList P l.toArray Q (o :: rest) ⟨T0.toArray, d0⟩ w :=
  BigFrame.wpList_want (want_of hgd) fun K1 hK1 => by
    obtain ⟨i, hi, rfl⟩ := hc.out
    obtain ⟨ob, h1, h2⟩ := hM.at_ i hi
    obtain ⟨o', hr, ho'⟩ := run_delete_map ht.under ht.key h1 h2 k o.type
    unfold Oper.wp execOp
    simp only [ho, resolve, invoke, builtin, List.map_toArray, List.map_cons, List.map_nil, ev_of hx, ev_of hy, Sem.run_bind, Sem.run_pure, Result.andThen_ok, hr]
    refine hK1 _ _ ?_
    rw [put_of]
    exact (h _ (hM.setObj i hi (by
      have e : (fun j => if j = k then none else tget tb j) = tget (tdel k tb) := funext fun j => (tget_tdel j tb).symm
      rw [← e]; exact ho')))
/-- How many keys there are. -/
theorem wl_tlen {T K E : TypeId} {z : Value} {x : Operand} (ho : o.op = .call { callee := .builtin .len, args := #[x], argTypes := #[T] }) (hM : Mem w0 own w L) (hgd : wantB l T0 o.guard = some true) {g : Nat} (hx : ev T0 x = some (.map (some g))) {tb : List (Int × Value)} (hc : HasTab L g tb) (ht : TyMi P T K E z) (hr : Rise tb)
    (h : wpList P l.toArray Q rest ⟨(putT T0 o.dst (.int .i64 tb.length)).toArray, d0⟩ w) : wpList P l.toArray Q (o :: rest) ⟨T0.toArray, d0⟩ w :=
  BigFrame.wpList_want (want_of hgd) fun K1 hK1 => by
    obtain ⟨ob, h1, h2⟩ := hM.has _ hc.out
    obtain ⟨es, clock, e, _⟩ := id h2
    subst e
    have hsz := isMap_size hr h2
    have hlen : (Builtin.len_ #[T] o.type #[.map (some g)]).run P w = .ok (.int .i64 tb.length) w := by
      simp [Builtin.len_, run_underlying ht.under, MapKept.run_getObj_map h1, hsz, goInt]
    unfold Oper.wp execOp
    simp only [ho, resolve, invoke, builtin, List.map_toArray, List.map_cons, List.map_nil, ev_of hx, Sem.run_bind, Sem.run_pure, Result.andThen_ok, hlen]
    exact hK1 _ _ (by rw [put_of]; exact h)
end
end Go.Proofs.Ytnmnknjgibkkaaa
