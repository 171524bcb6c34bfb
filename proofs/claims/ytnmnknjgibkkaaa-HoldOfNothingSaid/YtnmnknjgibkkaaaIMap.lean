/- Maps of whole numbers: known key by key. -/
import Derived.Test.YtnmnknjgibkkaaaGhost2
import Derived.MapKept
namespace Go.Proofs.Ytnmnknjgibkkaaa
open Go.RowKit Go.MapKept

/-- A map whose key k has the value f k (none: it has none). -/
def IsMap (f : Int → Option Value) (o : Obj) : Prop :=
  ∃ es clock, o = .map es clock ∧ Stamped es clock ∧ (∀ x ∈ es.toList, IsKey (.int .i64) x.key) ∧
    (∀ k, f k = none → ∀ x ∈ es.toList, x.key ≠ .int .i64 k) ∧ ∀ k v, f k = some v → ∃ x ∈ es.toList, x.key = .int .i64 k ∧ x.val = v
theorem isKey_i64 (k : Int) : IsKey (.int .i64) (.int .i64 k) := by simp [IsKey]
theorem IsMap.empty : IsMap (fun _ => none) (.map #[] 0) := ⟨#[], 0, rfl, stamped_empty 0, by simp, by simp, by simp⟩
theorem nodup_key {es : Array MapEntry} {clock : Nat} (h : Stamped es clock) {x y : MapEntry} (hx : x ∈ es.toList) (hy : y ∈ es.toList) (e : x.key = y.key) : x = y := by
  obtain ⟨_, _, hn⟩ := h
  obtain ⟨i, hi, rfl⟩ := List.mem_iff_getElem.1 hx
  obtain ⟨j, hj, rfl⟩ := List.mem_iff_getElem.1 hy
  have hp := List.pairwise_iff_getElem.1 hn
  have : i = j := by
    rcases Nat.lt_trichotomy i j with h | h | h
    · exact absurd (by rw [List.getElem_map, List.getElem_map]; exact e) (hp i j (by simpa using hi) (by simpa using hj) h)
    · exact h
    · exact absurd (by rw [List.getElem_map, List.getElem_map]; exact e.symm) (hp j i (by simpa using hj) (by simpa using hi) h)
  subst this
  rfl

section
variable {P : Program} {w : World} {T K E : TypeId} {g : Nat} {f : Int → Option Value} {o : Obj} {z : Value}
theorem run_lookup_map (hT : P.underlying T = some (.map K E)) (hK : P.underlying K = some (.int .i64)) (hz : (P.info? E).bind (·.zero) = some z) (ho : w.heap[g]? = some o) (hf : IsMap f o) (k : Int) (ok : Bool) :
    (Instr.lookup T (.map (some g)) (.int .i64 k) ok).run P w = .ok (if ok then .tuple #[(f k).getD z, .bool (f k).isSome] else (f k).getD z) w := by
  obtain ⟨es, clock, rfl, hs, hks, hnone, hsome⟩ := hf
  have hzr : (zeroValue E).run P w = .ok z w := by
    cases hq : P.info? E with
    | none => simp [hq] at hz
    | some i =>
      cases hzi : i.zero with
      | none => simp [hq, hzi] at hz
      | some z' =>
        have : z' = z := by simpa [hq, hzi] using hz
        simp [zeroValue, typeInfo, hq, hzi, this]
  rcases findNow_spec (isKey_i64 k) es.toList 0 hks with ⟨h1, h2⟩ | ⟨j, e, h1, h2, h3⟩
  · have hfk : f k = none := by
      cases hc : f k with
      | none => rfl
      | some v =>
        obtain ⟨x, hx, he, _⟩ := hsome k v hc
        exact absurd he (h2 x hx)
    simp [Instr.lookup, run_underlying hT, MapKept.run_getObj_map ho, MapKept.run_checkKey hK (isKey_i64 k), MapKept.run_findKey hK h1, hzr, hfk]
  · have hfk : f k = some e.val := by
      cases hc : f k with
      | none => exact absurd h3 (hnone k hc e (List.mem_of_getElem? h2))
      | some v =>
        obtain ⟨x, hx, he, hv⟩ := hsome k v hc
        rw [← hv, nodup_key hs hx (List.mem_of_getElem? h2) (he.trans h3.symm)]
    simp [Instr.lookup, run_underlying hT, MapKept.run_getObj_map ho, MapKept.run_checkKey hK (isKey_i64 k), MapKept.run_findKey hK h1, hfk]
theorem run_update_map (hT : P.underlying T = some (.map K E)) (hK : P.underlying K = some (.int .i64)) (ho : w.heap[g]? = some o) (hf : IsMap f o) (k : Int) (v : Value) :
    ∃ o', (Instr.mapUpdate T (.map (some g)) (.int .i64 k) v).run P w = .ok () { w with heap := w.heap.setIfInBounds g o' } ∧ IsMap (fun j => if j = k then some v else f j) o' := by
  obtain ⟨es, clock, rfl, hs, hks, hnone, hsome⟩ := hf
  rcases findNow_spec (isKey_i64 k) es.toList 0 hks with ⟨h1, h2⟩ | ⟨j, e, h1, h2, h3⟩
  · refine ⟨.map (es.push { key := .int .i64 k, val := v, born := clock }) (clock + 1), by simp [Instr.mapUpdate, run_underlying hT, MapKept.run_getObj_map ho, MapKept.run_checkKey hK (isKey_i64 k), MapKept.run_findKey hK h1, MapKept.run_setObj_map _ ho], _, _, rfl, stamped_push hs h2, ?_, ?_, ?_⟩
    · intro x hx
      simp only [Array.toList_push, List.mem_append, List.mem_singleton] at hx
      rcases hx with hx | rfl
      · exact hks x hx
      · exact isKey_i64 k
    · intro j hj x hx
      simp only [Array.toList_push, List.mem_append, List.mem_singleton] at hx
      dsimp only at hj
      split at hj
      · cases hj
      · rename_i hne
        rcases hx with hx | rfl
        · exact hnone j hj x hx
        · simp; exact fun e => hne e.symm
    · intro j u hj
      simp only [Array.toList_push, List.mem_append, List.mem_singleton]
      dsimp only at hj
      split at hj
      · rename_i e; subst e
        injection hj with hj; subst hj
        exact ⟨_, .inr rfl, rfl, rfl⟩
      · obtain ⟨x, hx, h⟩ := hsome j u hj
        exact ⟨x, .inl hx, h⟩
  · have hj : es[j]? = some e := by simpa using h2
    have hjl : j < es.size := (Array.getElem?_eq_some_iff.1 hj).1
    have hkey : ∀ e', es[j]? = some e' → ({ e' with key := .int .i64 k, val := v } : MapEntry).key = e'.key := fun e' he' => by rw [hj] at he'; cases he'; exact h3.symm
    have hmem : ∀ x, x ∈ (es.modify j fun e => { e with key := .int .i64 k, val := v }).toList ↔ (∃ i, i ≠ j ∧ es[i]? = some x) ∨ x = { e with key := .int .i64 k, val := v } := by
      intro x
      constructor
      · intro hx
        obtain ⟨i, hi, hxe⟩ := List.mem_iff_getElem.1 hx
        have hi' : i < es.size := by simpa using hi
        simp only [Array.getElem_toList, Array.getElem_modify] at hxe
        split at hxe
        · rename_i hji
          subst hji
          right
          have : es[j] = e := by simpa [hjl] using hj
          rw [← hxe, this]
        · rename_i hji
          left
          exact ⟨i, fun e => hji e.symm, by simp [hi', hxe]⟩
      · rintro (⟨i, hij, hx⟩ | rfl)
        · have hi : i < es.size := (Array.getElem?_eq_some_iff.1 hx).1
          refine List.mem_iff_getElem.2 ⟨i, by simpa using hi, ?_⟩
          simp only [Array.getElem_toList, Array.getElem_modify]
          rw [if_neg (Ne.symm hij)]
          simpa [hi] using hx
        · refine List.mem_iff_getElem.2 ⟨j, by simpa using hjl, ?_⟩
          simp only [Array.getElem_toList, Array.getElem_modify, if_true]
          have : es[j] = e := by simpa [hjl] using hj
          rw [this]
    refine ⟨.map (es.modify j fun e => { e with key := .int .i64 k, val := v }) clock, by simp [Instr.mapUpdate, run_underlying hT, MapKept.run_getObj_map ho, MapKept.run_checkKey hK (isKey_i64 k), MapKept.run_findKey hK h1, hj, h3, MapKept.run_keyThatStays (isKey_i64 k), MapKept.run_setObj_map _ ho], _, _, rfl, stamped_modify hs _ _ (fun _ _ => rfl) (fun e' _ he' => hkey e' he'), isKey_modify hks _ _ hkey, ?_, ?_⟩
    · intro i hi x hx
      dsimp only at hi
      split at hi
      · cases hi
      · rename_i hne
        rcases (hmem x).1 hx with ⟨i', _, hx'⟩ | rfl
        · exact hnone i hi x (by simpa using Array.mem_of_getElem? hx')
        · simp; exact fun e => hne e.symm
    · intro i u hi
      dsimp only at hi
      split at hi
      · rename_i e'; subst e'
        injection hi with hi; subst hi
        exact ⟨_, (hmem _).2 (.inr rfl), rfl, rfl⟩
      · rename_i hne
        obtain ⟨x, hx, h⟩ := hsome i u hi
        obtain ⟨i', hi', hxe⟩ := List.mem_iff_getElem.1 hx
        have hx' : es[i']? = some x := by
          have : i' < es.size := by simpa using hi'
          simp [this] at hxe ⊢
          exact hxe
        refine ⟨x, (hmem x).2 (.inl ⟨i', fun e' => ?_, hx'⟩), h⟩
        subst e'
        rw [hj] at hx'
        injection hx' with hx'
        subst hx'
        rw [h3] at h
        have := h.1
        injection this with _ this
        exact hne this.symm
end
section
variable {P : Program} {ops : Array Oper} {rest : List Oper} {o : Oper} {a : Act} {w w0 : World} {own : Nat → Prop} {L : List Item} {Q : Exit → Act → World → Prop} {K0 : Act → World → Prop}
/-- A look-up in a map at hand. -/
theorem wpList_lookup_mem (hgd : Region.wanted o (yielded ops a.tmps) = true) (T : TypeId) (x y : Operand) (ok : Bool) (ho : o.op = .lookup T x y ok) (hM : Mem w0 own w L) (i g : Nat) (f : Int → Option Value) (hi : L[i]? = some (.obj g (IsMap f)))
    (K E : TypeId) (hT : P.underlying T = some (.map K E)) (hK : P.underlying K = some (.int .i64)) (z : Value) (hz : (P.info? E).bind (·.zero) = some z) (hx : a.eval x = .map (some g)) (k : Int) (hy : a.eval y = .int .i64 k)
    (h : wpList P ops Q rest (a.put o.dst (if ok then .tuple #[(f k).getD z, .bool (f k).isSome] else (f k).getD z)) w) : wpList P ops Q (o :: rest) a w :=
  BigFrame.wpList_want hgd fun K1 hK1 => by
    obtain ⟨ob, hob, hf⟩ : (Item.obj g (IsMap f)).at_ w := hM.at_ i hi
    unfold Oper.wp execOp
    simp only [ho, hx, hy, Sem.run_bind, run_lookup_map hT hK hz hob hf k ok, Result.andThen_ok, Sem.run_pure]
    exact hK1 _ _ h
theorem Mem.setMap (hM : Mem w0 own w L) (i g : Nat) {p q : Obj → Prop} (hi : L[i]? = some (.obj g p)) (o' : Obj) (hq : q o') : Mem w0 own { w with heap := w.heap.setIfInBounds g o' } (L.set i (.obj g q)) := by
  have hlt : g < w.heap.size := hM.lt i hi rfl
  refine hM.upd i hi ⟨hM.grow.os, hM.grow.tape, hM.grow.output, by simpa using hM.grow.size, fun j hj hn => ?_⟩ (fun j hj hne => ?_) ⟨o', by simp [hlt], hq⟩ (fun _ e => .inl e)
  · by_cases hjg : j = g
    · subst hjg
      rcases hM.own_ i hi rfl with h | h
      · exact absurd h hn
      · omega
    · have : ({ w with heap := w.heap.setIfInBounds g o' } : World).heap[j]? = w.heap[j]? := by simp [Ne.symm hjg]
      rw [this]
      exact hM.grow.block j hj hn
  · have hjg : g ≠ j := fun e => hne (by rw [e]; rfl)
    simp [hjg]
theorem wp_update_mem (T : TypeId) (x y u : Operand) (ho : o.op = .mapUpdate T x y u) (hM : Mem w0 own w L) (i g : Nat) (f : Int → Option Value) (hi : L[i]? = some (.obj g (IsMap f)))
    (K E : TypeId) (hT : P.underlying T = some (.map K E)) (hK : P.underlying K = some (.int .i64)) (hx : a.eval x = .map (some g)) (k : Int) (hy : a.eval y = .int .i64 k) (v : Value) (hv : a.eval u = v)
    (h : ∀ w', Mem w0 own w' (L.set i (.obj g (IsMap (fun j => if j = k then some v else f j)))) → K0 (a.put o.dst undef) w') : o.wp P a w K0 Q := by
  obtain ⟨ob, hob, hf⟩ : (Item.obj g (IsMap f)).at_ w := hM.at_ i hi
  obtain ⟨o', hrun, hf'⟩ := run_update_map hT hK hob hf k v
  unfold Oper.wp execOp
  simp only [ho, hx, hy, hv, Sem.run_bind, hrun, Result.andThen_ok, Sem.run_pure]
  exact h _ (hM.setMap i g hi o' hf')
theorem wpList_update_mem (hgd : Region.wanted o (yielded ops a.tmps) = true) (T : TypeId) (x y u : Operand) (ho : o.op = .mapUpdate T x y u) (hM : Mem w0 own w L) (i g : Nat) (f : Int → Option Value) (hi : L[i]? = some (.obj g (IsMap f)))
    (K E : TypeId) (hT : P.underlying T = some (.map K E)) (hK : P.underlying K = some (.int .i64)) (hx : a.eval x = .map (some g)) (k : Int) (hy : a.eval y = .int .i64 k) (v : Value) (hv : a.eval u = v)
    (h : ∀ w', Mem w0 own w' (L.set i (.obj g (IsMap (fun j => if j = k then some v else f j)))) → wpList P ops Q rest (a.put o.dst undef) w') : wpList P ops Q (o :: rest) a w :=
  BigFrame.wpList_want hgd fun _ hK1 => wp_update_mem T x y u ho hM i g f hi K E hT hK hx k hy v hv fun w' h2 => hK1 _ _ (h w' h2)
/-- A map is made. -/
theorem wpList_makeMap_mem (hgd : Region.wanted o (yielded ops a.tmps) = true) (T : TypeId) (ho : o.op = .makeMap T none) (hM : Mem w0 own w L)
    (h : ∀ g w', Mem w0 own w' (.obj g (IsMap (fun _ => none)) :: L) → wpList P ops Q rest (a.put o.dst (.map (some g))) w') : wpList P ops Q (o :: rest) a w :=
  BigFrame.wpList_want hgd fun K1 hK1 => by
    have hr : (execOp a.eval o).run P w = .ok (.value (.map (some w.heap.size))) (w.alloc (.map #[] 0)) := by
      simp [execOp, ho, Instr.makeMap, newObj, Sem.run]
    unfold Oper.wp
    rw [hr]
    exact hK1 _ _ (h _ _ (hM.push (hM.grow.alloc _) (fun k hk => Below.heap_alloc w _ k hk) ⟨_, heap_alloc_new w _, IsMap.empty⟩ (fun g e => by simp [Item.foot] at e; omega)))
end
section
variable {P : Program} {ops : Array Oper} {C D : World → Prop} {R R' : World → World → Prop} {bigs preds : List Nat} {d : List Deferred} {Fin : List Slot → Prop} {k : Nat} {o : Oper} {rest : List Oper} {S : List Slot}
/-- A look-up in a region that draws. -/
theorem gw_lookup (hq : Quiet C R R') (hw : slWants ops S o = some true) (T : TypeId) (x y : Operand) (ok : Bool) (ho : o.op = .lookup T x y ok) (g : Nat) (f : Int → Option Value) (hf : ∀ w, C w → ∃ ob, w.heap[g]? = some ob ∧ IsMap f ob)
    (K E : TypeId) (hT : P.underlying T = some (.map K E)) (hK : P.underlying K = some (.int .i64)) (z : Value) (hz : (P.info? E).bind (·.zero) = some z) (hx : slEval S x = some (.map (some g))) (kk : Int) (hy : slEval S y = some (.int .i64 kk)) (v : Value) (hv : (if ok then .tuple #[(f kk).getD z, .bool (f kk).isSome] else (f kk).getD z) = v)
    (h : GW P ops C D R R' bigs preds d Fin (k + 1) rest (setD S o.dst (.val v))) : GW P ops C D R R' bigs preds d Fin k (o :: rest) S :=
  gw_read hq hw v (fun γ w hC => by
    obtain ⟨ob, hob, hm⟩ := hf w hC
    unfold execOp
    simp only [ho, slEval_spec hx γ, slEval_spec hy γ, Sem.run_bind, run_lookup_map hT hK hz hob hm kk ok, Result.andThen_ok, Sem.run_pure, hv]) h
end
end Go.Proofs.Ytnmnknjgibkkaaa
