/- Sets of threes of whole numbers: maps of a struct of three, whose values are all true. -/
import Derived.Test.YtechglhkcjgodaaIMap
import Derived.Laws.StructEq
namespace Go.Proofs.Ytechglhkcjgodaa
open Go.RowKit Go.MapKept
set_option linter.unusedVariables false
set_option linter.unusedSimpArgs false

def k3 (a b c : Int) : Value := .agg #[.int .i64 a, .int .i64 b, .int .i64 c]
/-- A struct of three whole numbers. -/
structure Key3 (P : Program) (K : TypeId) : Prop where
  under : P.underlying K = some (.struct (P.fieldsOf K))
  stood : P.stoodInHeld K = false
  fields : ∃ f0 f1 f2 : Field, (P.fieldsOf K).toList = [f0, f1, f2] ∧ (f0.name ≠ "_" ∧ f1.name ≠ "_" ∧ f2.name ≠ "_") ∧ (f0.offset = 0 ∧ f1.offset = 1 ∧ f2.offset = 2) ∧
    (P.underlying f0.type = some (.int .i64) ∧ P.underlying f1.type = some (.int .i64) ∧ P.underlying f2.type = some (.int .i64))
/-- A set of threes. -/
def IsSet3 (S : Int → Int → Int → Bool) (o : Obj) : Prop :=
  ∃ es clock, o = .map es clock ∧ (∀ x ∈ es.toList, ∃ a b c, x.key = k3 a b c ∧ x.val = .bool true ∧ S a b c = true) ∧ ∀ a b c, S a b c = true → ∃ x ∈ es.toList, x.key = k3 a b c
theorem k3_inj {a b c a' b' c' : Int} (h : k3 a b c = k3 a' b' c') : a = a' ∧ b = b' ∧ c = c' := by
  unfold k3 at h
  injection h with h
  simpa using h
theorem IsSet3.empty : IsSet3 (fun _ _ _ => false) (.map #[] 0) := ⟨#[], 0, rfl, by simp, by simp⟩
section
variable {P : Program} {w : World} {T K E : TypeId} {g : Nat} {S : Int → Int → Int → Bool} {o : Obj}
theorem run_part_int {t : TypeId} (h : P.underlying t = some (.int .i64)) (cs : Array Value) (i : Nat) (v : Value) (hv : cs[i]? = some v) : (part t cs i).run P w = .ok v w := by
  simp [part, isAgg, run_underlying h, hv]
theorem run_equal3 (hK : Key3 P K) (d : Nat) (a b c a' b' c' : Int) : (Op.equalIn (d + 2) K (k3 a b c) (k3 a' b' c')).run P w = .ok (decide (a = a' ∧ b = b' ∧ c = c')) w := by
  obtain ⟨f0, f1, f2, hf, ⟨n0, n1, n2⟩, ⟨o0, o1, o2⟩, t0, t1, t2⟩ := hK.fields
  unfold k3
  rw [show d + 2 = (d + 1) + 1 from rfl, run_equalIn_struct w (d + 1) K _ _ hK.under hK.stood, hf]
  have p0 : ∀ (x y z : Int) w, (part f0.type #[.int .i64 x, .int .i64 y, .int .i64 z] 0).run P w = .ok (.int .i64 x) w := fun x y z w => run_part_int t0 _ 0 _ rfl
  have p1 : ∀ (x y z : Int) w, (part f1.type #[.int .i64 x, .int .i64 y, .int .i64 z] 1).run P w = .ok (.int .i64 y) w := fun x y z w => run_part_int t1 _ 1 _ rfl
  have p2 : ∀ (x y z : Int) w, (part f2.type #[.int .i64 x, .int .i64 y, .int .i64 z] 2).run P w = .ok (.int .i64 z) w := fun x y z w => run_part_int t2 _ 2 _ rfl
  have q0 : ∀ (x y : Int) w, (Op.equalIn (d + 1) f0.type (.int .i64 x) (.int .i64 y)).run P w = .ok (x == y) w := fun x y w => run_equalIn_int w d f0.type .i64 .i64 x y t0
  have q1 : ∀ (x y : Int) w, (Op.equalIn (d + 1) f1.type (.int .i64 x) (.int .i64 y)).run P w = .ok (x == y) w := fun x y w => run_equalIn_int w d f1.type .i64 .i64 x y t1
  have q2 : ∀ (x y : Int) w, (Op.equalIn (d + 1) f2.type (.int .i64 x) (.int .i64 y)).run P w = .ok (x == y) w := fun x y w => run_equalIn_int w d f2.type .i64 .i64 x y t2
  by_cases h0 : a = a' <;> by_cases h1 : b = b' <;> by_cases h2 : c = c' <;>
    simp [Op.eqFields, n0, n1, n2, o0, o1, o2, p0, p1, p2, q0, q1, q2, h0, h1, h2]
theorem run_checkKey3 (hK : Key3 P K) (e : Bool) (n : Nat) (a b c : Int) : (Instr.checkKey e (n + 2) K (k3 a b c)).run P w = .ok () w := by
  obtain ⟨f0, f1, f2, hf, ⟨n0, n1, n2⟩, ⟨o0, o1, o2⟩, t0, t1, t2⟩ := hK.fields
  have c0 : ∀ (x : Int) w, (Instr.checkKey e (n + 1) f0.type (.int .i64 x)).run P w = .ok () w := fun x w => MapKept.run_checkKey t0 (isKey_i64 x) e n
  have c1 : ∀ (x : Int) w, (Instr.checkKey e (n + 1) f1.type (.int .i64 x)).run P w = .ok () w := fun x w => MapKept.run_checkKey t1 (isKey_i64 x) e n
  have c2 : ∀ (x : Int) w, (Instr.checkKey e (n + 1) f2.type (.int .i64 x)).run P w = .ok () w := fun x w => MapKept.run_checkKey t2 (isKey_i64 x) e n
  have p0 : ∀ (x y z : Int) w, (part f0.type #[.int .i64 x, .int .i64 y, .int .i64 z] 0).run P w = .ok (.int .i64 x) w := fun x y z w => run_part_int t0 _ 0 _ rfl
  have p1 : ∀ (x y z : Int) w, (part f1.type #[.int .i64 x, .int .i64 y, .int .i64 z] 1).run P w = .ok (.int .i64 y) w := fun x y z w => run_part_int t1 _ 1 _ rfl
  have p2 : ∀ (x y z : Int) w, (part f2.type #[.int .i64 x, .int .i64 y, .int .i64 z] 2).run P w = .ok (.int .i64 z) w := fun x y z w => run_part_int t2 _ 2 _ rfl
  unfold Instr.checkKey k3
  simp only [Sem.run_bind, run_underlying hK.under, Result.andThen_ok]
  rw [← Array.forIn_toList, hf]
  simp only [List.forIn_cons, List.forIn_nil, n0, n1, n2, o0, o1, o2, p0, p1, p2, c0, c1, c2, ne_eq, not_false_eq_true, if_true, Sem.run_bind, Sem.run_ite, Sem.run_pure, Result.andThen_ok]
theorem findAsking3 (hK : Key3 P K) (a b c : Int) : ∀ (l : List MapEntry) (i : Nat), (∀ x ∈ l, ∃ a b c, x.key = k3 a b c) →
    ((Instr.findAsking K (k3 a b c) l i).run P w = .ok none w ∧ ∀ x ∈ l, x.key ≠ k3 a b c) ∨ ∃ j e, (Instr.findAsking K (k3 a b c) l i).run P w = .ok (some (i + j, e.val)) w ∧ l[j]? = some e ∧ e.key = k3 a b c
  | [], _, _ => .inl ⟨by simp [Instr.findAsking], by simp⟩
  | e :: es, i, h => by
    obtain ⟨a', b', c', he⟩ := h e (.head _)
    have hr : (Op.equal K (k3 a b c) e.key).run P w = .ok (decide (a = a' ∧ b = b' ∧ c = c')) w := by rw [he]; exact run_equal3 hK 9998 a b c a' b' c'
    by_cases hq : a = a' ∧ b = b' ∧ c = c'
    · obtain ⟨rfl, rfl, rfl⟩ := hq
      refine .inr ⟨0, e, ?_, rfl, he⟩
      simp only [Instr.findAsking, Sem.run_bind, hr, Result.andThen_ok, and_self, decide_true, if_true, Sem.run_pure, Nat.add_zero]
    · have hs : (Instr.findAsking K (k3 a b c) (e :: es) i).run P w = (Instr.findAsking K (k3 a b c) es (i + 1)).run P w := by
        rw [decide_eq_false hq] at hr
        simp only [Instr.findAsking, Sem.run_bind, hr, Result.andThen_ok, Bool.false_eq_true, if_false]
      rw [hs]
      rcases findAsking3 hK a b c es (i + 1) (fun x hx => h x (List.mem_cons_of_mem _ hx)) with ⟨h1, h2⟩ | ⟨j, x, h1, h2, h3⟩
      · refine .inl ⟨h1, fun x hx => ?_⟩
        rcases List.mem_cons.1 hx with rfl | hx
        · rw [he]
          intro e2
          obtain ⟨e3, e4, e5⟩ := k3_inj e2
          exact hq ⟨e3.symm, e4.symm, e5.symm⟩
        · exact h2 x hx
      · exact .inr ⟨j + 1, x, by rw [h1, show i + 1 + j = i + (j + 1) from by omega], by simpa using h2, h3⟩
theorem run_findKey3 (hK : Key3 P K) (a b c : Int) (l : List MapEntry) : (Instr.findKey K (k3 a b c) l).run P w = (Instr.findAsking K (k3 a b c) l 0).run P w := by
  simp only [Instr.findKey, Sem.run_bind, run_underlying hK.under, Result.andThen_ok]
  cases l with
  | nil => simp [Instr.findNow, Instr.findAsking]
  | cons e es =>
    have : Instr.findNow (.struct (P.fieldsOf K)) (k3 a b c) (e :: es) 0 = none := by
      unfold Instr.findNow k3
      simp [Instr.sameNow]
    rw [this]
theorem run_lookup3 (hT : P.underlying T = some (.map K E)) (hK : Key3 P K) (hz : (P.info? E).bind (·.zero) = some (.bool false)) (ho : w.heap[g]? = some o) (hf : IsSet3 S o) (a b c : Int) :
    (Instr.lookup T (.map (some g)) (k3 a b c) false).run P w = .ok (.bool (S a b c)) w := by
  obtain ⟨es, clock, rfl, hks, hall⟩ := hf
  have hzr : (zeroValue E).run P w = .ok (.bool false) w := by
    cases hq : P.info? E with
    | none => simp [hq] at hz
    | some i =>
      cases hzi : i.zero with
      | none => simp [hq, hzi] at hz
      | some z' =>
        have : z' = .bool false := by simpa [hq, hzi] using hz
        simp [zeroValue, typeInfo, hq, hzi, this]
  have hck : (Instr.checkKey es.isEmpty 10000 K (k3 a b c)).run P w = .ok () w := run_checkKey3 hK _ 9998 a b c
  rcases findAsking3 (w := w) hK a b c es.toList 0 (fun x hx => by obtain ⟨a, b, c, e, _⟩ := hks x hx; exact ⟨a, b, c, e⟩) with ⟨h1, h2⟩ | ⟨j, e, h1, h2, h3⟩
  · have hS : S a b c = false := by
      cases hc : S a b c with
      | false => rfl
      | true =>
        obtain ⟨x, hx, he⟩ := hall a b c hc
        exact absurd he (h2 x hx)
    simp only [Instr.lookup, Sem.run_bind, run_underlying hT, MapKept.run_getObj_map ho, Result.andThen_ok, hck, run_findKey3 hK, h1, hzr, hS, Sem.run_pure, Bool.false_eq_true, if_false]
  · obtain ⟨a', b', c', e1, e2, e3⟩ := hks e (List.mem_of_getElem? h2)
    rw [h3] at e1
    obtain ⟨rfl, rfl, rfl⟩ := k3_inj e1
    simp only [Instr.lookup, Sem.run_bind, run_underlying hT, MapKept.run_getObj_map ho, Result.andThen_ok, hck, run_findKey3 hK, h1, Sem.run_pure, e2, e3, Bool.false_eq_true, if_false]
theorem sameBits3 (n : Nat) (a b c : Int) : Instr.sameBits (n + 2) (k3 a b c) (k3 a b c) = true := by
  simp [k3, Instr.sameBits]
theorem run_update3 (hT : P.underlying T = some (.map K E)) (hK : Key3 P K) (ho : w.heap[g]? = some o) (hf : IsSet3 S o) (a b c : Int) :
    ∃ o', (Instr.mapUpdate T (.map (some g)) (k3 a b c) (.bool true)).run P w = .ok () { w with heap := w.heap.setIfInBounds g o' } ∧ IsSet3 (fun x y z => S x y z || decide (x = a ∧ y = b ∧ z = c)) o' := by
  obtain ⟨es, clock, rfl, hks, hall⟩ := hf
  have hck : (Instr.checkKey false 10000 K (k3 a b c)).run P w = .ok () w := run_checkKey3 hK _ 9998 a b c
  rcases findAsking3 (w := w) hK a b c es.toList 0 (fun x hx => by obtain ⟨a, b, c, e, _⟩ := hks x hx; exact ⟨a, b, c, e⟩) with ⟨h1, h2⟩ | ⟨j, e, h1, h2, h3⟩
  · refine ⟨.map (es.push { key := k3 a b c, val := .bool true, born := clock }) (clock + 1), ?_, _, _, rfl, fun x hx => ?_, fun x y z hS => ?_⟩
    · simp only [Instr.mapUpdate, Sem.run_bind, run_underlying hT, MapKept.run_getObj_map ho, Result.andThen_ok, hck, run_findKey3 hK, h1, MapKept.run_setObj_map _ ho]
    · simp only [Array.toList_push, List.mem_append, List.mem_singleton] at hx
      rcases hx with hx | rfl
      · obtain ⟨a', b', c', e1, e2, e3⟩ := hks x hx
        exact ⟨a', b', c', e1, e2, by simp [e3]⟩
      · exact ⟨a, b, c, rfl, rfl, by simp⟩
    · simp only [Array.toList_push, List.mem_append, List.mem_singleton]
      simp only [Bool.or_eq_true, decide_eq_true_eq] at hS
      rcases hS with hS | ⟨rfl, rfl, rfl⟩
      · obtain ⟨x, hx, h⟩ := hall x y z hS
        exact ⟨x, .inl hx, h⟩
      · exact ⟨_, .inr rfl, rfl⟩
  · have hj : es[j]? = some e := by simpa using h2
    obtain ⟨a', b', c', e1, e2, e3⟩ := hks e (List.mem_of_getElem? h2)
    rw [h3] at e1
    obtain ⟨rfl, rfl, rfl⟩ := k3_inj e1
    have hmod : es.modify j (fun x => { x with key := k3 a b c, val := .bool true }) = es := by
      refine Array.ext (by simp) fun i h1 h2 => ?_
      rw [Array.getElem_modify]
      split
      · rename_i hji
        subst hji
        have : es[j] = e := by
          rw [Array.getElem?_eq_getElem h2] at hj
          exact Option.some.inj hj
        rw [this, ← h3, ← e2]
      · rfl
    have hst : (Instr.keyThatStays (k3 a b c) (k3 a b c)).run P w = .ok (k3 a b c) w := by
      simp only [Instr.keyThatStays]
      rw [show Instr.sameBits 10000 (k3 a b c) (k3 a b c) = true from sameBits3 9998 a b c]
      simp
    have e9 : ((es[j]?).map (fun x => x.key)).getD (k3 a b c) = k3 a b c := by rw [hj]; simp [h3]
    refine ⟨.map es clock, ?_, es, clock, rfl, fun x hx => ?_, fun x y z hS => ?_⟩
    · simp only [Instr.mapUpdate, Sem.run_bind, run_underlying hT, MapKept.run_getObj_map ho, Result.andThen_ok, hck, run_findKey3 hK, h1, Nat.zero_add, e9, hst]
      rw [hmod]
      simp only [MapKept.run_setObj_map _ ho]
    · obtain ⟨a', b', c', e1, e2, e3⟩ := hks x hx
      exact ⟨a', b', c', e1, e2, by simp [e3]⟩
    · simp only [Bool.or_eq_true, decide_eq_true_eq] at hS
      rcases hS with hS | ⟨rfl, rfl, rfl⟩
      · exact hall x y z hS
      · exact hall _ _ _ e3
end
section
variable {P : Program} {ops : Array Oper} {rest : List Oper} {o : Oper} {a : Act} {w w0 : World} {own : Nat → Prop} {L : List Item} {Q : Exit → Act → World → Prop}
theorem wpList_lookup3 (hgd : Region.wanted o (yielded ops a.tmps) = true) (T : TypeId) (x y : Operand) (ho : o.op = .lookup T x y false) (hM : Mem w0 own w L) (g : Nat) (S : Int → Int → Int → Bool) (hi : Item.obj g (IsSet3 S) ∈ L)
    (K E : TypeId) (hT : P.underlying T = some (.map K E)) (hK : Key3 P K) (hz : (P.info? E).bind (·.zero) = some (.bool false)) (hx : a.eval x = .map (some g)) (k1 k2 k3' : Int) (hy : a.eval y = k3 k1 k2 k3')
    (h : wpList P ops Q rest (a.put o.dst (.bool (S k1 k2 k3'))) w) : wpList P ops Q (o :: rest) a w :=
  BigFrame.wpList_want hgd fun K1 hK1 => by
    obtain ⟨ob, hob, hf⟩ : (Item.obj g (IsSet3 S)).at_ w := hM.has _ hi
    unfold Oper.wp execOp
    simp only [ho, hx, hy, Sem.run_bind, run_lookup3 hT hK hz hob hf k1 k2 k3', Result.andThen_ok, Sem.run_pure]
    exact hK1 _ _ h
theorem wpList_update3 (hgd : Region.wanted o (yielded ops a.tmps) = true) (T : TypeId) (x y u : Operand) (ho : o.op = .mapUpdate T x y u) (hM : Mem w0 own w L) (i g : Nat) (S : Int → Int → Int → Bool) (hi : L[i]? = some (.obj g (IsSet3 S)))
    (K E : TypeId) (hT : P.underlying T = some (.map K E)) (hK : Key3 P K) (hx : a.eval x = .map (some g)) (k1 k2 k3' : Int) (hy : a.eval y = k3 k1 k2 k3') (hv : a.eval u = .bool true)
    (h : ∀ w', Mem w0 own w' (L.set i (.obj g (IsSet3 (fun x y z => S x y z || decide (x = k1 ∧ y = k2 ∧ z = k3'))))) → wpList P ops Q rest (a.put o.dst undef) w') : wpList P ops Q (o :: rest) a w :=
  BigFrame.wpList_want hgd fun K1 hK1 => by
    obtain ⟨ob, hob, hf⟩ : (Item.obj g (IsSet3 S)).at_ w := hM.at_ i hi
    obtain ⟨o', hrun, hf'⟩ := run_update3 hT hK hob hf k1 k2 k3'
    unfold Oper.wp execOp
    simp only [ho, hx, hy, hv, Sem.run_bind, hrun, Result.andThen_ok, Sem.run_pure]
    exact hK1 _ _ (h _ (hM.setMap i g hi o' hf'))
theorem wpList_makeSet3 (hgd : Region.wanted o (yielded ops a.tmps) = true) (T : TypeId) (ho : o.op = .makeMap T none) (hM : Mem w0 own w L)
    (h : ∀ g w', Mem w0 own w' (.obj g (IsSet3 (fun _ _ _ => false)) :: L) → wpList P ops Q rest (a.put o.dst (.map (some g))) w') : wpList P ops Q (o :: rest) a w :=
  BigFrame.wpList_want hgd fun K1 hK1 => by
    have hr : (execOp a.eval o).run P w = .ok (.value (.map (some w.heap.size))) (w.alloc (.map #[] 0)) := by
      simp [execOp, ho, Instr.makeMap, newObj, Sem.run]
    unfold Oper.wp
    rw [hr]
    exact hK1 _ _ (h _ _ (hM.push (hM.grow.alloc _) (fun k hk => Below.heap_alloc w _ k hk) ⟨_, heap_alloc_new w _, IsSet3.empty⟩ (fun g e => by simp [Item.foot] at e; omega)))
end
end Go.Proofs.Ytechglhkcjgodaa
