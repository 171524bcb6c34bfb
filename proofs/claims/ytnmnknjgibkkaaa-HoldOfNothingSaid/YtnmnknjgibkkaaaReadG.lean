/- Arguments that came in: rows of anything; ints with their bounds, strings, bools. -/
import Derived.Test.YtnmnknjgibkkaaaReadX
import Derived.Test.YtnmnknjgibkkaaaTypes
import Derived.Deep.MidRow
namespace Go.Proofs.Ytnmnknjgibkkaaa
open Go.ChangeShapes Go.WideShapes Go.ChangeAt Go.RowKit
set_option linter.constructorNameAsVariable false
theorem add_none (b o x : Nat) : (⟨b, o, none⟩ : Addr).add x = ⟨b, o + x, none⟩ := by
  unfold Addr.add
  split <;> simp_all
theorem flatS_get {α : Type} {f : α → List Value} {s : Nat} : ∀ (l : List α) (_ : ∀ v ∈ l, (f v).length = s) (k : Nat) (hk : k < l.length) (j : Nat) (_ : j < s), (l.flatMap f)[k * s + j]? = (f l[k])[j]?
  | v :: l, h, 0, _, j, hj => by
    have h1 := h v (List.mem_cons_self ..)
    simp only [List.flatMap_cons]
    rw [List.getElem?_append_left (by omega)]
    simp
  | v :: l, h, k + 1, hk, j, hj => by
    have h1 := h v (List.mem_cons_self ..)
    have := flatS_get l (fun u hu => h u (List.mem_cons_of_mem _ hu)) k (by simpa using hk) j hj
    simp only [List.flatMap_cons]
    rw [List.getElem?_append_right (by rw [h1, Nat.add_mul]; omega), show (k + 1) * s + j - (f v).length = k * s + j from by rw [h1, Nat.add_mul]; omega, this]
    simp
theorem flatS_length {α : Type} {f : α → List Value} {s : Nat} : ∀ (l : List α) (_ : ∀ v ∈ l, (f v).length = s), (l.flatMap f).length = l.length * s
  | [], _ => by simp
  | v :: l, h => by
    have h1 := h v (List.mem_cons_self ..)
    have := flatS_length l (fun u hu => h u (List.mem_cons_of_mem _ hu))
    simp only [List.flatMap_cons, List.length_append, List.length_cons, this, h1, Nat.add_mul]
    omega
section
variable {P : Program} {w : World} {t e : TypeId} {B n : Nat} {cs : List Value}
theorem rdw_list {α : Type} (f : α → List Value) (Ok : α → Prop) (z : α) {s : Nat} (hs : 0 < s) (hlen : ∀ u, Ok u → (f u).length = s) (h : Rdw P w B n t cs) (ht : P.underlying t = some (.slice e)) (hc : P.cellsOf e = s) (hb : 1 ≤ P.bytesOf e)
    (hf : ∀ m xs, Rdw P w B m e xs → ∃ u, Ok u ∧ xs = f u) : ∃ A k c, ∃ lv : List α, cs = [.slice A k c] ∧ k ≤ c ∧ k ≤ B ∧ lv.length = k ∧ (∀ u ∈ lv, Ok u) ∧ Reads w w.heap.size s A k (lv.flatMap f) := by
  obtain ⟨A, k, c, rfl, h1, h2, h3, m, h4⟩ := rdw_slice h ht
  have hkB : k ≤ B := Nat.le_trans (Nat.le_mul_of_pos_right k hb) h3
  rw [hc] at h4
  have key : ∀ i, i < k → ∃ u, Ok u ∧ ∃ a, A = some a ∧ w.cells? 0 (a.add (i * s)) s = some (f u) := by
    intro i hi
    obtain ⟨a, xs, e1, hxs, hr⟩ := h4 i hi
    obtain ⟨u, hu, rfl⟩ := hf m xs hr
    exact ⟨u, hu, a, e1, hxs⟩
  have hok : ∀ u ∈ (List.range k).map (fun i => if hi : i < k then (key i hi).choose else z), Ok u := by
    intro u hu
    obtain ⟨i, hi, rfl⟩ := List.mem_map.1 hu
    have hi' : i < k := by simpa using hi
    rw [dif_pos hi']
    exact (key i hi').choose_spec.1
  refine ⟨A, k, c, (List.range k).map (fun i => if hi : i < k then (key i hi).choose else z), rfl, h1, hkB, by simp, hok, ?_⟩
  refine ⟨by rw [flatS_length _ (fun u hu => hlen u (hok u hu))]; simp, fun hk => ?_⟩
  obtain ⟨u0, _, a, rfl, hc0⟩ := key 0 hk
  obtain ⟨b, off, ha, hbl, _, _⟩ := cells_range hc0 hs
  have ha' : a = ⟨b, off, none⟩ := by simpa [Addr.add] using ha
  subst ha'
  refine ⟨_, rfl, hbl, fun j u hj => ?_⟩
  have hjl : j < k * s := by
    have := (List.getElem?_eq_some_iff.1 hj).1
    rw [flatS_length _ (fun u hu => hlen u (hok u hu))] at this
    simpa using this
  have hi : j / s < k := (Nat.div_lt_iff_lt_mul hs).2 hjl
  have hji : j / s * s + j % s = j := by rw [Nat.mul_comm]; exact Nat.div_add_mod j s
  have hg := flatS_get _ (fun u hu => hlen u (hok u hu)) (j / s) (by simpa using hi) (j % s) (Nat.mod_lt _ hs)
  rw [hji] at hg
  rw [hg] at hj
  simp only [List.getElem_map, List.getElem_range] at hj
  rw [dif_pos hi] at hj
  obtain ⟨a', e', hc'⟩ := (key (j / s) hi).choose_spec.2
  injection e' with e'
  subst e'
  obtain ⟨b2, off2, ha2, _, hr2, _⟩ := cells_range hc' hs
  rw [add_none] at ha2
  injection ha2 with e1 e2 _
  subst e1 e2
  have := hr2 (j % s) u hj
  rw [add_none]
  rwa [show off + j / s * s + j % s = off + j from by omega] at this
end
theorem flat_one {α : Type} (f : α → Value) (l : List α) : l.flatMap (fun z => [f z]) = l.map f := by
  induction l with
  | nil => rfl
  | cons a l ih => rw [List.flatMap_cons, ih]; rfl
section
variable {P : Program} {w : World} {t e : TypeId} {v : Value}
theorem RdV.row {α : Type} (f : α → List Value) (Ok : α → Prop) (z : α) {s : Nat} (hs : 0 < s) (hlen : ∀ u, Ok u → (f u).length = s) (h : RdV P w t v) (ht : P.underlying t = some (.slice e)) (hc : P.cellsOf e = s) (hb : 1 ≤ P.bytesOf e)
    (hf : ∀ m xs, Rdw P w 140737488351232 m e xs → ∃ u, Ok u ∧ xs = f u) : ∃ A k c, ∃ lv : List α, v = .slice A k c ∧ k ≤ c ∧ k ≤ 140737488351232 ∧ lv.length = k ∧ (∀ u ∈ lv, Ok u) ∧ Reads w w.heap.size s A k (lv.flatMap f) := by
  obtain ⟨⟨fuel, hx⟩, r, b, hk⟩ := h
  obtain ⟨A, n, c, rfl⟩ := okWide_slice ht hk
  obtain ⟨A', k, c', lv, e2, h1, h2, h3, h4, h5⟩ := rdw_list f Ok z hs hlen hx ht hc hb hf
  have e' : Value.slice A n c = .slice A' k c' := by simpa [Value.cells] using e2
  exact ⟨A', k, c', lv, e', h1, h2, h3, h4, h5⟩
end
theorem RdV.ints64 {w : World} {v : Value} (h : RdV Try.prog w 22 v) : ∃ A n c, ∃ l : List Int, v = .slice A n c ∧ n ≤ c ∧ n ≤ 140737488351232 ∧ l.length = n ∧ (∀ z ∈ l, -9223372036854775808 ≤ z ∧ z ≤ 9223372036854775807) ∧ Reads w w.heap.size 1 A n (l.map (Value.int .i64)) := by
  have := h.row (fun z => [Value.int .i64 z]) (fun z : Int => -9223372036854775808 ≤ z ∧ z ≤ 9223372036854775807) 0 (s := 1) (by decide) (fun _ _ => rfl) Try.underlying22 (by kernel_rfl) (by rw [show Try.prog.bytesOf 3 = 8 from by kernel_rfl]; decide) (fun m xs hx => by
    obtain ⟨z, e, h1, h2⟩ := rdw_i64 hx Try.underlying3
    exact ⟨z, ⟨h1, h2⟩, e⟩)
  simpa only [flat_one] using this
end Go.Proofs.Ytnmnknjgibkkaaa
