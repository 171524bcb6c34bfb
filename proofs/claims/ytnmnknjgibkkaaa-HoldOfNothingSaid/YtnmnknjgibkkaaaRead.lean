/- What an argument that came in is, read by its type. -/
import Derived.Test.YtnmnknjgibkkaaaMem
import Derived.ProofKit
import Derived.SizedLaws
import Derived.OpenShut
import Derived.ChangeOld
namespace Go.Proofs.Ytnmnknjgibkkaaa
open Go.ChangeShapes Go.WideShapes Go.ChangeAt Go.RowKit

def Rdw (P : Program) (w : World) (B : Nat) : Nat → TypeId → List Value → Prop
  | 0, _, _ => False
  | n + 1, t, cs => match P.underlying t with
    | some .bool => ∃ b, cs = [.bool b]
    | some (.int k) => ∃ z, cs = [.int k z] ∧ (Lit.int k z).wf = true
    | some .string => ∃ s, cs = [.string s] ∧ s.size ≤ B
    | some (.slice e) => cs = [.slice none 0 0] ∨ ∃ a len cap, cs = [.slice (some a) len cap] ∧ len ≤ cap ∧ cap ≤ maxLen ∧ len * P.bytesOf e ≤ B ∧
        ∀ i, i < len → ∃ xs, w.cells? 0 (a.add (i * P.cellsOf e)) (P.cellsOf e) = some xs ∧ Rdw P w B n e xs
    | some (.struct fs) => cs.length = P.cellsOf t ∧ ∀ (i : Nat) (f : Field), fs[i]? = some f → Rdw P w B n f.type ((cs.drop f.offset).take (P.cellsOf f.type))
    | some (.array m e) => cs.length = P.cellsOf t ∧ ∀ i, i < m → Rdw P w B n e ((cs.drop (i * P.cellsOf e)).take (P.cellsOf e))
    | _ => True

section
variable {H : Type} {enc : TypeId × Value → H} {P : Program} {w : World} {spare : Nat → Bool} {held : Bool} {B : Nat}
theorem weights_mem_all {e : TypeId} {d : DataW H} : ∀ {l : List (DataW H)}, d ∈ l → ∀ n ∈ d.weights P e, n ∈ DataW.weightsAll P e l
  | [], h, _, _ => by cases h
  | x :: l, h, n, hn => by
    simp only [DataW.weightsAll, List.mem_append]
    rcases List.mem_cons.1 h with rfl | h
    · exact .inl hn
    · exact .inr (weights_mem_all h n hn)
theorem rdw_of_trod : ∀ (fuel : Nat) (t : TypeId) (cs : List Value) (x : DataW H × List MemPlace), DataW.trod enc P w 0 spare held fuel t cs = some x → (∀ n ∈ x.1.weights P t, n ≤ B) → Rdw P w B fuel t cs := by
  intro fuel
  induction fuel with
  | zero => intro t cs x h; simp [DataW.trod] at h
  | succ n ih =>
    intro t cs x h hw
    unfold Rdw
    split
    · rename_i ht
      obtain ⟨b, hb, _⟩ := DataW.trod_bool ht h
      exact ⟨b, hb⟩
    · rename_i k ht
      obtain ⟨z, hz, _, hwf⟩ := DataW.trod_int ht h
      exact ⟨z, hz, hwf⟩
    · rename_i ht
      obtain ⟨s, hs, hx, _⟩ := DataW.trod_string ht h
      subst hx
      refine ⟨s, hs, ?_⟩
      have := hw s.data.toList.length (by simp [DataW.weights])
      exact this
    · rename_i e ht
      rcases DataW.trod_slice ht h with ⟨h0, _⟩ | ⟨a, len, cap, elems, rest, m, hm, hcs, hx, _, h1, h2, h3, h4, _⟩
      · exact .inl h0
      · obtain rfl : n = m := by omega
        subst hx
        have hw2 : ∀ q ∈ (elems.length + rest.length) * P.bytesOf e :: (DataW.weightsAll P e (elems.map (·.1)) ++ DataW.weightsAll P e (rest.map (·.1))), q ≤ B := by
          intro q hq
          refine hw q ?_
          simp only [DataW.weights, ht, List.length_map]
          exact hq
        refine .inr ⟨a, len, cap, hcs, h1, h2, ?_, fun i hi => ?_⟩
        · have := hw2 _ (List.mem_cons_self ..)
          rw [Nat.add_mul, h3] at this
          omega
        · have h5 := h4 i hi
          have hi' : i < elems.length := by omega
          rw [List.getElem?_eq_getElem hi', Option.bind_eq_some_iff] at h5
          obtain ⟨xs, hxs, h6⟩ := h5
          refine ⟨xs, hxs, ih e xs _ h6 (fun q hq => hw2 q (List.mem_cons_of_mem _ (List.mem_append_left _ (weights_mem_all (List.mem_map.2 ⟨elems[i], List.getElem_mem hi', rfl⟩) q hq))))⟩
    · rename_i fs ht
      obtain ⟨xs, m, hm, hx, hl, hxl, hf⟩ := DataW.trod_struct ht h
      obtain rfl : n = m := by omega
      subst hx
      refine ⟨hl, fun i f hfi => ?_⟩
      have hi : i < xs.length := by rw [hxl]; exact (Array.getElem?_eq_some_iff.1 hfi).1
      have h5 := hf i f hfi
      rw [List.getElem?_eq_getElem hi] at h5
      refine ih f.type _ _ h5 (fun q hq => hw q ?_)
      simp only [DataW.weights, ht]
      refine DataW.weights_mem_each (j := i) (t := f.type) (d := xs[i].1) (by simp [hfi]) (by simp [hi]) q hq
    · rename_i k e ht
      obtain ⟨xs, m, hm, hx, hl, hxl, hf⟩ := DataW.trod_array ht h
      obtain rfl : n = m := by omega
      subst hx
      refine ⟨hl, fun i hi => ?_⟩
      have hi' : i < xs.length := by omega
      have h5 := hf i hi
      rw [List.getElem?_eq_getElem hi'] at h5
      refine ih e _ _ h5 (fun q hq => hw q ?_)
      simp only [DataW.weights, ht]
      exact weights_mem_all (List.mem_map.2 ⟨xs[i], List.getElem_mem hi', rfl⟩) q hq
    · trivial
end

/-- An argument that came in: it reads by its type, and has its type's form. -/
def RdV (P : Program) (w : World) (t : TypeId) (v : Value) : Prop := (∃ fuel, Rdw P w 140737488351232 fuel t v.cells.toList) ∧ ∃ r b, Value.okWide P w r b t v
theorem rdv_mk {H : Type} {enc : TypeId × Value → H} {P : Program} {w : World} {r : Reach} {b : Nat} {t : TypeId} {v : Value} {d : DataW H} {p : List MemPlace} {ts : List TypeId} {ds : List (DataW H)}
    (hk : Value.okWide P w r b t v) (h : DataW.Trod enc P w 0 (fun _ => true) true t v d p) (hs : (DataW.weightsEach P ts ds).all (· ≤ reachBytes) = true) (j : Nat) (hj : ts[j]? = some t) (hd : ds[j]? = some d) : RdV P w t v := by
  obtain ⟨fuel, hf⟩ := h
  refine ⟨⟨fuel, rdw_of_trod fuel t _ _ hf (fun n hn => ?_)⟩, r, b, hk⟩
  have := List.all_eq_true.1 hs n (DataW.weights_mem_each hj hd n hn)
  have h2 := of_decide_eq_true this
  simp only [reachBytes] at h2
  omega

section
variable {P : Program} {w : World} {t e : TypeId} {v : Value} {B : Nat}
theorem RdV.int {k : IntKind} (h : RdV P w t v) (ht : P.underlying t = some (.int k)) : ∃ z, v = .int k z ∧ (Lit.int k z).wf = true := by
  obtain ⟨⟨fuel, hf⟩, r, b, hk⟩ := h
  obtain ⟨n, rfl⟩ := okWide_int ht hk
  cases fuel with
  | zero => exact hf.elim
  | succ m =>
    unfold Rdw at hf
    rw [ht] at hf
    obtain ⟨z, hz, hw⟩ := hf
    simp [Value.cells] at hz
    subst hz
    exact ⟨n, rfl, hw⟩
theorem RdV.i64 (h : RdV P w t v) (ht : P.underlying t = some (.int .i64)) : ∃ z : Int, v = .int .i64 z ∧ -9223372036854775808 ≤ z ∧ z ≤ 9223372036854775807 := by
  obtain ⟨z, rfl, hw⟩ := h.int ht
  simp [Lit.wf, IntKind.min, IntKind.max, IntKind.signed, IntKind.bits] at hw
  exact ⟨z, rfl, by omega, by omega⟩
theorem RdV.bool (h : RdV P w t v) (ht : P.underlying t = some .bool) : ∃ b, v = .bool b := by
  obtain ⟨⟨fuel, hf⟩, r, b, hk⟩ := h
  exact okWide_bool ht hk
theorem okWide_string {r : Reach} {b : Nat} (ht : P.underlying t = some .string) (h : Value.okWide P w r b t v) : ∃ s, v = .string s := by
  simp only [Value.okWide, ht, Cell.okWide] at h
  cases v <;> simp_all [Cell.ok]
theorem RdV.string (h : RdV P w t v) (ht : P.underlying t = some .string) : ∃ s, v = .string s ∧ s.size ≤ 140737488351232 := by
  obtain ⟨⟨fuel, hf⟩, r, b, hk⟩ := h
  obtain ⟨s, rfl⟩ := okWide_string ht hk
  cases fuel with
  | zero => exact hf.elim
  | succ m =>
    unfold Rdw at hf
    rw [ht] at hf
    obtain ⟨z, hz, hw⟩ := hf
    simp [Value.cells] at hz
    subst hz
    exact ⟨s, rfl, hw⟩
theorem RdV.slice (h : RdV P w t v) (ht : P.underlying t = some (.slice e)) : ∃ A n c, v = .slice A n c ∧ n ≤ c ∧ c ≤ maxLen ∧ n * P.bytesOf e ≤ 140737488351232 ∧ (A = none → n = 0 ∧ c = 0) ∧
    ∃ m, ∀ a, A = some a → ∀ i, i < n → ∃ xs, w.cells? 0 (a.add (i * P.cellsOf e)) (P.cellsOf e) = some xs ∧ Rdw P w 140737488351232 m e xs := by
  obtain ⟨⟨fuel, hf⟩, r, b, hk⟩ := h
  obtain ⟨A, n, c, rfl⟩ := okWide_slice ht hk
  cases fuel with
  | zero => exact hf.elim
  | succ m =>
    unfold Rdw at hf
    rw [ht] at hf
    rcases hf with hf | ⟨a, len, cap, hf, h1, h2, h3, h4⟩
    · simp [Value.cells] at hf
      obtain ⟨rfl, rfl, rfl⟩ := hf
      exact ⟨none, 0, 0, rfl, by omega, by unfold maxLen; omega, by omega, fun _ => ⟨rfl, rfl⟩, m, fun a e => by cases e⟩
    · simp [Value.cells] at hf
      obtain ⟨rfl, rfl, rfl⟩ := hf
      exact ⟨some a, n, c, rfl, h1, h2, h3, (fun e => by cases e), m, fun a' e i hi => by injection e with e; subst e; exact h4 i hi⟩
theorem rdw_int {n : Nat} {k : IntKind} {cs : List Value} (h : Rdw P w B n t cs) (ht : P.underlying t = some (.int k)) : ∃ z, cs = [.int k z] ∧ (Lit.int k z).wf = true := by
  cases n with
  | zero => exact h.elim
  | succ m => unfold Rdw at h; rw [ht] at h; exact h
theorem V8_int (z : Int) (h : (Lit.int .u8 z).wf = true) : Value.int .u8 z = V8 (BitVec.ofNat 8 z.toNat) := by
  have h2 : 0 ≤ z ∧ z ≤ 255 := by simpa [Lit.wf, IntKind.min, IntKind.max, IntKind.signed, IntKind.bits] using h
  rw [← V8_mk _ (by omega)]
  congr 1
  omega
theorem rdw_u8 {n : Nat} {cs : List Value} (h : Rdw P w B n t cs) (ht : P.underlying t = some (.int .u8)) : ∃ x, cs = [V8 x] := by
  obtain ⟨z, rfl, hz⟩ := rdw_int h ht
  exact ⟨_, by rw [V8_int z hz]⟩
/-- A slice of bytes. -/
theorem RdV.bytes (h : RdV P w t v) (ht : P.underlying t = some (.slice e)) (he : P.underlying e = some (.int .u8)) (hc : P.cellsOf e = 1) (hb : P.bytesOf e = 1) :
    ∃ A n c l, v = .slice A n c ∧ n ≤ c ∧ c ≤ maxLen ∧ n ≤ 140737488351232 ∧ Bytes w w.heap.size A n l := by
  obtain ⟨A, n, c, rfl, h1, h2, h3, h4, m, h5⟩ := h.slice ht
  rw [hb] at h3
  rcases A with _ | a
  · obtain ⟨rfl, rfl⟩ := h4 rfl
    exact ⟨none, 0, 0, [], rfl, h1, h2, by omega, Reads.none_⟩
  · have key : ∀ i, i < n → ∃ x : BitVec 8, w.cell? (a.add i) = some (V8 x) := by
      intro i hi
      obtain ⟨xs, hxs, hr⟩ := h5 a rfl i hi
      obtain ⟨x, rfl⟩ := rdw_u8 hr he
      rw [hc] at hxs
      exact ⟨x, by simpa using cell_of_cells?_one hxs⟩
    refine ⟨some a, n, c, (List.range n).map (fun i => if hi : i < n then (key i hi).choose else 0), rfl, h1, h2, by omega, ?_⟩
    refine ⟨by simp, fun hn => ⟨a, rfl, ?_, fun j u hu => ?_⟩⟩
    · obtain ⟨x, hx⟩ := key 0 (by omega)
      have := block_lt_of_cell hx
      rwa [block_of_add] at this
    · obtain ⟨hj, rfl⟩ := List.getElem?_eq_some_iff.1 hu
      simp only [List.length_map, List.length_range] at hj
      simp only [List.getElem_map, List.getElem_range, hj, dif_pos]
      exact (key j hj).choose_spec
/-- An array of bytes. -/
theorem rdw_hash {n k : Nat} {cs : List Value} (h : Rdw P w B n t cs) (ht : P.underlying t = some (.array k e)) (he : P.underlying e = some (.int .u8)) (hc : P.cellsOf e = 1) (hs : P.cellsOf t = k) : ∃ l : List (BitVec 8), cs = l.map V8 ∧ l.length = k := by
  cases n with
  | zero => exact h.elim
  | succ m =>
    unfold Rdw at h
    rw [ht] at h
    obtain ⟨hl, h⟩ := h
    rw [hs] at hl
    have key : ∀ i, i < k → ∃ x : BitVec 8, cs[i]? = some (V8 x) := by
      intro i hi
      obtain ⟨x, hx⟩ := rdw_u8 (h i hi) he
      rw [hc, Nat.mul_one] at hx
      refine ⟨x, ?_⟩
      have := congrArg (·[0]?) hx
      simpa [List.getElem?_take, List.getElem?_drop] using this
    refine ⟨(List.range k).map (fun i => if hi : i < k then (key i hi).choose else 0), ?_, by simp⟩
    refine List.ext_getElem? fun i => ?_
    by_cases hi : i < k
    · rw [(key i hi).choose_spec]
      simp [hi]
    · rw [List.getElem?_eq_none (by omega), List.getElem?_eq_none (by simp; omega)]
theorem RdV.hash {k : Nat} (h : RdV P w t v) (ht : P.underlying t = some (.array k e)) (he : P.underlying e = some (.int .u8)) (hc : P.cellsOf e = 1) (hs : P.cellsOf t = k) : ∃ l : List (BitVec 8), v = .agg (l.map V8).toArray ∧ l.length = k := by
  obtain ⟨⟨fuel, hf⟩, r, b, hk⟩ := h
  simp only [Value.okWide, ht] at hk
  obtain ⟨cs, rfl, _⟩ := hk
  obtain ⟨l, hl, hk⟩ := rdw_hash hf ht he hc hs
  refine ⟨l, ?_, hk⟩
  have : cs.toList = l.map V8 := hl
  rw [← this]
end
end Go.Proofs.Ytnmnknjgibkkaaa
