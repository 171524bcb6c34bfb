/- Arguments that came in: structs, and slices of structs. -/
import Derived.Test.YtnmnknjgibkkaaaRead
import Derived.Deep.MidRow
namespace Go.Proofs.Ytnmnknjgibkkaaa
open Go.ChangeShapes Go.WideShapes Go.ChangeAt Go.RowKit

section
variable {P : Program} {w : World} {t e : TypeId} {B n : Nat} {cs : List Value}
theorem rdw_struct {fs : Array Field} (h : Rdw P w B n t cs) (ht : P.underlying t = some (.struct fs)) : cs.length = P.cellsOf t ∧ ∃ m, ∀ (i : Nat) (f : Field), fs[i]? = some f → Rdw P w B m f.type ((cs.drop f.offset).take (P.cellsOf f.type)) := by
  cases n with
  | zero => exact h.elim
  | succ m => unfold Rdw at h; rw [ht] at h; exact ⟨h.1, m, h.2⟩
theorem rdw_i64 (h : Rdw P w B n t cs) (ht : P.underlying t = some (.int .i64)) : ∃ z : Int, cs = [.int .i64 z] ∧ -9223372036854775808 ≤ z ∧ z ≤ 9223372036854775807 := by
  obtain ⟨z, rfl, hw⟩ := rdw_int h ht
  simp [Lit.wf, IntKind.min, IntKind.max, IntKind.signed, IntKind.bits] at hw
  exact ⟨z, rfl, by omega, by omega⟩
theorem rdw_bool (h : Rdw P w B n t cs) (ht : P.underlying t = some .bool) : ∃ b, cs = [.bool b] := by
  cases n with
  | zero => exact h.elim
  | succ m => unfold Rdw at h; rw [ht] at h; exact h
theorem rdw_slice (h : Rdw P w B n t cs) (ht : P.underlying t = some (.slice e)) : ∃ A k c, cs = [.slice A k c] ∧ k ≤ c ∧ c ≤ maxLen ∧ k * P.bytesOf e ≤ B ∧
    ∃ m, ∀ i, i < k → ∃ a xs, A = some a ∧ w.cells? 0 (a.add (i * P.cellsOf e)) (P.cellsOf e) = some xs ∧ Rdw P w B m e xs := by
  cases n with
  | zero => exact h.elim
  | succ m =>
    unfold Rdw at h
    rw [ht] at h
    rcases h with h | ⟨a, len, cap, h, h1, h2, h3, h4⟩
    · exact ⟨none, 0, 0, h, Nat.le_refl _, Nat.zero_le _, by omega, m, fun i hi => by omega⟩
    · exact ⟨some a, len, cap, h, h1, h2, h3, m, fun i hi => by obtain ⟨xs, h5, h6⟩ := h4 i hi; exact ⟨a, xs, rfl, h5, h6⟩⟩
theorem rdw_bytes (h : Rdw P w B n t cs) (ht : P.underlying t = some (.slice e)) (he : P.underlying e = some (.int .u8)) (hc : P.cellsOf e = 1) (hb : P.bytesOf e = 1) :
    ∃ A k c l, cs = [.slice A k c] ∧ k ≤ c ∧ c ≤ maxLen ∧ k ≤ B ∧ Bytes w w.heap.size A k l := by
  obtain ⟨A, k, c, rfl, h1, h2, h3, m, h4⟩ := rdw_slice h ht
  rw [hb] at h3
  have key : ∀ i, i < k → ∃ a, A = some a ∧ ∃ x : BitVec 8, w.cell? (a.add i) = some (V8 x) := by
    intro i hi
    obtain ⟨a, xs, e1, hxs, hr⟩ := h4 i hi
    obtain ⟨x, rfl⟩ := rdw_u8 hr he
    rw [hc] at hxs
    exact ⟨a, e1, x, by simpa using cell_of_cells?_one hxs⟩
  rcases A with _ | a
  · obtain rfl : k = 0 := by
      rcases Nat.eq_zero_or_pos k with h0 | h0
      · exact h0
      · obtain ⟨a, e1, _⟩ := key 0 h0; cases e1
    exact ⟨none, 0, c, [], rfl, h1, h2, by omega, Reads.none_⟩
  · have key2 : ∀ i, i < k → ∃ x : BitVec 8, w.cell? (a.add i) = some (V8 x) := fun i hi => by
      obtain ⟨a', e1, h⟩ := key i hi
      injection e1 with e1
      rw [e1]
      exact h
    refine ⟨some a, k, c, (List.range k).map (fun i => if hi : i < k then (key2 i hi).choose else 0), rfl, h1, h2, by omega, ?_⟩
    refine ⟨by simp, fun hn => ⟨a, rfl, ?_, fun j u hu => ?_⟩⟩
    · obtain ⟨x0, hx0⟩ := key2 0 hn
      have := block_lt_of_cell hx0
      rwa [block_of_add] at this
    · obtain ⟨hj, rfl⟩ := List.getElem?_eq_some_iff.1 hu
      simp only [List.length_map, List.length_range] at hj
      simp only [List.getElem_map, List.getElem_range, hj, dif_pos]
      exact (key2 j hj).choose_spec
/-- An argument as its cells are read. -/
theorem RdV.rdw {v : Value} (h : RdV P w t v) : ∃ n, Rdw P w 140737488351232 n t v.cells.toList := h.1
theorem mapM_get {f : Nat → Option Value} : ∀ {l : List Nat} {xs : List Value}, l.mapM f = some xs → xs.length = l.length ∧ ∀ (i : Nat) (v : Value), xs[i]? = some v → ∃ j : Nat, l[i]? = some j ∧ f j = some v := by
  intro l
  induction l with
  | nil =>
    intro xs h
    simp at h
    subst h
    exact ⟨rfl, fun i v h => by simp at h⟩
  | cons x l ih =>
    intro xs h
    rw [List.mapM_cons] at h
    cases hx : f x with
    | none => simp [hx] at h
    | some a =>
      cases hl : l.mapM f with
      | none => simp [hx, hl] at h
      | some as =>
        have : xs = a :: as := by simpa [hx, hl] using h.symm
        subst this
        obtain ⟨h1, h2⟩ := ih hl
        refine ⟨by simp [h1], fun i v hv => ?_⟩
        cases i with
        | zero =>
          simp at hv
          subst hv
          exact ⟨x, rfl, hx⟩
        | succ i =>
          obtain ⟨j, h3, h4⟩ := h2 i v (by simpa using hv)
          exact ⟨j, by simpa using h3, h4⟩
theorem cells_range {a : Addr} {k : Nat} {xs : List Value} (h : w.cells? 0 a k = some xs) (hk : 0 < k) : ∃ b off, a = ⟨b, off, none⟩ ∧ b < w.heap.size ∧ w.rangeAt b off xs ∧ xs.length = k := by
  unfold World.cells? at h
  rw [if_pos (Nat.zero_le _)] at h
  obtain ⟨h1, h2⟩ := mapM_get h
  have hl : xs.length = k := by simpa using h1
  have key : ∀ i v, xs[i]? = some v → w.cell? (a.add i) = some v := fun i v hv => by
    obtain ⟨j, h3, h4⟩ := h2 i v hv
    have hi : i < k := by rw [← hl]; exact (List.getElem?_eq_some_iff.1 hv).1
    have : j = i := by simpa [hi] using h3.symm
    rwa [this] at h4
  have hr : Reads w w.heap.size 1 (some a) k xs := ⟨by omega, fun _ => ⟨a, rfl, by
    have h0 := key 0 xs[0] (by simp)
    have := block_lt_of_cell h0
    rwa [block_of_add] at this, key⟩⟩
  obtain ⟨b, off, e1, hb, hc⟩ := hr.form hk (by decide)
  injection e1 with e1
  exact ⟨b, off, e1, hb, fun j v hv => hc j v hv, hl⟩
end
end Go.Proofs.Ytnmnknjgibkkaaa
