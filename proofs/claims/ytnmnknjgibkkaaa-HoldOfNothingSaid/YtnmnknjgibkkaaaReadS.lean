/- Arguments that came in: strings, bools. -/
import Derived.Test.YtnmnknjgibkkaaaReadG
namespace Go.Proofs.Ytnmnknjgibkkaaa
open Go.ChangeShapes Go.WideShapes Go.ChangeAt Go.RowKit
set_option linter.constructorNameAsVariable false
theorem rdw_str {P : Program} {w : World} {B n : Nat} {t : TypeId} {cs : List Value} (h : Rdw P w B n t cs) (ht : P.underlying t = some .string) : ∃ s, cs = [.string s] := by
  cases n with
  | zero => exact h.elim
  | succ m =>
    unfold Rdw at h
    rw [ht] at h
    obtain ⟨s, e, _⟩ := h
    exact ⟨s, e⟩
theorem RdV.strs {w : World} {v : Value} (h : RdV Try.prog w 23 v) : ∃ A n c, ∃ l : List ByteArray, v = .slice A n c ∧ n ≤ c ∧ n ≤ 140737488351232 ∧ l.length = n ∧ Reads w w.heap.size 1 A n (l.map Value.string) := by
  obtain ⟨A, n, c, l, h1, h2, h3, h4, _, h5⟩ := h.row (fun z => [Value.string z]) (fun _ : ByteArray => True) ⟨#[]⟩ (s := 1) (by decide) (fun _ _ => rfl) Try.underlying23 (by kernel_rfl) (by rw [show Try.prog.bytesOf 9 = 16 from by kernel_rfl]; decide) (fun m xs hx => by
    obtain ⟨z, e⟩ := rdw_str hx Try.underlying9
    exact ⟨z, trivial, e⟩)
  exact ⟨A, n, c, l, h1, h2, h3, h4, by simpa only [flat_one] using h5⟩
theorem RdV.bools {w : World} {v : Value} (h : RdV Try.prog w 33 v) : ∃ A n c, ∃ l : List Bool, v = .slice A n c ∧ n ≤ c ∧ n ≤ 140737488351232 ∧ l.length = n ∧ Reads w w.heap.size 1 A n (l.map Value.bool) := by
  obtain ⟨A, n, c, l, h1, h2, h3, h4, _, h5⟩ := h.row (fun z => [Value.bool z]) (fun _ : Bool => True) false (s := 1) (by decide) (fun _ _ => rfl) Try.underlying33 (by kernel_rfl) (by rw [show Try.prog.bytesOf 4 = 1 from by kernel_rfl]; decide) (fun m xs hx => by
    obtain ⟨z, e⟩ := rdw_bool hx Try.underlying4
    exact ⟨z, trivial, e⟩)
  exact ⟨A, n, c, l, h1, h2, h3, h4, by simpa only [flat_one] using h5⟩
end Go.Proofs.Ytnmnknjgibkkaaa
