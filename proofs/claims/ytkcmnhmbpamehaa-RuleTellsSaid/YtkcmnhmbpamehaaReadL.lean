/- Arguments that came in: locks. -/
import Derived.Test.YtkcmnhmbpamehaaReadW
namespace Go.Proofs.Ytkcmnhmbpamehaa
open Go.ChangeShapes Go.WideShapes Go.ChangeAt Go.RowKit
set_option linter.constructorNameAsVariable false
section
variable {w : World} {v : Value}
set_option maxRecDepth 100000 in
theorem RdV.lock (h : RdV Try.prog w 40 v) : ∃ (z : Int) (A : Option Addr) (n c : Nat) (x : List (BitVec 8)) (B : Option Addr) (k d : Nat) (lv : List Vt), v = .agg #[.int .i64 z, .slice A n c, .slice B k d] ∧ n ≤ c ∧ Bytes w w.heap.size A n x ∧ k ≤ d ∧ lv.length = k ∧ (∀ u ∈ lv, u.Ok) ∧ Reads w w.heap.size 68 B k (vCells lv) := by
  obtain ⟨⟨fuel, hf⟩, r, b, hk⟩ := h
  simp only [Value.okWide, Try.underlying40] at hk
  obtain ⟨cs, rfl, _⟩ := hk
  obtain ⟨hl, m, hf⟩ := rdw_struct hf Try.underlying40
  have c1 : Try.prog.cellsOf 3 = 1 := by kernel_rfl
  have c2 : Try.prog.cellsOf 22 = 1 := by kernel_rfl
  have c3 : Try.prog.cellsOf 29 = 1 := by kernel_rfl
  have c4 : Try.prog.cellsOf 40 = 3 := by kernel_rfl
  rw [c4] at hl
  obtain ⟨z, e0, _⟩ := rdw_int (hf 0 _ rfl) Try.underlying3
  obtain ⟨A, n, c, x, e1, q1, _, _, q2⟩ := rdw_bytes (hf 1 _ rfl) Try.underlying22 Try.underlying5 (by kernel_rfl) (by kernel_rfl)
  obtain ⟨B, k, d, lv, e2, r1, r2, r3, r4, r5⟩ := rdvotes (hf 2 _ rfl)
  change (cs.toList.drop 0).take (Try.prog.cellsOf 3) = _ at e0
  change (cs.toList.drop 1).take (Try.prog.cellsOf 22) = _ at e1
  change (cs.toList.drop 2).take (Try.prog.cellsOf 29) = _ at e2
  rw [c1] at e0
  rw [c2] at e1
  rw [c3] at e2
  refine ⟨z, A, n, c, x, B, k, d, lv, ?_, q1, q2, r1, r3, r4, r5⟩
  have hl3 : cs.toList.length = 3 := hl
  have e : cs.toList = [.int .i64 z, .slice A n c, .slice B k d] := by
    match hcs : cs.toList, hl3 with
    | [a, b, c'], _ =>
      rw [hcs] at e0 e1 e2
      simp at e0 e1 e2
      rw [e0, e1, e2]
  rw [← e]
end
end Go.Proofs.Ytkcmnhmbpamehaa
