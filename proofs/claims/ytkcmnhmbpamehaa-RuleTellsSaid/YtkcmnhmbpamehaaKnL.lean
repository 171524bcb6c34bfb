/- Cast votes are good, and count. -/
import Derived.Test.YtkcmnhmbpamehaaMeet
namespace Go.Proofs.Ytkcmnhmbpamehaa
open Go.RowKit Go.MapKept
set_option linter.unusedSimpArgs false
set_option linter.unusedVariables false
theorem row_cell {w0 : World} {own : Nat → Prop} {L : List Item} {g j n c m : Nat} {e : TypeId} {xs : List Value} {v : Value} [h : HasRow L (.slice (some ⟨g, 0, none⟩) n c) e 1 m xs] [h2 : AtL xs j v] : Cell w0 own L ⟨g, j, none⟩ v := ⟨fun w hM => by
  have hrow : w.ownsRow 0 e 1 (.slice (some ⟨g, 0, none⟩) n c) m xs := hM.has _ h.out
  have hl := hrow.1
  have hj : j < xs.length := (List.getElem?_eq_some_iff.1 h2.out).1
  rcases hrow.2 with ⟨e1, _⟩ | ⟨g', cap, cur, e1, _, hg, _, _, h3, h4⟩
  · cases e1
  · injection e1 with e2 e3 e4
    injection e2 with e2
    injection e2 with e2
    subst e2
    have hblk : Blk w g e cur := hg
    rw [hblk.cell]
    have h5 := h2.out
    rw [← h4, List.getElem?_take, if_pos (by omega)] at h5
    simpa using h5⟩
def seed1 (b : BitVec 8) : List (BitVec 8) := b :: List.replicate 31 0
theorem cnt4 : cnt 4 = 4 := by decide
theorem checkOf_own (ks : List (List (BitVec 8))) (i : Int) (l : List (BitVec 8)) (h : 0 ≤ i ∧ i < ks.length) : checkOf ks i l (sealOf ks i l) = true := by
  unfold checkOf
  simp [h]
theorem good_cast (ks : List (List (BitVec 8))) (k s v : Int) (sum : List (BitVec 8)) (fr : Int) (h : 0 ≤ fr ∧ fr < ks.length) : goodOf ks (castOf ks k s v sum fr) = true := checkOf_own ks fr _ h
theorem votes_cast (ks : List (List (BitVec 8))) (k s v : Int) (sum : List (BitVec 8)) (fr : Int) (h : 0 ≤ fr ∧ fr < ks.length) : votes ks k s v sum (castOf ks k s v sum fr) = true := by
  unfold votes
  rw [good_cast ks k s v sum fr h]
  simp [castOf]
theorem votes_not (ks : List (List (BitVec 8))) (k s v : Int) (sum : List (BitVec 8)) (u : Vt) (h : u.k ≠ k ∨ u.s ≠ s ∨ u.v ≠ v ∨ u.sum ≠ sum) : votes ks k s v sum u = false := by
  unfold votes
  rcases h with h | h | h | h <;> simp [h]
theorem quorum4 : quorumOf 4 = 3 := by unfold quorumOf faultsOf wrap64; omega
def kv (ks : List (List (BitVec 8))) : Vt := castOf ks 2 1 2 (seed1 3#8) 0
theorem kv_ok (ks : List (List (BitVec 8))) : (kv ks).Ok := castOf_ok _ _ _ _ _ _ rfl
theorem kv_who2 (ks : List (List (BitVec 8))) (h : ks.length = 4) : whoOf ks [kv ks, kv ks] 2 1 2 (seed1 3#8) = [0] := by
  have e : votes ks 2 1 2 (seed1 3#8) (kv ks) = true := votes_cast ks 2 1 2 (seed1 3#8) 0 (by omega)
  have e2 : onOf ks [kv ks, kv ks] 2 1 2 (seed1 3#8) = [0, 0] := by
    unfold onOf
    simp only [List.take_succ_cons, List.take_nil]
    rw [List.filter_cons_of_pos e, List.filter_cons_of_pos e]
    rfl
  unfold whoOf
  rw [e2, show ddx [0, 0] = [0] from rfl, List.mergeSort_singleton]
theorem kv_who3 (ks : List (List (BitVec 8))) (h : ks.length = 4) : meetsOf ks [kv ks, kv ks, kv ks] 2 1 2 (seed1 3#8) = false := by
  have e : votes ks 2 1 2 (seed1 3#8) (kv ks) = true := votes_cast ks 2 1 2 (seed1 3#8) 0 (by omega)
  have e2 : onOf ks [kv ks, kv ks, kv ks] 2 1 2 (seed1 3#8) = [0, 0, 0] := by
    unfold onOf
    simp only [List.take_succ_cons, List.take_nil]
    rw [List.filter_cons_of_pos e, List.filter_cons_of_pos e, List.filter_cons_of_pos e]
    rfl
  unfold meetsOf whoOf
  rw [e2, show ddx [0, 0, 0] = [0] from rfl, List.mergeSort_singleton, h, show ((4 : Nat) : Int) = 4 from rfl, quorum4]
  rfl
end Go.Proofs.Ytkcmnhmbpamehaa
