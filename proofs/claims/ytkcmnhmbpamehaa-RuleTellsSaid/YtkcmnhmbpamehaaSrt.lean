/- slices.Sort on ints at hand. -/
import Derived.Shelf.Slices.In.SortNone
import Derived.Test.YtkcmnhmbpamehaaSrtLay
import Derived.Test.YtkcmnhmbpamehaaOct
namespace Go.Proofs.Ytkcmnhmbpamehaa
open Go.RowKit Go.MapKept Go.Sort Go.Shelf
set_option linter.unusedSimpArgs false
set_option linter.unusedVariables false
def leI (x y : Int) : Bool := decide (x ≤ y)
theorem putCells_take (zs : List Int) (cur : Array Value) (h : zs.length ≤ cur.size) : (putCells (Value.int .i64) 0 zs.toArray cur).toList.take zs.length = zs.map (Value.int .i64) := by
  refine List.ext_getElem? fun i => ?_
  rw [List.getElem?_take]
  by_cases hi : i < zs.length
  · rw [if_pos hi]
    have hc : i < cur.size := by omega
    simp [putCells, hi, hc]
  · rw [if_neg hi]
    simp [Nat.le_of_not_lt hi]
theorem sort_mem {w0 w : World} {own : Nat → Prop} {L : List Item} (i : Nat) {A : Option Addr} {n c : Nat} {zs : List Int} (hM : Mem w0 own w L) (hi : L[i]? = some (.row (.slice A n c) 3 1 n (zs.map (Value.int .i64)))) (hn : zs.length = n) (hs : n ≤ 1000000000) :
    Calls Try.prog 59 #[.slice A n c] w fun e w' => (∃ v, e = .returned v) ∧ Mem w0 own w' (L.set i (.row (.slice A n c) 3 1 n ((zs.mergeSort leI).map (Value.int .i64)))) := by
  subst hn
  have hrow := hM.row i hi
  rcases Nat.eq_zero_or_pos zs.length with h0 | hpos
  · have e : zs = [] := List.length_eq_zero_iff.1 h0
    subst e
    refine (Any.slices_Sort_int_none lays189 A c w).mono ?_
    rintro e w' ⟨rfl, rfl⟩
    refine ⟨⟨_, rfl⟩, ?_⟩
    have e2 : L.set i (.row (.slice A 0 c) 3 1 0 (([] : List Int).map (Value.int .i64))) = L := by
      refine List.ext_getElem? fun k => ?_
      rw [List.getElem?_set]
      split
      · rename_i hk
        subst hk
        split
        · exact hi.symm
        · rename_i h
          exact (h (List.getElem?_eq_some_iff.1 hi).1).elim
      · rfl
    rw [List.mergeSort_nil]
    exact e2.symm ▸ hM
  · obtain ⟨hl, hr⟩ := hrow
    rcases hr with ⟨e1, h2⟩ | ⟨g, cap, cur, e1, hb, hg, h1, h2, h3, h4⟩
    · exfalso
      injection e1 with _ e2 _
      omega
    · injection e1 with e2 e3 e4
      subst e2 e4
      have hcs : zs.length ≤ cur.size := by
        have := congrArg List.length h4
        simp at this
        omega
      have hlt : g < w.heap.size := by
        rcases Nat.lt_or_ge g w.heap.size with h | h
        · exact h
        · rw [Array.getElem?_eq_none h] at hg; cases hg
      have hH : Holds (Value.int .i64) w g 0 zs.toArray := by
        intro j hj
        have hj' : j < zs.length := by simpa using hj
        have hblk : Blk w g 3 cur := hg
        refine ⟨?_, hblk.frozen _⟩
        rw [hblk.cell]
        have h5 : (cur.toList.take (zs.length * 1))[j]? = (zs.map (Value.int .i64))[j]? := by rw [h4]
        rw [List.getElem?_take] at h5
        rw [if_pos (by omega)] at h5
        simp [hj'] at h5 ⊢
        rw [h5]
      refine (Any.slices_Sort_int lays189 g 0 c zs w hH hlt (by omega)).mono ?_
      rintro e w' ⟨rfl, k, os, rfl⟩
      refine ⟨⟨_, rfl⟩, ?_⟩
      obtain ⟨ys, hys⟩ : ∃ ys, ys = zs.mergeSort leI := ⟨_, rfl⟩
      have hyl : ys.length = zs.length := by rw [hys, List.length_mergeSort]
      have e5 : (zs.mergeSort fun x y => decide (x ≤ y)) = ys := by rw [hys]; rfl
      rw [e5, ← hys]
      have hsz : (putRow (Value.int .i64) (Sort.ahead w k) g 0 ys.toArray).heap.size = w.heap.size := by simp [putRow, mapBlock, Sort.ahead]
      have hother : ∀ q, q < w.heap.size → q ≠ g → (grow (putRow (Value.int .i64) (Sort.ahead w k) g 0 ys.toArray) os).heap[q]? = w.heap[q]? := by
        intro q hq hne
        rw [heap_grow_old _ _ (by rw [hsz]; exact hq)]
        simp [putRow, mapBlock, Sort.ahead, Array.getElem?_modify, Ne.symm hne]
      have hself : (grow (putRow (Value.int .i64) (Sort.ahead w k) g 0 ys.toArray) os).heap[g]? = some (.cells (putCells (Value.int .i64) 0 ys.toArray cur) 3 (0, 0)) := by
        rw [heap_grow_old _ _ (by rw [hsz]; exact hlt)]
        simp [putRow, mapBlock, Sort.ahead, Array.getElem?_modify, hg, onCells]
      refine hM.upd i hi ⟨hM.grow.os, hM.grow.tape, hM.grow.output, ?_, fun q hq1 hq2 => ?_⟩ (fun q hq1 hq2 => hother q hq1 (fun e => hq2 (by rw [e]; rfl))) ⟨by simp [hyl], .inr ⟨g, c, _, rfl, hb, hself, h1, h2, by simpa [putCells] using h3, ?_⟩⟩ (fun q e => .inl e)
      · have := hM.grow.size
        have h6 : (grow (putRow (Value.int .i64) (Sort.ahead w k) g 0 ys.toArray) os).heap.size = w.heap.size + os.size := by simp [grow, hsz]
        omega
      · rw [hother q (by have := hM.grow.size; omega) ?_]
        · exact hM.grow.block q hq1 hq2
        · rintro rfl
          rcases hM.mine _ (List.mem_of_getElem? hi) q rfl with h | h
          · exact hq2 h
          · omega
      · have := putCells_take ys cur (by omega)
        rw [Nat.mul_one, ← hyl]
        exact this
end Go.Proofs.Ytkcmnhmbpamehaa
