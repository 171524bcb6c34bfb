/- plog: End. -/
import Derived.Test.YtechglhkcjgodaaPlog9
namespace Go.Proofs.Ytechglhkcjgodaa
open Go.RowKit Go.MapKept
set_option linter.unusedSimpArgs false

section
variable {w0 w : World} {own : Nat → Prop} {L : List Item}
theorem Mem.setRowCell (h : Mem w0 own w L) (i : Nat) {g n c size : Nat} {e : TypeId} {xs : List Value} (hi : L[i]? = some (.row (.slice (some ⟨g, 0, none⟩) n c) e size n xs)) (j : Nat) (u : Value) :
    Mem w0 own (w.setCell ⟨g, j, none⟩ u) (L.set i (.row (.slice (some ⟨g, 0, none⟩) n c) e size n (xs.set j u))) := by
  have hrow := h.row i hi
  refine h.upd i hi (h.grow.setCell (p := ⟨g, j, none⟩) (h.own_ i hi rfl) u) (fun k _ hne => Below.heap_setCell w ⟨g, j, none⟩ u k (fun e => hne (by rw [e]; rfl))) ?_ (fun _ e => .inl e)
  obtain ⟨hl, hr⟩ := hrow
  refine ⟨by simpa using hl, ?_⟩
  rcases hr with ⟨e1, _⟩ | ⟨g', cap, cur, e1, hb, hg, h1, h2, h3, h4⟩
  · cases e1
  · have hgg : g' = g ∧ cap = c := by
      injection e1 with e2 e3 e4
      injection e2 with e2
      injection e2 with e2
      exact ⟨e2.symm, e4.symm⟩
    obtain ⟨rfl, rfl⟩ := hgg
    refine .inr ⟨g', cap, cur.setIfInBounds j u, rfl, hb, ?_, h1, h2, by simpa using h3, ?_⟩
    · exact Blk.set_ (show Blk w g' e cur from hg) j u
    · rw [Array.toList_setIfInBounds, List.take_set, h4]
theorem wpList_store_rowcell {P : Program} {ops : Array Oper} {rest : List Oper} {o : Oper} {a : Act} {Q : Exit → Act → World → Prop} (hgd : Region.wanted o (yielded ops a.tmps) = true) (ty : TypeId) (x y : Operand) (ho : o.op = .store ty x y)
    (hM : Mem w0 own w L) (i g n c size j : Nat) (e : TypeId) (xs : List Value) (hi : L[i]? = some (.row (.slice (some ⟨g, 0, none⟩) n c) e size n xs)) (hj : j < xs.length) (hx : a.eval x = .pointer (some ⟨g, j, none⟩)) (v : Value) (hy : a.eval y = v) (h1 : v.oneCell' = true) (hs : (P.info? ty).map (·.size) = some 1)
    (h : ∀ w', Mem w0 own w' (L.set i (.row (.slice (some ⟨g, 0, none⟩) n c) e size n (xs.set j v))) → wpList P ops Q rest (a.put o.dst undef) w') : wpList P ops Q (o :: rest) a w :=
  BigFrame.wpList_want hgd fun _ hK => by
    have hrow := hM.row i hi
    have hpos : 0 < n := by
      rcases Nat.eq_zero_or_pos n with h0 | h0
      · have := hrow.1; subst h0; simp at this; subst this; simp at hj
      · exact h0
    obtain ⟨ad, e1, _, hc⟩ := (Reads.of_own hrow).2 hpos
    have e1' : (some ⟨g, 0, none⟩ : Option Addr) = some ad := e1
    injection e1' with e1'
    subst e1'
    have hcell : w.cell? ⟨g, j, none⟩ = some xs[j] := by
      have := hc j xs[j] (by simp [hj])
      rwa [show (⟨g, 0, none⟩ : Addr).add j = ⟨g, j, none⟩ from by unfold Addr.add; split <;> simp_all] at this
    obtain ⟨g', cur, e2, hb, _⟩ := row_blk hrow hpos
    injection e2 with e2
    injection e2 with e2
    subst e2
    unfold Oper.wp execOp
    simp only [ho, hx, hy, Instr.storeAt, Instr.sureAddr, Sem.run_bind, Sem.run_pure, Result.andThen_ok, run_store1 h1 hs hcell (hb.frozen j)]
    exact hK _ _ (h _ (hM.setRowCell i hi j v))
end
/-- A slice made of one part. -/
theorem wpList_buildSlice_one {P : Program} {ops : Array Oper} {rest : List Oper} {o : Oper} {a : Act} {Q : Exit → Act → World → Prop} {w0 w : World} {own : Nat → Prop} {L : List Item} (hgd : Region.wanted o (yielded ops a.tmps) = true) (t : TypeId) (x : Operand) (ho : o.op = .buildSlice t 1 #[(0, x)])
    (hM : Mem w0 own w L) (e : TypeId) (ht : P.underlying t = some (.slice e)) (z : Value) (size bytes : Nat) (hz : Row3 P e z size bytes) (hl : size ≤ 65536) (hsz : 0 < size) (v : Value) (hx : a.eval x = v) (xs : List Value) (hxs : v.cells.toList = xs) (hxl : xs.length = size)
    (h : ∀ g w', Mem w0 own w' (.row (.slice (some ⟨g, 0, none⟩) 1 1) e size 1 xs :: L) → wpList P ops Q rest (a.put o.dst (.slice (some ⟨g, 0, none⟩) 1 1)) w') : wpList P ops Q (o :: rest) a w := by
  subst hxs
  refine wpList_buildSlice_row hgd t 1 _ ho hM e ht z size bytes hz (by omega) hsz _ ?_ (by omega) h
  simp only [List.map_toArray, List.map_cons, List.map_nil, hx]
  rw [slCells_one z size v (by simpa using hxl)]
theorem spnCells_set : ∀ (l : List Spn) (i : Nat) (k : Int), (spnCells l).set (i * 5 + 4) (.int .i64 k) = spnCells (l.modify i (fun s => { s with k := k }))
  | [], i, k => by simp [spnCells]
  | s :: l, 0, k => by
    have e : spnCells (s :: l) = spnVals s ++ spnCells l := by simp [spnCells]
    rw [e]
    simp [spnVals, spnCells, List.modify]
  | s :: l, i + 1, k => by
    have e : spnCells (s :: l) = spnVals s ++ spnCells l := by simp [spnCells]
    have e2 : spnCells ((s :: l).modify (i + 1) (fun s => { s with k := k })) = spnVals s ++ spnCells (l.modify i (fun s => { s with k := k })) := by simp [spnCells]
    rw [e, e2, ← spnCells_set l i k, List.set_append_right _ _ (by simp [spnVals]; omega)]
    congr 2
    simp [spnVals]
    omega
theorem row_spn {w0 w : World} {own : Nat → Prop} {L : List Item} (h : Mem w0 own w L) (i : Nat) {A : Option Addr} {n c : Nat} {l : List Spn} (hi : L[i]? = some (.row (.slice A n c) 39 5 n (spnCells l))) (hl : l.length = n) (k : Nat) (hk : k < n) :
    ∃ g, A = some ⟨g, 0, none⟩ ∧ w.cell? ⟨g, k * 5 + 4, none⟩ = some (.int .i64 (l.getD k ⟨0, 0, 0, 0, 0⟩).k) := by
  have hrow := h.row i hi
  obtain ⟨g, rfl, _⟩ := row_some hrow (by omega)
  obtain ⟨b, off, e, _, hc⟩ := spn_cells (Reads.of_own hrow) hl k (by omega)
  injection e with e
  injection e with e1 e2
  subst e1; subst e2
  refine ⟨g, rfl, ?_⟩
  have := hc 4 (.int .i64 l[k].k) rfl
  simpa [show k < l.length by omega] using this
end Go.Proofs.Ytechglhkcjgodaa
