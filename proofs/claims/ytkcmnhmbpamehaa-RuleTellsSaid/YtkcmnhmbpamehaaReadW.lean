/- Arguments that came in: votes, slices of votes. -/
import Derived.Test.YtkcmnhmbpamehaaReadX
import Derived.Test.YtkcmnhmbpamehaaOnI
import Derived.Deep.MidRow
namespace Go.Proofs.Ytkcmnhmbpamehaa
open Go.ChangeShapes Go.WideShapes Go.ChangeAt Go.RowKit
set_option linter.constructorNameAsVariable false
theorem split6 {cs : List Value} (hl : cs.length = 68) : cs = cs.take 1 ++ ((cs.drop 1).take 1 ++ ((cs.drop 2).take 1 ++ ((cs.drop 3).take 32 ++ ((cs.drop 35).take 1 ++ (cs.drop 36).take 32)))) := by
  have e : ∀ (a b : Nat), (cs.drop a).take b ++ cs.drop (a + b) = cs.drop a := fun a b => by rw [← List.drop_drop, List.take_append_drop]
  rw [List.take_of_length_le (i := 32) (l := cs.drop 36) (by simp; omega), e 35 1, e 3 32, e 2 1, e 1 1]
  have := List.take_append_drop 1 cs
  exact this.symm
section
variable {w : World} {B n : Nat} {cs : List Value}
set_option maxRecDepth 100000 in
theorem rdvote (h : Rdw Try.prog w B n 32 cs) : ∃ u : Vt, u.Ok ∧ cs = vtc u := by
  cases n with
  | zero => exact h.elim
  | succ m =>
    unfold Rdw at h
    rw [Try.underlying32] at h
    obtain ⟨hl, hf⟩ := h
    have c1 : Try.prog.cellsOf 3 = 1 := by kernel_rfl
    have c2 : Try.prog.cellsOf 26 = 32 := by kernel_rfl
    have c3 : Try.prog.cellsOf 32 = 68 := by kernel_rfl
    rw [c3] at hl
    have f0 := hf 0 _ rfl
    have f1 := hf 1 _ rfl
    have f2 := hf 2 _ rfl
    have f3 := hf 3 _ rfl
    have f4 := hf 4 _ rfl
    have f5 := hf 5 _ rfl
    obtain ⟨z0, e0, _⟩ := rdw_int f0 Try.underlying3
    obtain ⟨z1, e1, _⟩ := rdw_int f1 Try.underlying3
    obtain ⟨z2, e2, _⟩ := rdw_int f2 Try.underlying3
    obtain ⟨l3, e3, hl3⟩ := rdw_hash f3 Try.underlying26 Try.underlying5 (by kernel_rfl) c2
    obtain ⟨z4, e4, _⟩ := rdw_int f4 Try.underlying3
    obtain ⟨l5, e5, hl5⟩ := rdw_hash f5 Try.underlying26 Try.underlying5 (by kernel_rfl) c2
    change (cs.drop 0).take (Try.prog.cellsOf 3) = _ at e0
    change (cs.drop 1).take (Try.prog.cellsOf 3) = _ at e1
    change (cs.drop 2).take (Try.prog.cellsOf 3) = _ at e2
    change (cs.drop 3).take (Try.prog.cellsOf 26) = _ at e3
    change (cs.drop 35).take (Try.prog.cellsOf 3) = _ at e4
    change (cs.drop 36).take (Try.prog.cellsOf 26) = _ at e5
    rw [c1] at e0 e1 e2 e4
    rw [c2] at e3 e5
    refine ⟨⟨z0, z1, z2, l3, z4, l5⟩, ⟨hl3, hl5⟩, ?_⟩
    rw [split6 hl]
    have e0' : cs.take 1 = [.int .i64 z0] := e0
    rw [e0', e1, e2, e3, e4, e5]
    rfl
end
section
variable {w : World} {v : Value}
set_option maxRecDepth 100000 in
theorem RdV.vote (h : RdV Try.prog w 32 v) : ∃ u : Vt, u.Ok ∧ v = .agg (vtc u).toArray := by
  obtain ⟨⟨fuel, hf⟩, r, b, hk⟩ := h
  simp only [Value.okWide, Try.underlying32] at hk
  obtain ⟨cs, rfl, _⟩ := hk
  obtain ⟨u, hu, e⟩ := rdvote hf
  refine ⟨u, hu, ?_⟩
  have : cs.toList = vtc u := e
  rw [← this]
end
theorem add_none (b o x : Nat) : (⟨b, o, none⟩ : Addr).add x = ⟨b, o + x, none⟩ := by
  unfold Addr.add
  split <;> simp_all
section
variable {w : World} {B n : Nat} {cs : List Value}
set_option maxRecDepth 100000 in
theorem rdvotes (h : Rdw Try.prog w B n 29 cs) : ∃ A k c lv, cs = [.slice A k c] ∧ k ≤ c ∧ k ≤ B ∧ lv.length = k ∧ (∀ u ∈ lv, u.Ok) ∧ Reads w w.heap.size 68 A k (vCells lv) := by
  obtain ⟨A, k, c, rfl, h1, h2, h3, m, h4⟩ := rdw_slice h Try.underlying29
  have c3 : Try.prog.cellsOf 32 = 68 := by kernel_rfl
  have hb : decide (1 ≤ Try.prog.bytesOf 32) = true := by kernel_rfl
  have hb' := of_decide_eq_true hb
  have hkB : k ≤ B := Nat.le_trans (Nat.le_mul_of_pos_right k hb') h3
  rw [c3] at h4
  have key : ∀ i, i < k → ∃ u : Vt, u.Ok ∧ ∃ a, A = some a ∧ w.cells? 0 (a.add (i * 68)) 68 = some (vtc u) := by
    intro i hi
    obtain ⟨a, xs, e1, hxs, hr⟩ := h4 i hi
    obtain ⟨u, hu, rfl⟩ := rdvote hr
    exact ⟨u, hu, a, e1, hxs⟩
  have hok : ∀ u ∈ (List.range k).map (fun i => if hi : i < k then (key i hi).choose else zVt), u.Ok := by
    intro u hu
    obtain ⟨i, hi, rfl⟩ := List.mem_map.1 hu
    have hi' : i < k := by simpa using hi
    rw [dif_pos hi']
    exact (key i hi').choose_spec.1
  refine ⟨A, k, c, (List.range k).map (fun i => if hi : i < k then (key i hi).choose else zVt), rfl, h1, hkB, by simp, hok, ?_⟩
  refine ⟨by rw [vCells_len _ hok]; simp, fun hk => ?_⟩
  obtain ⟨u0, _, a, rfl, hc0⟩ := key 0 hk
  obtain ⟨b, off, ha, hbl, _, _⟩ := cells_range hc0 (by decide)
  have ha' : a = ⟨b, off, none⟩ := by simpa [Addr.add] using ha
  subst ha'
  refine ⟨_, rfl, hbl, fun j u hj => ?_⟩
  have hjl : j < k * 68 := by
    have := (List.getElem?_eq_some_iff.1 hj).1
    rw [vCells_len _ hok] at this
    simpa using this
  have hi : j / 68 < k := by omega
  have hji : j / 68 * 68 + j % 68 = j := by omega
  have hg := vCells_get _ hok (j / 68) (by simpa using hi) (j % 68) (by omega)
  rw [hji] at hg
  rw [hg] at hj
  simp only [List.getElem_map, List.getElem_range] at hj
  rw [dif_pos hi] at hj
  obtain ⟨a', e', hc'⟩ := (key (j / 68) hi).choose_spec.2
  injection e' with e'
  subst e'
  obtain ⟨b2, off2, ha2, _, hr2, _⟩ := cells_range hc' (by decide)
  rw [add_none] at ha2
  injection ha2 with e1 e2 _
  subst e1 e2
  have := hr2 (j % 68) u hj
  rw [add_none]
  rwa [show off + j / 68 * 68 + j % 68 = off + j from by omega] at this
end
section
variable {w : World} {v : Value}
set_option maxRecDepth 100000 in
theorem RdV.votes (h : RdV Try.prog w 29 v) : ∃ A k c lv, v = .slice A k c ∧ k ≤ c ∧ k ≤ 140737488351232 ∧ lv.length = k ∧ (∀ u ∈ lv, u.Ok) ∧ Reads w w.heap.size 68 A k (vCells lv) := by
  obtain ⟨⟨fuel, hf⟩, r, b, hk⟩ := h
  obtain ⟨A, n, c, rfl⟩ := okWide_slice Try.underlying29 hk
  obtain ⟨A', k, c', lv, e, h1, h2, h3, h4, h5⟩ := rdvotes hf
  have e' : Value.slice A n c = .slice A' k c' := by simpa [Value.cells] using e
  exact ⟨A', k, c', lv, e', h1, h2, h3, h4, h5⟩
end
end Go.Proofs.Ytkcmnhmbpamehaa
