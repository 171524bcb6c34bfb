/- make, elements of arrays in slots. -/
import Derived.Test.YtkcmnhmbpamehaaApp
namespace Go.Proofs.Ytkcmnhmbpamehaa
open Go.RowKit
section
variable {P : Program} {ops : Array Oper} {rest : List Oper} {o : Oper} {a : Act} {w : World} {Q : Exit → Act → World → Prop}
theorem wpList_make_row {w0 : World} {own : Nat → Prop} {L : List Item} (hgd : Region.wanted o (yielded ops a.tmps) = true) (t : TypeId) (lo co : Operand) (ho : o.op = .makeSlice t lo co) (hM : Mem w0 own w L)
    (e : TypeId) (ht : P.underlying t = some (.slice e)) (z : Value) (bytes : Nat) (hz : Row3 P e z 1 bytes) (hzc : z.cells = #[z]) (kl kc : IntKind) (n cap : Nat) (x y : Int) (hl : a.eval lo = .int kl x) (hc : a.eval co = .int kc y)
    (hx : x = n) (hy : y = cap) (hnc : n ≤ cap) (hb : bytes * cap ≤ 281474976710656) (h63 : cap ≤ maxLen)
    (h : ∀ g w', Mem w0 own w' (.row (.slice (some ⟨g, 0, none⟩) n cap) e 1 n (List.replicate n z) :: L) → wpList P ops Q rest (a.put o.dst (.slice (some ⟨g, 0, none⟩) n cap)) w') : wpList P ops Q (o :: rest) a w :=
  BigFrame.wpList_want hgd fun K hK => by
    subst hx hy
    obtain ⟨ti, hti, hz0, hz1, hz2⟩ := info_parts hz
    have hbb : (ti.bytes : Int) * (cap : Int) ≤ 281474976710656 := by
      have : ((ti.bytes * cap : Nat) : Int) ≤ 281474976710656 := by rw [hz2]; omega
      rwa [Int.natCast_mul] at this
    have hrun := run_make (P := P) w t e ti z ht hti hz0 kl kc n cap (by omega) (by omega) hbb (by unfold maxLen at h63; omega)
    simp only [Int.toNat_natCast, hz1, Nat.mul_one, hzc] at hrun
    unfold Oper.wp execOp
    simp only [ho, hl, hc, Sem.run_bind, Sem.run_pure, Result.andThen_ok, hrun]
    refine hK _ _ (h _ _ (hM.push (hM.grow.alloc _) (fun k hk => Below.heap_alloc w _ k hk) ?_ (fun g e => by simp [Item.foot, Value.ownBlock] at e; omega)))
    refine ⟨by simp, .inr ⟨_, cap, _, rfl, Nat.zero_le _, heap_alloc_new w _, hnc, h63, by rw [size_madeCells, Nat.mul_one], ?_⟩⟩
    rw [toList_madeCells_one, Nat.mul_one, List.take_replicate, Nat.min_eq_left hnc]
end
/-- An element of an array that lies in a slot. -/
theorem run_index_agg (P : Program) (T e : TypeId) (len : Nat) (hT : P.underlying T = some (.array len e)) (hz : (P.info? e).map (·.size) = some 1) (k' : IntKind) (hu : P.underlying e = some (.int k')) (cs : Array Value) (k : Nat) (v : Value) (hv : cs[k]? = some v) (hk : k < len) (w : World) :
    (Instr.index T (.agg cs) (.int .i64 (k : Int))).run P w = .ok v w := by
  obtain ⟨i, hi, hs⟩ : ∃ i, P.info? e = some i ∧ i.size = 1 := by
    cases hq : P.info? e with
    | none => simp [hq] at hz
    | some i => exact ⟨i, rfl, by simpa [hq] using hz⟩
  have hc : (0 : Int) ≤ (k : Int) ∧ (k : Int) < (len : Int) := by omega
  simp [Instr.index, asIntOf, run_underlying hT, run_underlying hu, sizeOf, typeInfo, hi, hs, hc, part, isAgg, hv]
  intro h
  omega
end Go.Proofs.Ytkcmnhmbpamehaa
