/- Equality of two hashes; a byte slice that came in; a region whose callees lay memory. -/
import Derived.Test.YtggpchdgljhmdaaLaw2
import Derived.Stop.BytesEq
import Derived.Lib.QuietBelow
namespace Go.Proofs.Ytggpchdgljhmdaa
open Go.RowKit

theorem hv_cells (l : List (BitVec 8)) : hv l = ((l.map UInt8.ofBitVec).map Extern.Stop.cell).toArray := by
  unfold hv
  rw [List.map_map]
  rfl
theorem beq_ofBitVec (a b : List (BitVec 8)) : (a.map UInt8.ofBitVec == b.map UInt8.ofBitVec) = (a == b) := by
  rw [Bool.eq_iff_iff, beq_iff_eq, beq_iff_eq]
  constructor
  · intro h
    exact (List.map_inj_right (fun x y hxy => by injection hxy)).1 h
  · intro h; rw [h]
theorem size_u8 (w : World) : (sizeOf 5).run Try.prog w = .ok 1 w := by
  obtain ⟨i, hi⟩ := info_of_underlying Try.underlying5
  rw [run_sizeOf w hi]
  rfl
theorem eql_hash (w : World) (a b : List (BitVec 8)) (ha : a.length = 32) (hb : b.length = 32) :
    (binOp .eql 25 (.agg (hv a)) (.agg (hv b))).run Try.prog w = .ok (.bool (a == b)) w := by
  rw [hv_cells, hv_cells, run_eql_bytes w 25 5 32 Try.underlying25 Try.underlying5 size_u8 _ _ (by simpa using ha) (by simpa using hb), beq_ofBitVec]
@[go_sem] theorem eqGuard_hash (op : BinOp) (x y : Operand) (w : World) (a b : List (BitVec 8)) : (eqGuard op 25 x y (.agg (hv a)) (.agg (hv b))).run Try.prog w = .ok () w :=
  run_eqGuard_agg w op _ x y _ _ (by kernel_rfl)
@[go_sem] theorem equalIn_hash (w : World) (a b : List (BitVec 8)) (ha : a.length = 32) (hb : b.length = 32) :
    (Op.equalIn 10000 25 (.agg (hv a)) (.agg (hv b))).run Try.prog w = .ok (a == b) w := by
  rw [hv_cells, hv_cells, run_equalIn_bytes w 9998 25 5 32 Try.underlying25 Try.underlying5 size_u8 _ _ (by simpa using ha) (by simpa using hb), beq_ofBitVec]

theorem V8_of_int (z : Int) (h : (Lit.int .u8 z).wf = true) : Value.int .u8 z = V8 (BitVec.ofNat 8 z.toNat) := by
  have h2 : 0 ≤ z ∧ z ≤ 255 := by simpa [Lit.wf, IntKind.min, IntKind.max, IntKind.signed, IntKind.bits] using h
  rw [← V8_mk _ (by omega)]
  congr 1
  omega

/-- A slice of bytes that came in. -/
def RowIn (w : World) (a : Option Addr) (len cap : Nat) (zs : List Int) : Prop :=
  (a = none ∧ len = 0 ∧ cap = 0 ∧ zs = []) ∨
  ∃ x, a = some x ∧ len ≤ cap ∧ cap ≤ maxLen ∧ zs.length = cap ∧ (∀ i, i < zs.length → w.cell? (x.add i) = some (.int .u8 (zs.getD i 0))) ∧ ∀ n ∈ zs, (Lit.int .u8 n).wf = true
theorem RowIn.bytes {w : World} {a : Option Addr} {len cap : Nat} {zs : List Int} (h : RowIn w a len cap zs) : len ≤ cap ∧ ∃ l, Bytes w w.heap.size a len l := by
  rcases h with ⟨rfl, rfl, rfl, _⟩ | ⟨x, rfl, hl, _, hz, hc, hw⟩
  · exact ⟨Nat.le_refl _, [], Reads.none_⟩
  · refine ⟨hl, (zs.take len).map (fun z => BitVec.ofNat 8 z.toNat), ?_⟩
    refine ⟨by simp; omega, fun hn => ⟨x, rfl, ?_, fun j u hu => ?_⟩⟩
    · have := block_lt_of_cell (hc 0 (by omega))
      rwa [block_of_add] at this
    · obtain ⟨hj, rfl⟩ := List.getElem?_eq_some_iff.1 hu
      simp only [List.length_map, List.length_take] at hj
      have h0 := hc j (by omega)
      rw [h0]
      simp only [List.getElem_map, List.getElem_take]
      have hm : zs[j] ∈ zs := List.getElem_mem _
      rw [← V8_of_int _ (hw _ hm), List.getD_eq_getElem?_getD, List.getElem?_eq_getElem (by omega)]
      rfl
end Go.Proofs.Ytggpchdgljhmdaa
