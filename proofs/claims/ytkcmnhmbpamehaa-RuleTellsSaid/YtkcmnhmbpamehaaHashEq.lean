/- Two digests told apart. -/
import Derived.Test.YtkcmnhmbpamehaaRMac
import Derived.Stop.BytesEq
import Derived.Lib.QuietBelow
namespace Go.Proofs.Ytkcmnhmbpamehaa
open Go.RowKit
theorem hv_cells (l : List (BitVec 8)) : hv l = ((l.map UInt8.ofBitVec).map Extern.Stop.cell).toArray := by
  unfold hv
  rw [List.map_map]
  rfl
theorem beq_ofBitVec (a b : List (BitVec 8)) : (a.map UInt8.ofBitVec == b.map UInt8.ofBitVec) = (a == b) := by
  rw [Bool.eq_iff_iff, beq_iff_eq, beq_iff_eq]
  constructor
  · intro h
    exact (List.map_inj_right (fun x y hxy => by injection hxy)).1 h
  · intro h; rw [h]
set_option maxRecDepth 100000 in
theorem size_u8 (w : World) : (sizeOf 5).run Try.prog w = .ok 1 w := by
  obtain ⟨i, hi⟩ := info_of_underlying Try.underlying5
  rw [run_sizeOf w hi]
  rfl
set_option maxRecDepth 100000 in
theorem eql_hash (w : World) (a b : List (BitVec 8)) (ha : a.length = 32) (hb : b.length = 32) :
    (binOp .eql 26 (.agg (hv a)) (.agg (hv b))).run Try.prog w = .ok (.bool (a == b)) w := by
  rw [hv_cells, hv_cells, run_eql_bytes w 26 5 32 Try.underlying26 Try.underlying5 size_u8 _ _ (by simpa using ha) (by simpa using hb), beq_ofBitVec]
@[go_sem] theorem eqGuard_hash (op : BinOp) (x y : Operand) (w : World) (a b : List (BitVec 8)) : (eqGuard op 26 x y (.agg (hv a)) (.agg (hv b))).run Try.prog w = .ok () w :=
  run_eqGuard_agg w op _ x y _ _ (by kernel_rfl)
@[go_sem] theorem equalIn_hash (w : World) (a b : List (BitVec 8)) (ha : a.length = 32) (hb : b.length = 32) :
    (Op.equalIn 10000 26 (.agg (hv a)) (.agg (hv b))).run Try.prog w = .ok (a == b) w := by
  rw [hv_cells, hv_cells, run_equalIn_bytes w 9998 26 5 32 Try.underlying26 Try.underlying5 size_u8 _ _ (by simpa using ha) (by simpa using hb), beq_ofBitVec]


end Go.Proofs.Ytkcmnhmbpamehaa
