/- A vote is the same as itself. -/
import Derived.Test.YtkcmnhmbpamehaaGood
import Derived.Laws.StructEq
namespace Go.Proofs.Ytkcmnhmbpamehaa
open Go.RowKit Go.MapKept
set_option linter.unusedSimpArgs false
set_option linter.unusedVariables false
theorem eq_int (w : World) (d : Nat) (z : Int) : (Op.equalIn (d + 1) 3 (.int .i64 z) (.int .i64 z)).run Try.prog w = .ok true w := by
  simp [Op.equalIn, run_underlying Try.underlying3]
set_option maxRecDepth 100000 in
theorem eq_hash (w : World) (d : Nat) (a : List (BitVec 8)) (ha : a.length = 32) : (Op.equalIn (d + 2) 26 (.agg (hv a)) (.agg (hv a))).run Try.prog w = .ok true w := by
  rw [hv_cells, run_equalIn_bytes w d 26 5 32 Try.underlying26 Try.underlying5 size_u8 _ _ (by simpa using ha) (by simpa using ha)]
  simp
theorem part_int (w : World) (cs : Array Value) (off : Nat) (v : Value) (h : cs[off]? = some v) : (part 3 cs off).run Try.prog w = .ok v w := by
  simp [part, Try.isAgg3, h]
theorem part_hash (w : World) (cs : Array Value) (off : Nat) : (part 26 cs off).run Try.prog w = .ok (.agg (cs.extract off (off + 32))) w := by
  simp [part, Try.isAgg26, Try.sizeOf26]
theorem ext_sum {v : Vt} (h : v.Ok) : (vtc v).toArray.extract 3 (3 + 32) = hv v.sum := by
  apply Array.ext'
  have := vtc_sum h
  simpa [hv] using this
theorem ext_tag {v : Vt} (h : v.Ok) : (vtc v).toArray.extract 36 (36 + 32) = hv v.tag := by
  apply Array.ext'
  have := vtc_tag h
  simpa [hv] using this
set_option maxRecDepth 100000 in
theorem eq_vote (w : World) (v : Vt) (hv : v.Ok) : (Op.equalIn 10000 32 (.agg (vtc v).toArray) (.agg (vtc v).toArray)).run Try.prog w = .ok true w := by
  have hu : Try.prog.underlying 32 = some (.struct (Try.prog.fieldsOf 32)) := by
    unfold Program.fieldsOf
    rw [Try.underlying32]
  rw [run_equalIn_struct w 9999 _ _ _ hu (by kernel_rfl)]
  have p0 := fun w => part_int w (vtc v).toArray 0 (.int .i64 v.k) rfl
  have p1 := fun w => part_int w (vtc v).toArray 1 (.int .i64 v.s) rfl
  have p2 := fun w => part_int w (vtc v).toArray 2 (.int .i64 v.v) rfl
  have p3 := fun w => part_hash w (vtc v).toArray 3
  have p4 := fun w => part_int w (vtc v).toArray 35 (.int .i64 v.f) (by simpa using vtc_35 hv)
  have p5 := fun w => part_hash w (vtc v).toArray 36
  rw [ext_sum hv] at p3
  rw [ext_tag hv] at p5
  have q := fun w z => eq_int w 9998 z
  have q3 := fun w => eq_hash w 9997 v.sum hv.sum
  have q5 := fun w => eq_hash w 9997 v.tag hv.tag
  unfold Program.fieldsOf
  rw [Try.underlying32]
  simp only [Op.eqFields, Sem.run_bind, Sem.run_pure, Sem.run_ite, p0, p1, p2, p3, p4, p5, q, q3, q5, Result.andThen_ok]
  simp
theorem eqg_vote (op : BinOp) (x y : Operand) (w : World) (a b : Vt) : (eqGuard op 32 x y (.agg (vtc a).toArray) (.agg (vtc b).toArray)).run Try.prog w = .ok () w := run_eqGuard_agg w op _ x y _ _ (by kernel_rfl)
theorem blk_range2 {w : World} {g : Nat} {T : TypeId} {l : List Value} (h : Blk w g T l.toArray) : w.rangeAt g 0 l := fun j v hj => by
  rw [Nat.zero_add, h.cell]
  simpa using hj
theorem wpList_eqv {ops : Array Oper} {Q : Exit → Act → World → Prop} {rest : List Oper} {o : Oper} {a : Act} {w : World} (hgd : Region.wanted o (yielded ops a.tmps) = true) (v : Vt) (hv : v.Ok) {x y : Operand} {t' : TypeId} (ho : o.op = .binOp .eql 32 x y t') (hx : a.eval x = .agg (vtc v).toArray) (hy : a.eval y = .agg (vtc v).toArray)
    (h : wpList Try.prog ops Q rest (a.put o.dst (.bool true)) w) : wpList Try.prog ops Q (o :: rest) a w :=
  BigFrame.wpList_want hgd fun K hK => by
    have h1 : (execOp a.eval o).run Try.prog w = .ok (.value (.bool true)) w := by
      unfold execOp
      simp only [ho, hx, hy, Sem.run_bind, eqg_vote, Result.andThen_ok, run_eql_struct, eq_vote _ v hv, Sem.run_pure]
    unfold Oper.wp
    rw [h1]
    exact hK _ _ h
end Go.Proofs.Ytkcmnhmbpamehaa
