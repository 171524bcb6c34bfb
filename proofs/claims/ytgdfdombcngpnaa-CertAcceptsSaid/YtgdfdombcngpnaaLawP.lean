/- What cert's laws with the document want: votes and digests compared in a region. -/
import Derived.Test.YtgdfdombcngpnaaRK
import Derived.Test.YtgdfdombcngpnaaEqV
import Derived.Test.YtgdfdombcngpnaaCnt
namespace Go.Proofs.Ytgdfdombcngpnaa
open Go.RowKit Go.MapKept
set_option linter.unusedSimpArgs false
set_option linter.unusedVariables false
section
variable {l : List Oper} {w0 w : World} {own : Nat → Prop} {L : List Item} {d : List Deferred} {Fin : List Slot → Prop} {k : Nat} {o : Oper} {rest : List Oper} {S : List Slot} {bigs preds : List Nat}
theorem gm_eqv (v : Vt) (hv : v.Ok) {x y : Operand} {t' : TypeId} (ho : o.op = .binOp .eql 47 x y t') (hw : slWantsL l S o.guard = some true) (hx : slEval S x = some (.agg (vtc v).toArray)) (hy : slEval S y = some (.agg (vtc v).toArray))
    (h : GW Try.prog l.toArray (MC w0 own L) Any1 SameW AnyB bigs preds d Fin (k + 1) rest (setD S o.dst (.val (.bool true)))) : GW Try.prog l.toArray (MC w0 own L) Any1 SameW AnyB bigs preds d Fin k (o :: rest) S :=
  gw_read quietB (slWants_of hw) (.bool true) (fun γ w hC => by
    unfold execOp
    simp only [ho, slEval_spec hx γ, slEval_spec hy γ, Sem.run_bind, eqg_vote, Result.andThen_ok, run_eql_struct, eq_vote _ v hv, Sem.run_pure]) h
theorem gm_eqh (a : List (BitVec 8)) (ha : a.length = 32) {x y : Operand} {t' : TypeId} (ho : o.op = .binOp .eql 30 x y t') (hw : slWantsL l S o.guard = some true) (hx : slEval S x = some (.agg (hv a))) (hy : slEval S y = some (.agg (hv a)))
    (h : GW Try.prog l.toArray (MC w0 own L) Any1 SameW AnyB bigs preds d Fin (k + 1) rest (setD S o.dst (.val (.bool true)))) : GW Try.prog l.toArray (MC w0 own L) Any1 SameW AnyB bigs preds d Fin k (o :: rest) S :=
  gw_read quietB (slWants_of hw) (.bool true) (fun γ w hC => by
    have h1 := eql_hash w a a ha ha
    rw [beq_self_eq_true] at h1
    unfold execOp
    simp only [ho, slEval_spec hx γ, slEval_spec hy γ, Sem.run_bind, eqGuard_hash, Result.andThen_ok, h1, Sem.run_pure]) h
theorem gm_eqb (b : Bool) {x y : Operand} {t' : TypeId} (ho : o.op = .binOp .eql 4 x y t') (hw : slWantsL l S o.guard = some true) (hx : slEval S x = some (.bool b)) (hy : slEval S y = some (.bool b))
    (h : GW Try.prog l.toArray (MC w0 own L) Any1 SameW AnyB bigs preds d Fin (k + 1) rest (setD S o.dst (.val (.bool true)))) : GW Try.prog l.toArray (MC w0 own L) Any1 SameW AnyB bigs preds d Fin k (o :: rest) S := by
  refine gm_pure hw (fun K hK => ⟨.bool true, fun γ w => ?_, hK _ h⟩)
  unfold execOp
  simp only [ho, slEval_spec hx γ, slEval_spec hy γ]
  cases b <;> simp [go_sem]
end
end Go.Proofs.Ytgdfdombcngpnaa
