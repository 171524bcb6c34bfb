/- A region in any order in which one call lays new things. -/
import Derived.Test.YtechglhkcjgodaaGen
namespace Go.Proofs.Ytechglhkcjgodaa
open Go.RowKit Go.MapKept
set_option linter.unusedSimpArgs false
set_option linter.unusedVariables false
def SameW (w w' : World) : Prop := w = w'
def AnyB (_ _ : World) : Prop := True
theorem quietB {C : World → Prop} : Quiet C SameW AnyB := ⟨fun _ _ => rfl, fun _ _ => trivial⟩
section
variable {P : Program} {l : List Oper} {C : World → Prop} {w : World} {d : List Deferred} {Fin : List Slot → Prop} {k : Nat} {o : Oper} {rest : List Oper} {S : List Slot} {bigs preds : List Nat}
theorem wp_region_b {id : Nat} {Q : Exit → Act → World → Prop} {a : Act} (bigs preds keeps : List Nat) (hC : C w.drew) (hm : P.follows .mixedOrders = true) (hB : ghostB l.toArray a.tmps.size = true)
    (hA : ancB l.toArray (ancs l.toArray) = true) (hG : bigB l.toArray (ancs l.toArray) bigs preds keeps = true)
    (h : GW P l.toArray C Any1 SameW AnyB bigs preds a.defers (Done l C keeps a.defers Q) 0 l (initS a)) : (Code.region id l.toArray true).wp P Q a w :=
  wp_region_ghost (C := C) (D := Any1) (R := SameW) (R' := AnyB) bigs preds keeps hm hB hA hG hC trivial (fun _ _ _ _ _ h => h) quietB.1 quietB.2 h
theorem gb_move {x : Operand} (ho : o.op = .move x ∨ o.op = .assign x) (hw : slWantsL l S o.guard = some true) {c : Value} (hx : slEval S x = some c) (h : GW P l.toArray C Any1 SameW AnyB bigs preds d Fin (k + 1) rest (setD S o.dst (.val c))) : GW P l.toArray C Any1 SameW AnyB bigs preds d Fin k (o :: rest) S := gw_move quietB (slWants_of hw) x ho c hx h
theorem gb_pure (hw : slWantsL l S o.guard = some true) (h : ∀ K : Value → Prop, (∀ c, GW P l.toArray C Any1 SameW AnyB bigs preds d Fin (k + 1) rest (setD S o.dst (.val c)) → K c) → ∃ c, (∀ γ w, (execOp (slAct S γ d).eval o).run P w = .ok (.value c) w) ∧ K c) : GW P l.toArray C Any1 SameW AnyB bigs preds d Fin k (o :: rest) S := gw_pure_ex quietB (slWants_of hw) h
theorem gb_ld (v : Value) {T : TypeId} {x : Operand} (ho : o.op = .load T x) (hw : slWantsL l S o.guard = some true) {ad : Addr} (hx : slEval S x = some (.pointer (some ad))) (hc : ∀ w, C w → w.cell? ad = some v) (ht : TySc P T)
    (h : GW P l.toArray C Any1 SameW AnyB bigs preds d Fin (k + 1) rest (setD S o.dst (.val v))) : GW P l.toArray C Any1 SameW AnyB bigs preds d Fin k (o :: rest) S := by
  obtain ⟨dd, hu, hd⟩ := ht.ex
  exact gw_load1 quietB (slWants_of hw) T x ho ad hx dd hu (by cases dd <;> first | rfl | cases hd) v hc h
theorem gb_call {f : FuncId} {xs : Array Operand} {ts : Array TypeId} (ho : o.op = .call { callee := .value (.func f), args := xs, argTypes := ts }) (hw : slWantsL l S o.guard = some true) (hnb : bigs.contains k = false) (args : Array Value) (hx : xs.toList.map (slEval S) = args.toList.map some) (c : Value) (hr : ∀ γ w, (execOp (slAct S γ d).eval o).run P w = .ok (.enter f args) w)
    (hc : ∀ w, C w → Calls P f args w fun e w' => e = .returned c ∧ w = w') (h : GW P l.toArray C Any1 SameW AnyB bigs preds d Fin (k + 1) rest (setD S o.dst (.val c))) : GW P l.toArray C Any1 SameW AnyB bigs preds d Fin k (o :: rest) S :=
  gw_call (slWants_of hw) hnb f xs ts ho args hx c hr (fun w hC => (hc w hC).mono fun e w' ⟨he, hg⟩ => ⟨he, by rw [← hg]; exact hC, hg⟩) h
theorem gb_big {f : FuncId} {xs : Array Operand} {ts : Array TypeId} (ho : o.op = .call { callee := .value (.func f), args := xs, argTypes := ts }) (hw : slWantsL l S o.guard = some true) (hb : bigs.contains k = true) (hp : preds.contains k = true) (args : Array Value) (hx : xs.toList.map (slEval S) = args.toList.map some) (V : Value → World → Prop) (hr : ∀ γ w, (execOp (slAct S γ d).eval o).run P w = .ok (.enter f args) w)
    (hc : ∀ w, C w → Calls P f args w fun e w' => ∃ c, e = .returned c ∧ C w' ∧ V c w') (h : GW P l.toArray C Any1 SameW AnyB bigs preds d Fin (k + 1) rest (setD S o.dst (.pred V))) : GW P l.toArray C Any1 SameW AnyB bigs preds d Fin k (o :: rest) S :=
  gw_any (slWants_of hw) (.pred V) (.inr ⟨by simpa using hp, fun v w w' _ _ e hv => e ▸ hv⟩) (fun γ w hC _ _ => by
    unfold yld
    rw [hr γ w]
    refine (hc w hC).mono fun e w' ⟨c, he, h1, h2⟩ => ⟨c, he, h1, ?_, h2⟩
    unfold eff
    rw [if_pos hb]
    trivial) h
theorem gb_moveP {s : Nat} (ho : o.op = .move (.tmp s) ∨ o.op = .assign (.tmp s)) (hw : slWantsL l S o.guard = some true) (hp : preds.contains k = true) (V : Value → World → Prop) (hs : S[s]? = some (.pred V)) (h : GW P l.toArray C Any1 SameW AnyB bigs preds d Fin (k + 1) rest (setD S o.dst (.pred V))) : GW P l.toArray C Any1 SameW AnyB bigs preds d Fin k (o :: rest) S :=
  gw_moveP quietB (slWants_of hw) hp s ho V hs (fun v w w' _ _ e hv => e ▸ hv) h
theorem gb_ext {s i : Nat} (ho : o.op = .extract (.tmp s) i) (hw : slWantsL l S o.guard = some true) (hp : preds.contains k = true) (V V' : Value → World → Prop) (hs : S[s]? = some (.pred V)) (hV : ∀ v w, V v w → ∃ ts u, v = .tuple ts ∧ ts[i]? = some u ∧ V' u w)
    (h : GW P l.toArray C Any1 SameW AnyB bigs preds d Fin (k + 1) rest (setD S o.dst (.pred V'))) : GW P l.toArray C Any1 SameW AnyB bigs preds d Fin k (o :: rest) S :=
  gw_any (slWants_of hw) (.pred V') (.inr ⟨by simpa using hp, fun v w w' _ _ e hv => e ▸ hv⟩) (fun γ w hC _ hf => by
    have hv : V (γ s) w := hf s _ (List.mem_append_left _ (List.mem_filterMap.2 ⟨.tmp s, by simp [ho, Op.operands], rfl⟩)) hs
    have he1 : (slAct S γ d).eval (.tmp s) = γ s := by simp [Act.eval, slAct_tmp, hs, Slot.get]
    obtain ⟨ts, u, e, hu, hV'⟩ := hV _ _ hv
    unfold yld execOp
    have hx : (Instr.extract (.tuple ts) i).run P w = .ok u w := by simp [Instr.extract, hu]
    simp only [ho, he1, e, Sem.run_bind, hx, Result.andThen_ok, Sem.run_pure]
    exact ⟨hC, eff_refl quietB k w hC, hV'⟩) h
end
end Go.Proofs.Ytechglhkcjgodaa
