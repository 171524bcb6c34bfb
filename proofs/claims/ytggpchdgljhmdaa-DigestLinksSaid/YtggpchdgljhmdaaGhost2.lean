/- The walk of Ghost, operation by operation. -/
import Derived.Test.YtggpchdgljhmdaaGhost
import Derived.BigQuiet
import Derived.IntWalk
namespace Go.Proofs.Ytggpchdgljhmdaa

/-- An operand's value, where it is known. -/
def slEval (S : List Slot) : Operand → Option Value
  | .tmp t => match S[t]? with
    | some (.val c) => some c
    | _ => none
  | .const v => some v
  | .global g => some (.pointer (some ⟨g, 0, none⟩))
  | .func f => some (.func (.func f) #[] #[])
def slWants (ops : Array Oper) (S : List Slot) (o : Oper) : Option Bool := match o.guard with
  | none => some true
  | some (j, want) => match (ops[j]?).bind (·.dst) with
    | some t => match S[t]? with
      | some (.val (.bool b)) => some (b == want)
      | _ => none
    | none => none

section
variable {P : Program} {ops : Array Oper} {C : World → Prop} {R R' : World → World → Prop} {bigs preds : List Nat} {d : List Deferred} {Fin : List Slot → Prop} {k : Nat} {o : Oper} {rest : List Oper} {S : List Slot}

theorem slAct_tmp (γ : Nat → Value) (t : Nat) : (slAct S γ d).tmps[t]? = S[t]?.map fun s => s.get (γ t) := by
  unfold slAct
  rw [List.getElem?_toArray, slVals_get]
  simp
theorem slEval_spec {x : Operand} {c : Value} (h : slEval S x = some c) (γ : Nat → Value) : (slAct S γ d).eval x = c := by
  cases x with
  | tmp t =>
    unfold slEval at h
    simp only at h
    split at h
    · rename_i c' hc
      obtain rfl := Option.some.inj h
      simp [Act.eval, slAct_tmp, hc, Slot.get]
    · cases h
  | const v => exact Option.some.inj h
  | global g => exact Option.some.inj h
  | func f => exact Option.some.inj h
theorem slWants_spec {b : Bool} (h : slWants ops S o = some b) (γ : Nat → Value) : Region.wanted o (yielded ops (slAct S γ d).tmps) = b := by
  unfold slWants at h
  unfold Region.wanted
  cases hg : o.guard with
  | none => rw [hg] at h; simpa using h
  | some gw =>
    obtain ⟨j, want⟩ := gw
    rw [hg] at h
    simp only at h ⊢
    cases ht : (ops[j]?).bind (·.dst) with
    | none => rw [ht] at h; cases h
    | some t =>
      rw [ht] at h
      simp only at h
      split at h
      · rename_i b' hb
        obtain rfl := Option.some.inj h
        unfold yielded
        rw [ht]
        simp only [Option.bind_some]
        rw [slAct_tmp, hb]
        simp only [Option.map_some, Slot.get]
        cases b' <;> cases want <;> rfl
      · cases h

abbrev Quiet (C : World → Prop) (R R' : World → World → Prop) : Prop := (∀ w, C w → R w w) ∧ (∀ w, C w → R' w w)
theorem eff_refl (hq : Quiet C R R') (i : Nat) (w : World) (h : C w) : eff R R' bigs i w w := by
  unfold eff
  split
  · exact hq.2 w h
  · exact hq.1 w h

/-- An operation that is passed over. -/
theorem gw_skip (hw : slWants ops S o = some false) (h : GW P ops C R R' bigs preds d Fin (k + 1) rest (setD S o.dst (.val undef))) : GW P ops C R R' bigs preds d Fin k (o :: rest) S :=
  ⟨.val undef, .inl ⟨_, rfl⟩, fun γ w _ _ => by rw [if_neg (by rw [slWants_spec hw]; exact Bool.false_ne_true)]; exact rfl, h⟩
/-- Whatever operation: its slot's knowledge given. -/
theorem gw_any (hw : slWants ops S o = some true) (s : Slot) (hk : Keeps C R preds k s)
    (hy : ∀ γ w, C w → (∀ t V, t ∈ o.looksAt ops → S[t]? = some (.pred V) → V (γ t) w) → yld P o (slAct S γ d).eval w (fun v w' => C w' ∧ eff R R' bigs k w w' ∧ s.fits v w'))
    (h : GW P ops C R R' bigs preds d Fin (k + 1) rest (setD S o.dst s)) : GW P ops C R R' bigs preds d Fin k (o :: rest) S :=
  ⟨s, hk, fun γ w hC hf => by rw [if_pos (slWants_spec hw γ)]; exact hy γ w hC hf, h⟩
/-- An operation that yields one value and leaves the world. -/
theorem gw_read (hq : Quiet C R R') (hw : slWants ops S o = some true) (c : Value) (hr : ∀ γ w, C w → (execOp (slAct S γ d).eval o).run P w = .ok (.value c) w) (h : GW P ops C R R' bigs preds d Fin (k + 1) rest (setD S o.dst (.val c))) : GW P ops C R R' bigs preds d Fin k (o :: rest) S :=
  gw_any hw (.val c) (.inl ⟨_, rfl⟩) (fun γ w hC _ => by unfold yld; rw [hr γ w hC]; exact ⟨hC, eff_refl hq k w hC, rfl⟩) h
theorem gw_pure_ex (hq : Quiet C R R') (hw : slWants ops S o = some true) (h : ∀ K : Value → Prop, (∀ c, GW P ops C R R' bigs preds d Fin (k + 1) rest (setD S o.dst (.val c)) → K c) → ∃ c, (∀ γ w, (execOp (slAct S γ d).eval o).run P w = .ok (.value c) w) ∧ K c) : GW P ops C R R' bigs preds d Fin k (o :: rest) S := by
  obtain ⟨c, h1, h2⟩ := h (fun c => GW P ops C R R' bigs preds d Fin (k + 1) rest (setD S o.dst (.val c))) (fun _ h => h)
  exact gw_read hq hw c (fun γ w _ => h1 γ w) h2
theorem gw_move (hq : Quiet C R R') (hw : slWants ops S o = some true) (x : Operand) (ho : o.op = .move x ∨ o.op = .assign x) (c : Value) (hx : slEval S x = some c) (h : GW P ops C R R' bigs preds d Fin (k + 1) rest (setD S o.dst (.val c))) : GW P ops C R R' bigs preds d Fin k (o :: rest) S :=
  gw_read hq hw c (fun γ w _ => by
    unfold execOp
    rcases ho with ho | ho <;> simp [ho, slEval_spec hx γ]) h
theorem gw_pick (hq : Quiet C R R') (hw : slWants ops S o = some true) (x y z : Operand) (ho : o.op = .pick x y z) (b : Bool) (u v : Value) (hx : slEval S x = some (.bool b)) (hy : slEval S y = some u) (hz : slEval S z = some v)
    (h : GW P ops C R R' bigs preds d Fin (k + 1) rest (setD S o.dst (.val (bif b then u else v)))) : GW P ops C R R' bigs preds d Fin k (o :: rest) S :=
  gw_read hq hw _ (fun γ w _ => by
    unfold execOp
    cases b <;> simp [ho, slEval_spec hx γ, slEval_spec hy γ, slEval_spec hz γ, asBool]) h
/-- A call of a Go function whose arguments are known: its result is one value. -/
theorem gw_call (hw : slWants ops S o = some true) (hnb : bigs.contains k = false) (f : FuncId) (xs : Array Operand) (ts : Array TypeId) (_ho : o.op = .call { callee := .value (.func f), args := xs, argTypes := ts }) (args : Array Value) (_hx : xs.toList.map (slEval S) = args.toList.map some) (c : Value) (hr : ∀ γ w, (execOp (slAct S γ d).eval o).run P w = .ok (.enter f args) w)
    (hc : ∀ w, C w → Calls P f args w fun e w' => e = .returned c ∧ C w' ∧ R w w') (h : GW P ops C R R' bigs preds d Fin (k + 1) rest (setD S o.dst (.val c))) : GW P ops C R R' bigs preds d Fin k (o :: rest) S :=
  gw_any hw (.val c) (.inl ⟨_, rfl⟩) (fun γ w hC _ => by
    unfold yld
    rw [hr γ w]
    refine (hc w hC).mono fun e w' ⟨he, h1, h2⟩ => ⟨c, he, h1, ?_, rfl⟩
    unfold eff
    rw [if_neg (by rw [hnb]; exact Bool.false_ne_true)]
    exact h2) h
end
end Go.Proofs.Ytggpchdgljhmdaa
