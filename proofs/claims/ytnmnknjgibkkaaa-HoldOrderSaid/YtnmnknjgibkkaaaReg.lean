/- Regions in any order: any rule on what is at hand serves for an operation. -/
import Derived.Test.YtnmnknjgibkkaaaGen
namespace Go.Proofs.Ytnmnknjgibkkaaa
open Go.RowKit Go.MapKept
set_option linter.unusedSimpArgs false
set_option linter.unusedVariables false
def SameW (w w' : World) : Prop := w = w'
def AnyB (_ _ : World) : Prop := True
def MC (w0 : World) (own : Nat → Prop) (L : List Item) (w : World) : Prop := Mem w0 own w L
theorem quietB {C : World → Prop} : Quiet C SameW AnyB := ⟨fun _ _ => rfl, fun _ _ => trivial⟩
theorem yld_of_wpList {P : Program} {ops : Array Oper} {o : Oper} {a : Act} {w : World} (hw : Region.wanted o (yielded ops a.tmps) = true) {t : Nat} (hd : o.dst = some t) (ht : t < a.tmps.size) {post : Value → World → Prop}
    (h : wpList P ops (fun e a' w' => e = .normal ∧ a'.defers = a.defers ∧ post (a'.tmps.getD t undef) w') [o] a w) : yld P o a.eval w post := by
  have hno : ¬ LetsOut (fun e a' w' => e = .normal ∧ a'.defers = a.defers ∧ post (Array.getD a'.tmps t undef) w') := by
    rintro ⟨a', w', h1, _⟩
    cases h1
  have hput : ∀ v, (a.put o.dst v).tmps.getD t undef = v := fun v => by
    rw [hd]
    simp [Act.put, Array.getD_eq_getD_getElem?, ht]
  unfold wpList at h
  rw [if_pos hw] at h
  have h1 := h.resolve_right (fun e => hno e.2)
  unfold Oper.wp at h1
  unfold yld
  cases hr : (execOp a.eval o).run P w with
  | ok nx w' =>
    rw [hr] at h1
    cases nx with
    | value v => have := h1.2.2; rw [hput] at this; exact this
    | skip => have := h1.2.2; rw [hput] at this; exact this
    | enter f args =>
      refine Calls.mono h1 ?_
      rintro (v | ch | _) w2 h2
      · have := h2.2.2; rw [hput] at this; exact ⟨v, rfl, this⟩
      · cases h2.1
      · exact (hno h2).elim
    | row row args => exact Rows.mono h1 fun v w2 h2 => by have := h2.2.2; rw [hput] at this; exact this
    | defer d =>
      have h3 := h1.2.1
      simp [Act.put, hd] at h3
    | _ => exact h1.elim
  | halt h w' =>
    rw [hr] at h1
    cases h <;> first | exact h1.elim | (cases h1.1)
theorem yld_mono {P : Program} {o : Oper} {ρ : Operand → Value} {w : World} {p q : Value → World → Prop} (h : yld P o ρ w p) (hm : ∀ v w', p v w' → q v w') : yld P o ρ w q := by
  unfold yld at h ⊢
  generalize (execOp ρ o).run P w = r at h ⊢
  cases r with
  | halt x w' => exact h.elim
  | ok nx w' =>
    cases nx with
    | value v => exact hm _ _ h
    | skip => exact hm _ _ h
    | enter f args => exact Calls.mono h (fun e w2 ⟨v, he, h2⟩ => ⟨v, he, hm _ _ h2⟩)
    | row row args => exact Rows.mono h fun v w2 h2 => hm _ _ h2
    | _ => exact h.elim
theorem wpList_fin {P : Program} {ops : Array Oper} {R : Act → World → Prop} {a : Act} {w : World} (h : R a w) : wpList P ops (fun e a' w' => e = .normal ∧ R a' w') [] a w := ⟨rfl, h⟩
section
variable {P : Program} {l : List Oper} {w0 w : World} {own : Nat → Prop} {L : List Item} {d : List Deferred} {Fin : List Slot → Prop} {k : Nat} {o : Oper} {rest : List Oper} {S : List Slot} {bigs preds : List Nat} {D : World → Prop}
/-- The same, with more at hand till the first big operation comes. -/
theorem wp_region_mcd {id : Nat} {Q : Exit → Act → World → Prop} {a : Act} (bigs preds keeps : List Nat) {LD : List Item} (hM : Mem w0 own w LD) (hS : Mem w0 own w L) (hm : P.follows .mixedOrders = true) (hB : ghostB l.toArray a.tmps.size = true)
    (hA : ancB l.toArray (ancs l.toArray) = true) (hG : bigB l.toArray (ancs l.toArray) bigs preds keeps = true)
    (h : GW P l.toArray (MC w0 own L) (MC w0 own LD) SameW AnyB bigs preds a.defers (Done l (MC w0 own L) keeps a.defers Q) 0 l (initS a)) : (Code.region id l.toArray true).wp P Q a w :=
  wp_region_ghost (C := MC w0 own L) (D := MC w0 own LD) (R := SameW) (R' := AnyB) bigs preds keeps hm hB hA hG hS.drew hM.drew (fun w w' _ _ e h => by have e' : w = w' := e; rw [← e']; exact h) quietB.1 quietB.2 h
theorem wp_region_mc {id : Nat} {Q : Exit → Act → World → Prop} {a : Act} (bigs preds keeps : List Nat) (hM : Mem w0 own w L) (hm : P.follows .mixedOrders = true) (hB : ghostB l.toArray a.tmps.size = true)
    (hA : ancB l.toArray (ancs l.toArray) = true) (hG : bigB l.toArray (ancs l.toArray) bigs preds keeps = true)
    (h : GW P l.toArray (MC w0 own L) Any1 SameW AnyB bigs preds a.defers (Done l (MC w0 own L) keeps a.defers Q) 0 l (initS a)) : (Code.region id l.toArray true).wp P Q a w :=
  wp_region_ghost (C := MC w0 own L) (D := Any1) (R := SameW) (R' := AnyB) bigs preds keeps hm hB hA hG hM.drew trivial (fun _ _ _ _ _ h => h) quietB.1 quietB.2 h
theorem gm_move {x : Operand} (ho : o.op = .move x ∨ o.op = .assign x) (hw : slWantsL l S o.guard = some true) {c : Value} (hx : slEval S x = some c) (h : GW P l.toArray (MC w0 own L) D SameW AnyB bigs preds d Fin (k + 1) rest (setD S o.dst (.val c))) : GW P l.toArray (MC w0 own L) D SameW AnyB bigs preds d Fin k (o :: rest) S := gw_move quietB (slWants_of hw) x ho c hx h
theorem gm_pure (hw : slWantsL l S o.guard = some true) (h : ∀ K : Value → Prop, (∀ c, GW P l.toArray (MC w0 own L) D SameW AnyB bigs preds d Fin (k + 1) rest (setD S o.dst (.val c)) → K c) → ∃ c, (∀ γ w, (execOp (slAct S γ d).eval o).run P w = .ok (.value c) w) ∧ K c) : GW P l.toArray (MC w0 own L) D SameW AnyB bigs preds d Fin k (o :: rest) S := gw_pure_ex quietB (slWants_of hw) h
theorem gm_pick {x y z : Operand} (ho : o.op = .pick x y z) (hw : slWantsL l S o.guard = some true) {b : Bool} {u v : Value} (hx : slEval S x = some (.bool b)) (hy : slEval S y = some u) (hz : slEval S z = some v)
    (h : GW P l.toArray (MC w0 own L) D SameW AnyB bigs preds d Fin (k + 1) rest (setD S o.dst (.val (bif b then u else v)))) : GW P l.toArray (MC w0 own L) D SameW AnyB bigs preds d Fin k (o :: rest) S := gw_pick quietB (slWants_of hw) x y z ho b u v hx hy hz h
theorem gm_cmp (b : Bool) {bop : BinOp} {t t' : TypeId} {x y : Operand} (ho : o.op = .binOp bop t x y t') (hw : slWantsL l S o.guard = some true) {kd : IntKind} {m n : Int} (hx : slEval S x = some (.int kd m)) (hy : slEval S y = some (.int kd n)) (hb : cmpB bop m n = some b)
    (h : GW P l.toArray (MC w0 own L) D SameW AnyB bigs preds d Fin (k + 1) rest (setD S o.dst (.val (.bool b)))) : GW P l.toArray (MC w0 own L) D SameW AnyB bigs preds d Fin k (o :: rest) S := gw_cmp quietB (slWants_of hw) bop t t' x y ho kd m n hx hy b hb h
theorem gm_skip (hw : slWantsL l S o.guard = some false) (h : GW P l.toArray (MC w0 own L) D SameW AnyB bigs preds d Fin (k + 1) rest (setD S o.dst (.val undef))) : GW P l.toArray (MC w0 own L) D SameW AnyB bigs preds d Fin k (o :: rest) S := gw_skip (slWants_of hw) h
theorem gm_ld {T : TypeId} {x : Operand} (ho : o.op = .load T x) (hw : slWantsL l S o.guard = some true) {ad : Addr} (hx : slEval S x = some (.pointer (some ad))) {v : Value} (hc : Cell w0 own L ad v) (ht : TySc P T)
    (h : GW P l.toArray (MC w0 own L) D SameW AnyB bigs preds d Fin (k + 1) rest (setD S o.dst (.val v))) : GW P l.toArray (MC w0 own L) D SameW AnyB bigs preds d Fin k (o :: rest) S := by
  obtain ⟨dd, hu, hd⟩ := ht.ex
  exact gw_load1 quietB (slWants_of hw) T x ho ad hx dd hu (by cases dd <;> first | rfl | cases hd) v (fun w hC => hc.out w hC) h
theorem gm_lda {T : TypeId} {x : Operand} (ho : o.op = .load T x) (hw : slWantsL l S o.guard = some true) {g : Nat} (hx : slEval S x = some (.pointer (some ⟨g, 0, none⟩))) {t : TypeId} {cs : Array Value} {n : Nat} (hc : HasBlk L g t cs) (ht : TyAg P T) (hs : TyS P T n) (hn : SzA cs n)
    (h : GW P l.toArray (MC w0 own L) D SameW AnyB bigs preds d Fin (k + 1) rest (setD S o.dst (.val (.agg cs)))) : GW P l.toArray (MC w0 own L) D SameW AnyB bigs preds d Fin k (o :: rest) S := by
  obtain ⟨dd, hu, hd⟩ := ht.ex
  exact gw_load_blk quietB (slWants_of hw) T x ho g t cs hx (fun w hC => Mem.has hC _ hc.out) dd hu (by cases dd <;> first | rfl | cases hd) (by rw [hs.out, hn.out]) h
theorem gm_ldr {T : TypeId} {x : Operand} (ho : o.op = .load T x) (hw : slWantsL l S o.guard = some true) {b of : Nat} (hx : slEval S x = some (.pointer (some ⟨b, of, none⟩))) {vs : List Value} {n : Nat} (hc : Rng w0 own L b of vs) (ht : TyAg P T) (hs : TyS P T n) (hn : SzL vs n)
    (h : GW P l.toArray (MC w0 own L) D SameW AnyB bigs preds d Fin (k + 1) rest (setD S o.dst (.val (.agg vs.toArray)))) : GW P l.toArray (MC w0 own L) D SameW AnyB bigs preds d Fin k (o :: rest) S := by
  obtain ⟨dd, hu, hd⟩ := TyAg.ex (h := ht)
  refine gw_read quietB (slWants_of hw) (.agg vs.toArray) (fun γ w hC => ?_) h
  unfold execOp
  simp only [ho, slEval_spec hx γ, Sem.run_bind, run_loadAt_mid w b of T vs dd (hc.out w hC) hu (by cases dd <;> first | rfl | cases hd) (by rw [hs.out, hn.out]), Result.andThen_ok, Sem.run_pure]
theorem gm_skipU {j : Nat} {want : Bool} {oj : Oper} {t : Nat} (hg : o.guard = some (j, want)) (hj : l[j]? = some oj) (hd : oj.dst = some t) (hs : S[t]? = some (.val undef)) (h : GW P l.toArray (MC w0 own L) D SameW AnyB bigs preds d Fin (k + 1) rest (setD S o.dst (.val undef))) : GW P l.toArray (MC w0 own L) D SameW AnyB bigs preds d Fin k (o :: rest) S :=
  ⟨.val undef, .inl ⟨_, rfl⟩, fun γ w _ _ _ => by
    have hw : Region.wanted o (yielded l.toArray (slAct S γ d).tmps) = false := by
      unfold Region.wanted
      rw [hg]
      unfold yielded
      have e : (l.toArray[j]?).bind (·.dst) = some t := by rw [List.getElem?_toArray, hj]; exact hd
      simp only [e, Option.bind_some]
      rw [slAct_tmp, hs]
      cases want <;> rfl
    rw [if_neg (by rw [hw]; exact Bool.false_ne_true)]
    exact rfl, h⟩
theorem gm_moveP {s : Nat} (ho : o.op = .move (.tmp s) ∨ o.op = .assign (.tmp s)) (hw : slWantsL l S o.guard = some true) (hp : preds.contains k = true) {V : Value → World → Prop} (hs : S[s]? = some (.pred V)) (h : GW P l.toArray (MC w0 own L) D SameW AnyB bigs preds d Fin (k + 1) rest (setD S o.dst (.pred V))) : GW P l.toArray (MC w0 own L) D SameW AnyB bigs preds d Fin k (o :: rest) S :=
  gw_moveP quietB (slWants_of hw) hp s ho V hs (fun v w w' _ _ e hv => e ▸ hv) h
theorem gm_extP {s i : Nat} (ho : o.op = .extract (.tmp s) i) (hw : slWantsL l S o.guard = some true) (hp : preds.contains k = true) {V : Value → World → Prop} (V' : Value → World → Prop) (hs : S[s]? = some (.pred V)) (hV : ∀ v w, V v w → ∃ ts u, v = .tuple ts ∧ ts[i]? = some u ∧ V' u w)
    (h : GW P l.toArray (MC w0 own L) D SameW AnyB bigs preds d Fin (k + 1) rest (setD S o.dst (.pred V'))) : GW P l.toArray (MC w0 own L) D SameW AnyB bigs preds d Fin k (o :: rest) S :=
  gw_any (slWants_of hw) (.pred V') (.inr ⟨by simpa using hp, fun v w w' _ _ e hv => e ▸ hv⟩) (fun γ w hC _ hf => by
    have hv : V (γ s) w := hf s _ (List.mem_append_left _ (List.mem_filterMap.2 ⟨.tmp s, by simp [ho, Op.operands], rfl⟩)) hs
    have he1 : (slAct S γ d).eval (.tmp s) = γ s := by simp [Act.eval, slAct_tmp, hs, Slot.get]
    obtain ⟨ts, u, e, hu, hV'⟩ := hV _ _ hv
    unfold yld execOp
    have hx : (Instr.extract (.tuple ts) i).run P w = .ok u w := by simp [Instr.extract, hu]
    simp only [ho, he1, e, Sem.run_bind, hx, Result.andThen_ok, Sem.run_pure]
    exact ⟨hC, eff_refl quietB k w hC, hV'⟩) h
/-- A call that leaves the world. -/
theorem gm_call {f : FuncId} {xs : Array Operand} {ts : Array TypeId} (ho : o.op = .call { callee := .value (.func f), args := xs, argTypes := ts }) (hw : slWantsL l S o.guard = some true) (hnb : bigs.contains k = false) (args : Array Value) (hx : xs.toList.map (slEval S) = args.toList.map some) (c : Value) (hr : ∀ γ w, (execOp (slAct S γ d).eval o).run P w = .ok (.enter f args) w)
    (hc : ∀ w, Mem w0 own w L → Calls P f args w fun e w' => e = .returned c ∧ w = w') (h : GW P l.toArray (MC w0 own L) D SameW AnyB bigs preds d Fin (k + 1) rest (setD S o.dst (.val c))) : GW P l.toArray (MC w0 own L) D SameW AnyB bigs preds d Fin k (o :: rest) S :=
  gw_call (slWants_of hw) hnb f xs ts ho args hx c hr (fun w hC => (hc w hC).mono fun e w' ⟨he, hg⟩ => ⟨he, by rw [← hg]; exact hC, hg⟩) h
/-- An operation that yields a value and may change what lies behind what is at hand; any rule serves. -/
theorem gm_wpV (c : Value) (hw : slWantsL l S o.guard = some true) (hb : bigs.contains k = true) {t : Nat} (hd : o.dst = some t) (ht : t < S.length)
    (hy : ∀ γ w, Mem w0 own w L → (∀ s V, (o.looksAt l.toArray).contains s = true → S[s]? = some (.pred V) → V (γ s) w) → wpList P l.toArray (fun e a' w' => e = .normal ∧ a'.defers = d ∧ (Mem w0 own w' L ∧ a'.tmps.getD t undef = c)) [o] (slAct S γ d) w)
    (h : GW P l.toArray (MC w0 own L) D SameW AnyB bigs preds d Fin (k + 1) rest (setD S o.dst (.val c))) : GW P l.toArray (MC w0 own L) D SameW AnyB bigs preds d Fin k (o :: rest) S :=
  gw_any (slWants_of hw) (.val c) (.inl ⟨_, rfl⟩) (fun γ w hC _ hV => by
    have h1 := yld_of_wpList (post := fun v w' => Mem w0 own w' L ∧ v = c) (slWants_spec (slWants_of hw) γ) hd (by simpa [slAct, slVals_length] using ht) (hy γ w hC (fun s V hs h => hV s V (by simpa using hs) h))
    refine yld_mono h1 fun v w' h => ⟨h.1, ?_, h.2⟩
    unfold eff
    rw [if_pos hb]
    trivial) h
/-- The same, where a predicate tells of the value, and what is at hand at first is there still. -/
theorem gm_wpD (V' : World → (Nat → Prop) → List Item → Value → World → Prop) {LD : List Item} (hw : slWantsL l S o.guard = some true) (hb : bigs.contains k = true) (hp : preds.contains k = true) (hal : aliveM (ancs l.toArray) bigs k = true) {t : Nat} (hd : o.dst = some t) (ht : t < S.length)
    (hy : ∀ γ w, Mem w0 own w LD → (∀ s V, (o.looksAt l.toArray).contains s = true → S[s]? = some (.pred V) → V (γ s) w) → wpList P l.toArray (fun e a' w' => e = .normal ∧ a'.defers = d ∧ (Mem w0 own w' L ∧ V' w0 own L (a'.tmps.getD t undef) w')) [o] (slAct S γ d) w)
    (h : GW P l.toArray (MC w0 own L) (MC w0 own LD) SameW AnyB bigs preds d Fin (k + 1) rest (setD S o.dst (.pred (V' w0 own L)))) : GW P l.toArray (MC w0 own L) (MC w0 own LD) SameW AnyB bigs preds d Fin k (o :: rest) S :=
  gw_any (slWants_of hw) (.pred (V' w0 own L)) (.inr ⟨by simpa using hp, fun v w w' _ _ e hv => e ▸ hv⟩) (fun γ w hC hD hV => by
    have h1 := yld_of_wpList (post := fun v w' => Mem w0 own w' L ∧ V' w0 own L v w') (slWants_spec (slWants_of hw) γ) hd (by simpa [slAct, slVals_length] using ht) (hy γ w (hD hal) (fun s V hs h => hV s V (by simpa using hs) h))
    refine yld_mono h1 fun v w' h => ⟨h.1, ?_, h.2⟩
    unfold eff
    rw [if_pos hb]
    trivial) h
/-- The same, where a predicate tells of the value. -/
theorem gm_wp (V' : World → (Nat → Prop) → List Item → Value → World → Prop) (hw : slWantsL l S o.guard = some true) (hb : bigs.contains k = true) (hp : preds.contains k = true) {t : Nat} (hd : o.dst = some t) (ht : t < S.length)
    (hy : ∀ γ w, Mem w0 own w L → (∀ s V, (o.looksAt l.toArray).contains s = true → S[s]? = some (.pred V) → V (γ s) w) → wpList P l.toArray (fun e a' w' => e = .normal ∧ a'.defers = d ∧ (Mem w0 own w' L ∧ V' w0 own L (a'.tmps.getD t undef) w')) [o] (slAct S γ d) w)
    (h : GW P l.toArray (MC w0 own L) D SameW AnyB bigs preds d Fin (k + 1) rest (setD S o.dst (.pred (V' w0 own L)))) : GW P l.toArray (MC w0 own L) D SameW AnyB bigs preds d Fin k (o :: rest) S :=
  gw_any (slWants_of hw) (.pred (V' w0 own L)) (.inr ⟨by simpa using hp, fun v w w' _ _ e hv => e ▸ hv⟩) (fun γ w hC _ hV => by
    have h1 := yld_of_wpList (post := fun v w' => Mem w0 own w' L ∧ V' w0 own L v w') (slWants_spec (slWants_of hw) γ) hd (by simpa [slAct, slVals_length] using ht) (hy γ w hC (fun s V hs h => hV s V (by simpa using hs) h))
    refine yld_mono h1 fun v w' h => ⟨h.1, ?_, h.2⟩
    unfold eff
    rw [if_pos hb]
    trivial) h
end
end Go.Proofs.Ytnmnknjgibkkaaa
