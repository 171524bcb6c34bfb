/- Regions in any order: what is at hand, new things that calls lay, and writes to what is one's own. -/
import Derived.Test.YtnmnknjgibkkaaaFresh
namespace Go.Proofs.Ytnmnknjgibkkaaa
open Go.RowKit Go.MapKept
set_option linter.unusedSimpArgs false
set_option linter.unusedVariables false
theorem gw_at {P : Program} {ops : Array Oper} {C D : World → Prop} {R R' : World → World → Prop} {bigs preds : List Nat} {d : List Deferred} {Fin : List Slot → Prop} {rest : List Oper} {S : List Slot} (k : Nat) (h : GW P ops C D R R' bigs preds d Fin k rest S) : GW P ops C D R R' bigs preds d Fin k rest S := h
/-- Operations on values alone. -/
def pureOp : Op → Bool
  | .fieldAddr .. => true
  | .indexAddr .. => true
  | .slice .. => true
  | .convert .. => true
  | .unOp .. => true
  | .binOp .. => true
  | .pick .. => true
  | .extract .. => true
  | .build .. => true
  | .nilCheck .. => true
  | .call c => match c.callee with
    | .builtin .append => false
    | .builtin .copy => false
    | .builtin .delete => false
    | .builtin _ => true
    | _ => false
  | _ => false
theorem gw_isPure {P : Program} {ops : Array Oper} {C D : World → Prop} {R R' : World → World → Prop} {bigs preds : List Nat} {d : List Deferred} {Fin : List Slot → Prop} {k : Nat} {o : Oper} {rest : List Oper} {S : List Slot} (hp : pureOp o.op = true) (h : GW P ops C D R R' bigs preds d Fin k (o :: rest) S) : GW P ops C D R R' bigs preds d Fin k (o :: rest) S := h
theorem quietG {C : World → Prop} : Quiet C Grows AnyB := ⟨fun w _ => Grow.refl w _, fun _ _ => trivial⟩
/-- A row at hand, beside L; what can be read. -/
def RowM (e : TypeId) (size n : Nat) (xs : List Value) (w0 : World) (own : Nat → Prop) (L : List Item) (v : Value) (w : World) : Prop := ∃ A c, v = .slice A n c ∧ Mem w0 own w (.row (.slice A n c) e size n xs :: L)
def ReadM (size n : Nat) (xs : List Value) (w0 : World) (own : Nat → Prop) (L : List Item) (v : Value) (w : World) : Prop := ∃ A c, v = .slice A n c ∧ n ≤ c ∧ Reads w w.heap.size size A n xs
theorem RowM.grow {e : TypeId} {size n : Nat} {xs : List Value} {w0 : World} {own : Nat → Prop} {L : List Item} (v : Value) (w w' : World) (hg : Grow w noOwn w') (h : RowM e size n xs w0 own L v w) : RowM e size n xs w0 own L v w' := by
  obtain ⟨A, c, e1, h1⟩ := h
  exact ⟨A, c, e1, h1.call hg⟩
theorem ReadM.grow {size n : Nat} {xs : List Value} {w0 : World} {own : Nat → Prop} {L : List Item} (v : Value) (w w' : World) (hg : Grow w noOwn w') (h : ReadM size n xs w0 own L v w) : ReadM size n xs w0 own L v w' := by
  obtain ⟨A, c, e1, hc, h1⟩ := h
  exact ⟨A, c, e1, hc, Reads.more (Reads.grow h1 hg (Nat.le_refl _)) hg.size⟩
theorem ReadM.of_row {e : TypeId} {size n c : Nat} {A : Option Addr} {xs : List Value} {w0 w1 w : World} {own own1 : Nat → Prop} {L L1 : List Item} (h : Mem w1 own1 w L1) (i : Nat) (hi : L1[i]? = some (.row (.slice A n c) e size n xs)) : ReadM size n xs w0 own L (.slice A n c) w :=
  ⟨A, c, rfl, by
    have := h.row i hi
    rcases this.2 with ⟨e1, e2⟩ | ⟨g, cap, cur, e1, _, _, h4, _⟩
    · injection e1 with _ e3 e4; omega
    · injection e1 with _ _ e4; omega, Reads.of_own (h.row i hi)⟩
section
variable {P : Program} {l : List Oper} {w0 w : World} {own : Nat → Prop} {L : List Item} {d : List Deferred} {Fin : List Slot → Prop} {k : Nat} {o : Oper} {rest : List Oper} {S : List Slot} {bigs preds : List Nat} {D : World → Prop}
theorem wp_region_mg {id : Nat} {Q : Exit → Act → World → Prop} {a : Act} (bigs preds keeps : List Nat) {LD : List Item} (hM : Mem w0 own w LD) (hS : Mem w0 own w L) (hm : P.follows .mixedOrders = true) (hB : ghostB l.toArray a.tmps.size = true)
    (hA : ancB l.toArray (ancs l.toArray) = true) (hG : bigB l.toArray (ancs l.toArray) bigs preds keeps = true)
    (h : GW P l.toArray (MC w0 own L) (MC w0 own LD) Grows AnyB bigs preds a.defers (Done l (MC w0 own L) keeps a.defers Q) 0 l (initS a)) : (Code.region id l.toArray true).wp P Q a w :=
  wp_region_ghost (C := MC w0 own L) (D := MC w0 own LD) (R := Grows) (R' := AnyB) bigs preds keeps hm hB hA hG hS.drew hM.drew (fun w w' _ _ e h => Mem.call h e) quietG.1 quietG.2 h
theorem gn_moveP {s : Nat} (ho : o.op = .move (.tmp s) ∨ o.op = .assign (.tmp s)) (hw : slWantsL l S o.guard = some true) (hp : preds.contains k = true) {V : Value → World → Prop} (hs : S[s]? = some (.pred V)) (hst : ∀ v w w', Grow w noOwn w' → V v w → V v w') (h : GW P l.toArray (MC w0 own L) D Grows AnyB bigs preds d Fin (k + 1) rest (setD S o.dst (.pred V))) : GW P l.toArray (MC w0 own L) D Grows AnyB bigs preds d Fin k (o :: rest) S :=
  gw_moveP quietG (slWants_of hw) hp s ho V hs (fun v w w' _ _ hg hv => hst v w w' hg hv) h
/-- An operation that lays new things alone; of its value a predicate tells. -/
theorem gn_wpG (V' : World → (Nat → Prop) → List Item → Value → World → Prop) (hst : ∀ v w w', Grow w noOwn w' → V' w0 own L v w → V' w0 own L v w') (hw : slWantsL l S o.guard = some true) (hnb : bigs.contains k = false) (hp : preds.contains k = true) {t : Nat} (hd : o.dst = some t) (ht : t < S.length)
    (hy : ∀ γ w, Mem w0 own w L → (∀ s V, (o.looksAt l.toArray).contains s = true → S[s]? = some (.pred V) → V (γ s) w) → wpList P l.toArray (fun e a' w' => e = .normal ∧ a'.defers = d ∧ (Grow w noOwn w' ∧ V' w0 own L (a'.tmps.getD t undef) w')) [o] (slAct S γ d) w)
    (h : GW P l.toArray (MC w0 own L) D Grows AnyB bigs preds d Fin (k + 1) rest (setD S o.dst (.pred (V' w0 own L)))) : GW P l.toArray (MC w0 own L) D Grows AnyB bigs preds d Fin k (o :: rest) S :=
  gw_any (slWants_of hw) (.pred (V' w0 own L)) (.inr ⟨by simpa using hp, fun v w w' _ _ hg hv => hst v w w' hg hv⟩) (fun γ w hC _ hV => by
    have h1 := yld_of_wpList (post := fun v w' => Grow w noOwn w' ∧ V' w0 own L v w') (slWants_spec (slWants_of hw) γ) hd (by simpa [slAct, slVals_length] using ht) (hy γ w hC (fun s V hs h => hV s V (by simpa using hs) h))
    refine yld_mono h1 fun v w' h => ⟨Mem.call hC h.1, ?_, h.2⟩
    unfold eff
    rw [if_neg (by rw [hnb]; exact Bool.false_ne_true)]
    exact h.1) h
theorem gn_wpGV (c : Value) (hw : slWantsL l S o.guard = some true) (hnb : bigs.contains k = false) {t : Nat} (hd : o.dst = some t) (ht : t < S.length)
    (hy : ∀ γ w, Mem w0 own w L → (∀ s V, (o.looksAt l.toArray).contains s = true → S[s]? = some (.pred V) → V (γ s) w) → wpList P l.toArray (fun e a' w' => e = .normal ∧ a'.defers = d ∧ (Grow w noOwn w' ∧ a'.tmps.getD t undef = c)) [o] (slAct S γ d) w)
    (h : GW P l.toArray (MC w0 own L) D Grows AnyB bigs preds d Fin (k + 1) rest (setD S o.dst (.val c))) : GW P l.toArray (MC w0 own L) D Grows AnyB bigs preds d Fin k (o :: rest) S :=
  gw_any (slWants_of hw) (.val c) (.inl ⟨_, rfl⟩) (fun γ w hC _ hV => by
    have h1 := yld_of_wpList (post := fun v w' => Grow w noOwn w' ∧ v = c) (slWants_spec (slWants_of hw) γ) hd (by simpa [slAct, slVals_length] using ht) (hy γ w hC (fun s V hs h => hV s V (by simpa using hs) h))
    refine yld_mono h1 fun v w' h => ⟨Mem.call hC h.1, ?_, h.2⟩
    unfold eff
    rw [if_neg (by rw [hnb]; exact Bool.false_ne_true)]
    exact h.1) h
/-- An operation that writes what is its own, which the frame does not hold. -/
theorem gn_wpB (V' : World → (Nat → Prop) → List Item → Value → World → Prop) (hst : ∀ v w w', Grow w noOwn w' → V' w0 own L v w → V' w0 own L v w') (hw : slWantsL l S o.guard = some true) (hb : bigs.contains k = true) (hp : preds.contains k = true) {t : Nat} (hd : o.dst = some t) (ht : t < S.length)
    (hy : ∀ γ w, Mem w0 own w L → (∀ s V, (o.looksAt l.toArray).contains s = true → S[s]? = some (.pred V) → V (γ s) w) → wpList P l.toArray (fun e a' w' => e = .normal ∧ a'.defers = d ∧ (Mem w0 own w' L ∧ V' w0 own L (a'.tmps.getD t undef) w')) [o] (slAct S γ d) w)
    (h : GW P l.toArray (MC w0 own L) D Grows AnyB bigs preds d Fin (k + 1) rest (setD S o.dst (.pred (V' w0 own L)))) : GW P l.toArray (MC w0 own L) D Grows AnyB bigs preds d Fin k (o :: rest) S :=
  gw_any (slWants_of hw) (.pred (V' w0 own L)) (.inr ⟨by simpa using hp, fun v w w' _ _ hg hv => hst v w w' hg hv⟩) (fun γ w hC _ hV => by
    have h1 := yld_of_wpList (post := fun v w' => Mem w0 own w' L ∧ V' w0 own L v w') (slWants_spec (slWants_of hw) γ) hd (by simpa [slAct, slVals_length] using ht) (hy γ w hC (fun s V hs h => hV s V (by simpa using hs) h))
    refine yld_mono h1 fun v w' h => ⟨h.1, ?_, h.2⟩
    unfold eff
    rw [if_pos hb]
    trivial) h
theorem gn_wpD (V' : World → (Nat → Prop) → List Item → Value → World → Prop) {LD : List Item} (hst : ∀ v w w', Grow w noOwn w' → V' w0 own L v w → V' w0 own L v w') (hw : slWantsL l S o.guard = some true) (hb : bigs.contains k = true) (hp : preds.contains k = true) (hal : aliveM (ancs l.toArray) bigs k = true) {t : Nat} (hd : o.dst = some t) (ht : t < S.length)
    (hy : ∀ γ w, Mem w0 own w LD → (∀ s V, (o.looksAt l.toArray).contains s = true → S[s]? = some (.pred V) → V (γ s) w) → wpList P l.toArray (fun e a' w' => e = .normal ∧ a'.defers = d ∧ (Mem w0 own w' L ∧ V' w0 own L (a'.tmps.getD t undef) w')) [o] (slAct S γ d) w)
    (h : GW P l.toArray (MC w0 own L) (MC w0 own LD) Grows AnyB bigs preds d Fin (k + 1) rest (setD S o.dst (.pred (V' w0 own L)))) : GW P l.toArray (MC w0 own L) (MC w0 own LD) Grows AnyB bigs preds d Fin k (o :: rest) S :=
  gw_any (slWants_of hw) (.pred (V' w0 own L)) (.inr ⟨by simpa using hp, fun v w w' _ _ hg hv => hst v w w' hg hv⟩) (fun γ w hC hD hV => by
    have h1 := yld_of_wpList (post := fun v w' => Mem w0 own w' L ∧ V' w0 own L v w') (slWants_spec (slWants_of hw) γ) hd (by simpa [slAct, slVals_length] using ht) (hy γ w (hD hal) (fun s V hs h => hV s V (by simpa using hs) h))
    refine yld_mono h1 fun v w' h => ⟨h.1, ?_, h.2⟩
    unfold eff
    rw [if_pos hb]
    trivial) h
theorem gn_move {x : Operand} (ho : o.op = .move x ∨ o.op = .assign x) (hw : slWantsL l S o.guard = some true) {c : Value} (hx : slEval S x = some c) (h : GW P l.toArray (MC w0 own L) D Grows AnyB bigs preds d Fin (k + 1) rest (setD S o.dst (.val c))) : GW P l.toArray (MC w0 own L) D Grows AnyB bigs preds d Fin k (o :: rest) S := gw_move quietG (slWants_of hw) x ho c hx h
theorem gn_pure (hw : slWantsL l S o.guard = some true) (h : ∀ K : Value → Prop, (∀ c, GW P l.toArray (MC w0 own L) D Grows AnyB bigs preds d Fin (k + 1) rest (setD S o.dst (.val c)) → K c) → ∃ c, (∀ γ w, (execOp (slAct S γ d).eval o).run P w = .ok (.value c) w) ∧ K c) : GW P l.toArray (MC w0 own L) D Grows AnyB bigs preds d Fin k (o :: rest) S := gw_pure_ex quietG (slWants_of hw) h
theorem gn_pick {x y z : Operand} (ho : o.op = .pick x y z) (hw : slWantsL l S o.guard = some true) {b : Bool} {u v : Value} (hx : slEval S x = some (.bool b)) (hy : slEval S y = some u) (hz : slEval S z = some v)
    (h : GW P l.toArray (MC w0 own L) D Grows AnyB bigs preds d Fin (k + 1) rest (setD S o.dst (.val (bif b then u else v)))) : GW P l.toArray (MC w0 own L) D Grows AnyB bigs preds d Fin k (o :: rest) S := gw_pick quietG (slWants_of hw) x y z ho b u v hx hy hz h
theorem gn_cmp (b : Bool) {bop : BinOp} {t t' : TypeId} {x y : Operand} (ho : o.op = .binOp bop t x y t') (hw : slWantsL l S o.guard = some true) {kd : IntKind} {m n : Int} (hx : slEval S x = some (.int kd m)) (hy : slEval S y = some (.int kd n)) (hb : cmpB bop m n = some b)
    (h : GW P l.toArray (MC w0 own L) D Grows AnyB bigs preds d Fin (k + 1) rest (setD S o.dst (.val (.bool b)))) : GW P l.toArray (MC w0 own L) D Grows AnyB bigs preds d Fin k (o :: rest) S := gw_cmp quietG (slWants_of hw) bop t t' x y ho kd m n hx hy b hb h
theorem gn_skip (hw : slWantsL l S o.guard = some false) (h : GW P l.toArray (MC w0 own L) D Grows AnyB bigs preds d Fin (k + 1) rest (setD S o.dst (.val undef))) : GW P l.toArray (MC w0 own L) D Grows AnyB bigs preds d Fin k (o :: rest) S := gw_skip (slWants_of hw) h
theorem gn_ld {T : TypeId} {x : Operand} (ho : o.op = .load T x) (hw : slWantsL l S o.guard = some true) {ad : Addr} (hx : slEval S x = some (.pointer (some ad))) {v : Value} (hc : Cell w0 own L ad v) (ht : TySc P T)
    (h : GW P l.toArray (MC w0 own L) D Grows AnyB bigs preds d Fin (k + 1) rest (setD S o.dst (.val v))) : GW P l.toArray (MC w0 own L) D Grows AnyB bigs preds d Fin k (o :: rest) S := by
  obtain ⟨dd, hu, hd⟩ := ht.ex
  exact gw_load1 quietG (slWants_of hw) T x ho ad hx dd hu (by cases dd <;> first | rfl | cases hd) v (fun w hC => hc.out w hC) h
theorem gn_lda {T : TypeId} {x : Operand} (ho : o.op = .load T x) (hw : slWantsL l S o.guard = some true) {g : Nat} (hx : slEval S x = some (.pointer (some ⟨g, 0, none⟩))) {t : TypeId} {cs : Array Value} {n : Nat} (hc : HasBlk L g t cs) (ht : TyAg P T) (hs : TyS P T n) (hn : SzA cs n)
    (h : GW P l.toArray (MC w0 own L) D Grows AnyB bigs preds d Fin (k + 1) rest (setD S o.dst (.val (.agg cs)))) : GW P l.toArray (MC w0 own L) D Grows AnyB bigs preds d Fin k (o :: rest) S := by
  obtain ⟨dd, hu, hd⟩ := ht.ex
  exact gw_load_blk quietG (slWants_of hw) T x ho g t cs hx (fun w hC => Mem.has hC _ hc.out) dd hu (by cases dd <;> first | rfl | cases hd) (by rw [hs.out, hn.out]) h
theorem gn_ldr {T : TypeId} {x : Operand} (ho : o.op = .load T x) (hw : slWantsL l S o.guard = some true) {b of : Nat} (hx : slEval S x = some (.pointer (some ⟨b, of, none⟩))) {vs : List Value} {n : Nat} (hc : Rng w0 own L b of vs) (ht : TyAg P T) (hs : TyS P T n) (hn : SzL vs n)
    (h : GW P l.toArray (MC w0 own L) D Grows AnyB bigs preds d Fin (k + 1) rest (setD S o.dst (.val (.agg vs.toArray)))) : GW P l.toArray (MC w0 own L) D Grows AnyB bigs preds d Fin k (o :: rest) S := by
  obtain ⟨dd, hu, hd⟩ := TyAg.ex (h := ht)
  refine gw_read quietG (slWants_of hw) (.agg vs.toArray) (fun γ w hC => ?_) h
  unfold execOp
  simp only [ho, slEval_spec hx γ, Sem.run_bind, run_loadAt_mid w b of T vs dd (hc.out w hC) hu (by cases dd <;> first | rfl | cases hd) (by rw [hs.out, hn.out]), Result.andThen_ok, Sem.run_pure]
theorem gn_skipU {j : Nat} {want : Bool} {oj : Oper} {t : Nat} (hg : o.guard = some (j, want)) (hj : l[j]? = some oj) (hd : oj.dst = some t) (hs : S[t]? = some (.val undef)) (h : GW P l.toArray (MC w0 own L) D Grows AnyB bigs preds d Fin (k + 1) rest (setD S o.dst (.val undef))) : GW P l.toArray (MC w0 own L) D Grows AnyB bigs preds d Fin k (o :: rest) S :=
  ⟨.val undef, .inl ⟨_, rfl⟩, fun γ w _ _ _ => by
    have hw : Region.wanted o (yielded l.toArray (slAct S γ d).tmps) = false := by
      unfold Region.wanted
      rw [hg]
      unfold yielded
      have e : (l.toArray[j]?).bind (·.dst) = some t := by rw [List.getElem?_toArray, hj]; exact hd
      simp only [e, Option.bind_some]
      rw [slAct_tmp, hs]
      cases want <;> rfl
    rw [if_neg (by rw [hw]; exact Bool.false_ne_true)]
    exact rfl, h⟩
end
end Go.Proofs.Ytnmnknjgibkkaaa
