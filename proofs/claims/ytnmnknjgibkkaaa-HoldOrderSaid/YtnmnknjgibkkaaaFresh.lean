/- Regions that draw: things laid in new blocks, told by predicates; any straight rule serves. -/
import Derived.Test.YtnmnknjgibkkaaaReg
namespace Go.Proofs.Ytnmnknjgibkkaaa
open Go.RowKit Go.MapKept
set_option linter.unusedSimpArgs false
set_option linter.unusedVariables false
/-- A thing in blocks from B on. -/
def Fresh (B : Nat) (x : Item) (w : World) : Prop := x.at_ w ∧ ∀ g, x.foot g → B ≤ g
theorem Fresh.grow {B : Nat} {x : Item} {w w' : World} (h : Fresh B x w) (hg : Grow w noOwn w') : Fresh B x w' := ⟨Item.keep h.1 (fun g e => hg.block g (Item.at_lt h.1 g e) (fun e => e)), h.2⟩
theorem Mem.fresh {w w' : World} {B : Nat} {x : Item} {L : List Item} (h : Mem w noOwn w' L) (hB : B ≤ w.heap.size) (i : Nat) (hi : L[i]? = some x) : Fresh B x w' :=
  ⟨h.at_ i hi, fun g e => by
    rcases h.own_ i hi e with h1 | h1
    · exact h1.elim
    · omega⟩
section
variable {w0 w : World} {own : Nat → Prop} {L : List Item} {B : Nat} {x y : Item}
theorem cm_fresh (h : CM w0 own L B w) (hx : Fresh B x w) : Mem w0 own w (x :: L) := by
  refine ⟨h.1.grow, fun z hz => ?_, List.pairwise_cons.2 ⟨fun z hz g e1 e2 => ?_, h.1.apart⟩, fun z hz g e1 => ?_⟩
  · rcases List.mem_cons.1 hz with rfl | hz
    · exact hx.1
    · exact h.1.has z hz
  · have := hx.2 g e1
    have := h.2.2.2 z hz g e2
    omega
  · rcases List.mem_cons.1 hz with rfl | hz
    · have := hx.2 g e1
      have := h.2.2.1
      exact .inr (by omega)
    · exact h.1.mine z hz g e1
theorem cm_fresh2 (h : CM w0 own L B w) (hx : Fresh B x w) (hy : Fresh B y w) (hne : ∀ g, x.foot g → ¬ y.foot g) : Mem w0 own w (x :: y :: L) := by
  have h1 := cm_fresh h hy
  refine ⟨h1.grow, fun z hz => ?_, List.pairwise_cons.2 ⟨fun z hz g e1 e2 => ?_, h1.apart⟩, fun z hz g e1 => ?_⟩
  · rcases List.mem_cons.1 hz with rfl | hz
    · exact hx.1
    · exact h1.has z hz
  · rcases List.mem_cons.1 hz with rfl | hz
    · exact hne g e1 e2
    · have := hx.2 g e1
      have := h.2.2.2 z hz g e2
      omega
  · rcases List.mem_cons.1 hz with rfl | hz
    · have := hx.2 g e1
      have := h.2.2.1
      exact .inr (by omega)
    · exact h1.mine z hz g e1
/-- A row and a block of another type lie apart. -/
theorem row_apart {v : Value} {e t : TypeId} {size n g : Nat} {xs : List Value} {cs : Array Value} (hr : Item.at_ w (.row v e size n xs)) (hb : Item.at_ w (.blk g t cs)) (hne : e ≠ t) : ∀ i, Item.foot (.row v e size n xs) i → ¬ Item.foot (.blk g t cs) i := by
  intro i h1 h2
  have h2' : g = i := h2
  subst h2'
  have h1' : v.ownBlock = some g := h1
  rcases hr.2 with ⟨rfl, _⟩ | ⟨g', cap, cur, rfl, _, h3, _⟩
  · cases h1'
  · have e1 : g' = g := by simpa [Value.ownBlock] using h1'
    subst e1
    have hb' : w.heap[g']? = some (.cells cs t (0, 0)) := hb
    rw [hb'] at h3
    injection h3 with h3
    injection h3 with _ h4
    exact hne h4.symm
end
/-- A new row; a new block; an aggregate with a new row in it. -/
def FRow (e : TypeId) (size n : Nat) (xs : List Value) (B : Nat) (v : Value) (w : World) : Prop := ∃ A c, v = .slice A n c ∧ Fresh B (.row (.slice A n c) e size n xs) w
def FBlk (t : TypeId) (cs : Array Value) (B : Nat) (v : Value) (w : World) : Prop := ∃ g, v = .pointer (some ⟨g, 0, none⟩) ∧ Fresh B (.blk g t cs) w
def FAgg (e : TypeId) (size n : Nat) (xs : List Value) (f : Option Addr → Nat → Array Value) (B : Nat) (v : Value) (w : World) : Prop := ∃ A c, v = .agg (f A c) ∧ Fresh B (.row (.slice A n c) e size n xs) w
theorem FRow.grow {e : TypeId} {size n : Nat} {xs : List Value} {B : Nat} (v : Value) (w w' : World) (hg : Grow w noOwn w') (h : FRow e size n xs B v w) : FRow e size n xs B v w' := by
  obtain ⟨A, c, e1, h1⟩ := h
  exact ⟨A, c, e1, h1.grow hg⟩
theorem FBlk.grow {t : TypeId} {cs : Array Value} {B : Nat} (v : Value) (w w' : World) (hg : Grow w noOwn w') (h : FBlk t cs B v w) : FBlk t cs B v w' := by
  obtain ⟨A, e1, h1⟩ := h
  exact ⟨A, e1, h1.grow hg⟩
theorem FAgg.grow {e : TypeId} {size n : Nat} {xs : List Value} {f : Option Addr → Nat → Array Value} {B : Nat} (v : Value) (w w' : World) (hg : Grow w noOwn w') (h : FAgg e size n xs f B v w) : FAgg e size n xs f B v w' := by
  obtain ⟨A, c, e1, h1⟩ := h
  exact ⟨A, c, e1, h1.grow hg⟩
section
variable {P : Program} {l : List Oper} {w0 : World} {own : Nat → Prop} {L : List Item} {B : Nat} {D : World → Prop} {bigs preds : List Nat} {d : List Deferred} {Fin : List Slot → Prop} {k : Nat} {o : Oper} {rest : List Oper} {S : List Slot}
/-- An operation that lays new things alone; of its value a predicate tells. -/
theorem gl_wpP (V : Value → World → Prop) (hst : ∀ v w w', Grow w noOwn w' → V v w → V v w') (hw : slWantsL l S o.guard = some true) (hnb : bigs.contains k = false) (hp : preds.contains k = true) {t : Nat} (hd : o.dst = some t) (ht : t < S.length)
    (hy : ∀ γ w, CM w0 own L B w → (∀ s V, (o.looksAt l.toArray).contains s = true → S[s]? = some (.pred V) → V (γ s) w) → wpList P l.toArray (fun e a' w' => e = .normal ∧ a'.defers = d ∧ (Grow w noOwn w' ∧ V (a'.tmps.getD t undef) w')) [o] (slAct S γ d) w)
    (h : GW P l.toArray (CM w0 own L B) D Grows (GrowsB B) bigs preds d Fin (k + 1) rest (setD S o.dst (.pred V))) : GW P l.toArray (CM w0 own L B) D Grows (GrowsB B) bigs preds d Fin k (o :: rest) S :=
  gw_any (slWants_of hw) (.pred V) (.inr ⟨by simpa using hp, fun v w w' _ _ hg hv => hst v w w' hg hv⟩) (fun γ w hC _ hV => by
    have h1 := yld_of_wpList (post := fun v w' => Grow w noOwn w' ∧ V v w') (slWants_spec (slWants_of hw) γ) hd (by simpa [slAct, slVals_length] using ht) (hy γ w hC (fun s V hs h => hV s V (by simpa using hs) h))
    refine yld_mono h1 fun v w' h => ⟨(cm_grow w w' hC h.1).1, ?_, h.2⟩
    unfold eff
    rw [if_neg (by rw [hnb]; exact Bool.false_ne_true)]
    exact h.1) h
theorem gl_wpF (V : Nat → Value → World → Prop) (hst : ∀ v w w', Grow w noOwn w' → V B v w → V B v w') (hw : slWantsL l S o.guard = some true) (hnb : bigs.contains k = false) (hp : preds.contains k = true) {t : Nat} (hd : o.dst = some t) (ht : t < S.length)
    (hy : ∀ γ w, CM w0 own L B w → (∀ s V, (o.looksAt l.toArray).contains s = true → S[s]? = some (.pred V) → V (γ s) w) → wpList P l.toArray (fun e a' w' => e = .normal ∧ a'.defers = d ∧ (Grow w noOwn w' ∧ V B (a'.tmps.getD t undef) w')) [o] (slAct S γ d) w)
    (h : GW P l.toArray (CM w0 own L B) D Grows (GrowsB B) bigs preds d Fin (k + 1) rest (setD S o.dst (.pred (V B)))) : GW P l.toArray (CM w0 own L B) D Grows (GrowsB B) bigs preds d Fin k (o :: rest) S :=
  gl_wpP (V B) hst hw hnb hp hd ht hy h
/-- The same, its value known. -/
theorem gl_wpV (c : Value) (hw : slWantsL l S o.guard = some true) (hnb : bigs.contains k = false) {t : Nat} (hd : o.dst = some t) (ht : t < S.length)
    (hy : ∀ γ w, CM w0 own L B w → (∀ s V, (o.looksAt l.toArray).contains s = true → S[s]? = some (.pred V) → V (γ s) w) → wpList P l.toArray (fun e a' w' => e = .normal ∧ a'.defers = d ∧ (Grow w noOwn w' ∧ a'.tmps.getD t undef = c)) [o] (slAct S γ d) w)
    (h : GW P l.toArray (CM w0 own L B) D Grows (GrowsB B) bigs preds d Fin (k + 1) rest (setD S o.dst (.val c))) : GW P l.toArray (CM w0 own L B) D Grows (GrowsB B) bigs preds d Fin k (o :: rest) S :=
  gw_any (slWants_of hw) (.val c) (.inl ⟨_, rfl⟩) (fun γ w hC _ hV => by
    have h1 := yld_of_wpList (post := fun v w' => Grow w noOwn w' ∧ v = c) (slWants_spec (slWants_of hw) γ) hd (by simpa [slAct, slVals_length] using ht) (hy γ w hC (fun s V hs h => hV s V (by simpa using hs) h))
    refine yld_mono h1 fun v w' h => ⟨(cm_grow w w' hC h.1).1, ?_, h.2⟩
    unfold eff
    rw [if_neg (by rw [hnb]; exact Bool.false_ne_true)]
    exact h.1) h
theorem gl_moveP {s : Nat} (ho : o.op = .move (.tmp s) ∨ o.op = .assign (.tmp s)) (hw : slWantsL l S o.guard = some true) (hp : preds.contains k = true) {V : Value → World → Prop} (hs : S[s]? = some (.pred V)) (hst : ∀ v w w', Grow w noOwn w' → V v w → V v w') (h : GW P l.toArray (CM w0 own L B) D Grows (GrowsB B) bigs preds d Fin (k + 1) rest (setD S o.dst (.pred V))) : GW P l.toArray (CM w0 own L B) D Grows (GrowsB B) bigs preds d Fin k (o :: rest) S :=
  gw_moveP cm_quiet (slWants_of hw) hp s ho V hs (fun v w w' _ _ hg hv => hst v w w' hg hv) h
theorem gl_extP {s i : Nat} (ho : o.op = .extract (.tmp s) i) (hw : slWantsL l S o.guard = some true) (hp : preds.contains k = true) {V : Value → World → Prop} (V' : Value → World → Prop) (hst : ∀ v w w', Grow w noOwn w' → V' v w → V' v w') (hs : S[s]? = some (.pred V)) (hV : ∀ v w, V v w → ∃ ts u, v = .tuple ts ∧ ts[i]? = some u ∧ V' u w)
    (h : GW P l.toArray (CM w0 own L B) D Grows (GrowsB B) bigs preds d Fin (k + 1) rest (setD S o.dst (.pred V'))) : GW P l.toArray (CM w0 own L B) D Grows (GrowsB B) bigs preds d Fin k (o :: rest) S :=
  gw_any (slWants_of hw) (.pred V') (.inr ⟨by simpa using hp, fun v w w' _ _ hg hv => hst v w w' hg hv⟩) (fun γ w hC _ hf => by
    have hv : V (γ s) w := hf s _ (List.mem_append_left _ (List.mem_filterMap.2 ⟨.tmp s, by simp [ho, Op.operands], rfl⟩)) hs
    have he1 : (slAct S γ d).eval (.tmp s) = γ s := by simp [Act.eval, slAct_tmp, hs, Slot.get]
    obtain ⟨ts, u, e, hu, hV'⟩ := hV _ _ hv
    unfold yld execOp
    have hx : (Instr.extract (.tuple ts) i).run P w = .ok u w := by simp [Instr.extract, hu]
    simp only [ho, he1, e, Sem.run_bind, hx, Result.andThen_ok, Sem.run_pure]
    exact ⟨hC, eff_refl cm_quiet k w hC, hV'⟩) h
/-- The value's part is known, though the value is not. -/
theorem gl_extV {s i : Nat} (ho : o.op = .extract (.tmp s) i) (hw : slWantsL l S o.guard = some true) {V : Value → World → Prop} (c : Value) (hs : S[s]? = some (.pred V)) (hV : ∀ v w, V v w → ∃ ts, v = .tuple ts ∧ ts[i]? = some c)
    (h : GW P l.toArray (CM w0 own L B) D Grows (GrowsB B) bigs preds d Fin (k + 1) rest (setD S o.dst (.val c))) : GW P l.toArray (CM w0 own L B) D Grows (GrowsB B) bigs preds d Fin k (o :: rest) S :=
  gw_any (slWants_of hw) (.val c) (.inl ⟨_, rfl⟩) (fun γ w hC _ hf => by
    have hv : V (γ s) w := hf s _ (List.mem_append_left _ (List.mem_filterMap.2 ⟨.tmp s, by simp [ho, Op.operands], rfl⟩)) hs
    have he1 : (slAct S γ d).eval (.tmp s) = γ s := by simp [Act.eval, slAct_tmp, hs, Slot.get]
    obtain ⟨ts, e, hu⟩ := hV _ _ hv
    unfold yld execOp
    have hx : (Instr.extract (.tuple ts) i).run P w = .ok c w := by simp [Instr.extract, hu]
    simp only [ho, he1, e, Sem.run_bind, hx, Result.andThen_ok, Sem.run_pure]
    exact ⟨hC, eff_refl cm_quiet k w hC, rfl⟩) h
end
section
variable {P : Program} {T0 : List Value} {d0 : List Deferred} {o : Oper} {w w0 : World} {own : Nat → Prop} {L L' : List Item} {Q : Exit → Act → World → Prop}
/-- A whole block is stored, at a region's end. -/
theorem wp_staL {K : Act → World → Prop} {T : TypeId} {x y : Operand} (ho : o.op = .store T x y) (hM : Mem w0 own w L) {g : Nat} (hx : ev T0 x = some (.pointer (some ⟨g, 0, none⟩))) {cs : Array Value} (hy : ev T0 y = some (.agg cs)) (h1 : cs.all (·.oneCell') = true) {n : Nat} (hs : TyS P T n) (hn : SzA cs n) (hp : PutAll L g n cs L')
    (h : ∀ w', Mem w0 own w' L' → K ⟨(putT T0 o.dst undef).toArray, d0⟩ w') : o.wp P ⟨T0.toArray, d0⟩ w K Q := by
  obtain ⟨i, t, old, hi, hsz, rfl⟩ := hp.out
  refine wp_store_row T x y ho g cs (ev_of hx) (ev_of hy) t old (hM.blk i hi) (by rw [hs.out, hn.out]) (by rw [hsz, hn.out]) h1 ?_
  rw [put_of]
  exact h _ (hM.setRow i hi cs)
end
end Go.Proofs.Ytnmnknjgibkkaaa
