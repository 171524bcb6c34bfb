/- The walk of Ghost, operation by operation. -/
import Derived.Test.YtnmnknjgibkkaaaGhost
import Derived.Test.YtnmnknjgibkkaaaApp
import Derived.BigQuiet
import Derived.IntWalk
namespace Go.Proofs.Ytnmnknjgibkkaaa

def cmpB (bop : BinOp) (m n : Int) : Option Bool := match bop with
  | .eql => some (decide (m = n))
  | .neq => some (decide (m ≠ n))
  | .lss => some (decide (m < n))
  | .leq => some (decide (m ≤ n))
  | .gtr => some (decide (m > n))
  | .geq => some (decide (m ≥ n))
  | _ => none
theorem run_cmp {P : Program} {ρ : Operand → Value} {o : Oper} {bop : BinOp} {t t' : TypeId} {x y : Operand} {kd : IntKind} {m n : Int} {b : Bool} (ho : o.op = .binOp bop t x y t') (hx : ρ x = .int kd m) (hy : ρ y = .int kd n) (hb : cmpB bop m n = some b) (w : World) :
    (execOp ρ o).run P w = .ok (.value (.bool b)) w := by
  unfold execOp
  simp only [ho, hx, hy]
  cases bop <;> simp only [cmpB] at hb <;> first | (cases hb; done) | (injection hb with hb; subst hb; simp [binOp, Op.intCmp, eqGuard, bne]; try rfl)
/-- An operand's value, where it is known. -/
def slEval (S : List Slot) : Operand → Option Value
  | .tmp t => match S[t]? with
    | some (.val c) => some c
    | _ => none
  | .const v => some v
  | .global g => some (.pointer (some ⟨g, 0, none⟩))
  | .func f => some (.func (.func f) #[] #[])
def slWants (ops : Array Oper) (S : List Slot) (o : Oper) : Option Bool := match o.guard with
  | none => some true
  | some (j, want) => match (ops[j]?).bind (·.dst) with
    | some t => match S[t]? with
      | some (.val (.bool b)) => some (b == want)
      | _ => none
    | none => none

theorem foldl_sets : ∀ (vs : List Value) (k : Nat) (cs : Array Value), k + vs.length = cs.size → (vs.zipIdx k).foldl (fun cs (p : Value × Nat) => cs.setIfInBounds p.2 p.1) cs = (cs.toList.take k ++ vs).toArray
  | [], k, cs, h => by
    simp at h
    subst h
    rw [List.take_of_length_le (by simp)]
    simp
  | v :: vs, k, cs, h => by
    simp only [List.length_cons] at h
    rw [List.zipIdx_cons, List.foldl_cons, foldl_sets vs (k + 1) _ (by simp; omega)]
    congr 1
    rw [Array.toList_setIfInBounds, List.take_set, List.take_succ_eq_append_getElem (by simp; omega), List.set_append_right _ _ (by simp; omega)]
    simp
    rw [Nat.min_eq_left (by omega)]
    simp
theorem slCells_one (z : Value) (size : Nat) (v : Value) (h : v.cells.size = size) : slCells z size 1 [(0, v)] = some v.cells.toList.toArray := by
  unfold slCells
  simp only [Instr.fill, Nat.zero_mul, Nat.zero_add, h]
  rw [if_neg (by simp)]
  congr 1
  have := foldl_sets v.cells.toList 0 ((Array.range (1 * size)).map (fun i => (if 1 * size = 0 then #[] else z.cells)[i % (if 1 * size = 0 then #[] else z.cells).size]!)) (by simp [h])
  simp only [List.take_zero, List.nil_append] at this
  rw [← this, ← Array.foldl_toList]
  congr 1
  · exact (by simp)
/-- A call of a Go function, its arguments known. -/
theorem run_callOp {P : Program} {ρ : Operand → Value} {o : Oper} {f : FuncId} {xs : Array Operand} {ts : Array TypeId} (ho : o.op = .call { callee := .value (.func f), args := xs, argTypes := ts }) (hρ : ρ (.func f) = .func (.func f) #[] #[]) {args : Array Value} (hx : xs.map ρ = args) (w : World) :
    (execOp ρ o).run P w = (callFunc f args).run P w := by
  unfold execOp
  simp only [ho, resolve, hρ, hx, Deferred.ofValue, invoke, Sem.run_bind, Sem.run_pure, Result.andThen_ok]
  simp
theorem run_callFunc {P : Program} {f : FuncId} {fn : Func} (hf : P.funcs[f]? = some fn) (hn : (fn.name == "runtime.NumGoroutine") = false) (hb : fn.body.isNone = false) (args : Array Value) (w : World) :
    (callFunc f args).run P w = .ok (.enter f args) w := by
  unfold callFunc
  have hn' : ¬ fn.name = "runtime.NumGoroutine" := by simpa using hn
  have hb' : ¬ fn.body = none := by intro e; rw [e] at hb; cases hb
  simp [program, Sem.run, hf, hn', hb']
section
variable {P : Program} {ops : Array Oper} {C D : World → Prop} {R R' : World → World → Prop} {bigs preds : List Nat} {d : List Deferred} {Fin : List Slot → Prop} {k : Nat} {o : Oper} {rest : List Oper} {S : List Slot} {x' : Operand}

theorem slAct_tmp (γ : Nat → Value) (t : Nat) : (slAct S γ d).tmps[t]? = S[t]?.map fun s => s.get (γ t) := by
  unfold slAct
  rw [List.getElem?_toArray, slVals_get]
  simp
theorem slEval_spec {x : Operand} {c : Value} (h : slEval S x = some c) (γ : Nat → Value) : (slAct S γ d).eval x = c := by
  cases x with
  | tmp t =>
    unfold slEval at h
    simp only at h
    split at h
    · rename_i c' hc
      obtain rfl := Option.some.inj h
      simp [Act.eval, slAct_tmp, hc, Slot.get]
    · cases h
  | const v => exact Option.some.inj h
  | global g => exact Option.some.inj h
  | func f => exact Option.some.inj h
theorem slWants_spec {b : Bool} (h : slWants ops S o = some b) (γ : Nat → Value) : Region.wanted o (yielded ops (slAct S γ d).tmps) = b := by
  unfold slWants at h
  unfold Region.wanted
  cases hg : o.guard with
  | none => rw [hg] at h; simpa using h
  | some gw =>
    obtain ⟨j, want⟩ := gw
    rw [hg] at h
    simp only at h ⊢
    cases ht : (ops[j]?).bind (·.dst) with
    | none => rw [ht] at h; cases h
    | some t =>
      rw [ht] at h
      simp only at h
      split at h
      · rename_i b' hb
        obtain rfl := Option.some.inj h
        unfold yielded
        rw [ht]
        simp only [Option.bind_some]
        rw [slAct_tmp, hb]
        simp only [Option.map_some, Slot.get]
        cases b' <;> cases want <;> rfl
      · cases h

abbrev Quiet (C : World → Prop) (R R' : World → World → Prop) : Prop := (∀ w, C w → R w w) ∧ (∀ w, C w → R' w w)
theorem eff_refl (hq : Quiet C R R') (i : Nat) (w : World) (h : C w) : eff R R' bigs i w w := by
  unfold eff
  split
  · exact hq.2 w h
  · exact hq.1 w h

/-- An operation that is passed over. -/
theorem gw_skip (hw : slWants ops S o = some false) (h : GW P ops C D R R' bigs preds d Fin (k + 1) rest (setD S o.dst (.val undef))) : GW P ops C D R R' bigs preds d Fin k (o :: rest) S :=
  ⟨.val undef, .inl ⟨_, rfl⟩, fun γ w _ _ _ => by rw [if_neg (by rw [slWants_spec hw]; exact Bool.false_ne_true)]; exact rfl, h⟩
/-- Whatever operation: its slot's knowledge given. -/
theorem gw_any (hw : slWants ops S o = some true) (s : Slot) (hk : Keeps C R preds k s)
    (hy : ∀ γ w, C w → (aliveM (ancs ops) bigs k = true → D w) → (∀ t V, t ∈ o.looksAt ops → S[t]? = some (.pred V) → V (γ t) w) → yld P o (slAct S γ d).eval w (fun v w' => C w' ∧ eff R R' bigs k w w' ∧ s.fits v w'))
    (h : GW P ops C D R R' bigs preds d Fin (k + 1) rest (setD S o.dst s)) : GW P ops C D R R' bigs preds d Fin k (o :: rest) S :=
  ⟨s, hk, fun γ w hC hD hf => by rw [if_pos (slWants_spec hw γ)]; exact hy γ w hC hD hf, h⟩
/-- An operation that yields one value and leaves the world. -/
theorem gw_read (hq : Quiet C R R') (hw : slWants ops S o = some true) (c : Value) (hr : ∀ γ w, C w → (execOp (slAct S γ d).eval o).run P w = .ok (.value c) w) (h : GW P ops C D R R' bigs preds d Fin (k + 1) rest (setD S o.dst (.val c))) : GW P ops C D R R' bigs preds d Fin k (o :: rest) S :=
  gw_any hw (.val c) (.inl ⟨_, rfl⟩) (fun γ w hC _ _ => by unfold yld; rw [hr γ w hC]; exact ⟨hC, eff_refl hq k w hC, rfl⟩) h
/-- The same, where what lies at hand till a big operation comes is known. -/
theorem gw_readD (hq : Quiet C R R') (hw : slWants ops S o = some true) (hal : aliveM (ancs ops) bigs k = true) (c : Value) (hr : ∀ γ w, C w → D w → (execOp (slAct S γ d).eval o).run P w = .ok (.value c) w) (h : GW P ops C D R R' bigs preds d Fin (k + 1) rest (setD S o.dst (.val c))) : GW P ops C D R R' bigs preds d Fin k (o :: rest) S :=
  gw_any hw (.val c) (.inl ⟨_, rfl⟩) (fun γ w hC hD _ => by unfold yld; rw [hr γ w hC (hD hal)]; exact ⟨hC, eff_refl hq k w hC, rfl⟩) h
theorem gw_pure_ex (hq : Quiet C R R') (hw : slWants ops S o = some true) (h : ∀ K : Value → Prop, (∀ c, GW P ops C D R R' bigs preds d Fin (k + 1) rest (setD S o.dst (.val c)) → K c) → ∃ c, (∀ γ w, (execOp (slAct S γ d).eval o).run P w = .ok (.value c) w) ∧ K c) : GW P ops C D R R' bigs preds d Fin k (o :: rest) S := by
  obtain ⟨c, h1, h2⟩ := h (fun c => GW P ops C D R R' bigs preds d Fin (k + 1) rest (setD S o.dst (.val c))) (fun _ h => h)
  exact gw_read hq hw c (fun γ w _ => h1 γ w) h2
theorem gw_move (hq : Quiet C R R') (hw : slWants ops S o = some true) (x : Operand) (ho : o.op = .move x ∨ o.op = .assign x) (c : Value) (hx : slEval S x = some c) (h : GW P ops C D R R' bigs preds d Fin (k + 1) rest (setD S o.dst (.val c))) : GW P ops C D R R' bigs preds d Fin k (o :: rest) S :=
  gw_read hq hw c (fun γ w _ => by
    unfold execOp
    rcases ho with ho | ho <;> simp [ho, slEval_spec hx γ]) h
theorem gw_pick (hq : Quiet C R R') (hw : slWants ops S o = some true) (x y z : Operand) (ho : o.op = .pick x y z) (b : Bool) (u v : Value) (hx : slEval S x = some (.bool b)) (hy : slEval S y = some u) (hz : slEval S z = some v)
    (h : GW P ops C D R R' bigs preds d Fin (k + 1) rest (setD S o.dst (.val (bif b then u else v)))) : GW P ops C D R R' bigs preds d Fin k (o :: rest) S :=
  gw_read hq hw _ (fun γ w _ => by
    unfold execOp
    cases b <;> simp [ho, slEval_spec hx γ, slEval_spec hy γ, slEval_spec hz γ, asBool]) h
/-- A comparison of two integers, its answer given. -/
theorem gw_cmp (hq : Quiet C R R') (hw : slWants ops S o = some true) (bop : BinOp) (t t' : TypeId) (x y : Operand) (ho : o.op = .binOp bop t x y t') (kd : IntKind) (m n : Int) (hx : slEval S x = some (.int kd m)) (hy : slEval S y = some (.int kd n)) (b : Bool) (hb : cmpB bop m n = some b)
    (h : GW P ops C D R R' bigs preds d Fin (k + 1) rest (setD S o.dst (.val (.bool b)))) : GW P ops C D R R' bigs preds d Fin k (o :: rest) S :=
  gw_read hq hw _ (fun γ w _ => run_cmp ho (slEval_spec hx γ) (slEval_spec hy γ) hb w) h
/-- A call of a Go function whose arguments are known: its result is one value. -/
theorem gw_call (hw : slWants ops S o = some true) (hnb : bigs.contains k = false) (f : FuncId) (xs : Array Operand) (ts : Array TypeId) (_ho : o.op = .call { callee := .value (.func f), args := xs, argTypes := ts }) (args : Array Value) (_hx : xs.toList.map (slEval S) = args.toList.map some) (c : Value) (hr : ∀ γ w, (execOp (slAct S γ d).eval o).run P w = .ok (.enter f args) w)
    (hc : ∀ w, C w → Calls P f args w fun e w' => e = .returned c ∧ C w' ∧ R w w') (h : GW P ops C D R R' bigs preds d Fin (k + 1) rest (setD S o.dst (.val c))) : GW P ops C D R R' bigs preds d Fin k (o :: rest) S :=
  gw_any hw (.val c) (.inl ⟨_, rfl⟩) (fun γ w hC _ _ => by
    unfold yld
    rw [hr γ w]
    refine (hc w hC).mono fun e w' ⟨he, h1, h2⟩ => ⟨c, he, h1, ?_, rfl⟩
    unfold eff
    rw [if_neg (by rw [hnb]; exact Bool.false_ne_true)]
    exact h2) h
theorem gw_load_blk (hq : Quiet C R R') (hw : slWants ops S o = some true) (ty : TypeId) (x : Operand) (ho : o.op = .load ty x) (g : Nat) (t : TypeId) (cs : Array Value) (hx : slEval S x = some (.pointer (some ⟨g, 0, none⟩))) (hb : ∀ w, C w → Blk w g t cs) (dd : TypeDesc)
    (hu : P.underlying ty = some dd) (hd : (match dd with | .struct _ | .array _ _ => true | _ => false) = true) (hs : (P.info? ty).map (·.size) = some cs.size)
    (h : GW P ops C D R R' bigs preds d Fin (k + 1) rest (setD S o.dst (.val (.agg cs)))) : GW P ops C D R R' bigs preds d Fin k (o :: rest) S :=
  gw_read hq hw _ (fun γ w hC => by
    unfold execOp
    simp only [ho, slEval_spec hx γ, Instr.loadAt, Instr.sureAddr, Sem.run_bind, Sem.run_pure, Result.andThen_ok, run_loadVar_row w g t ty cs (0, 0) dd (hb w hC) hu hd hs]) h
/-- A row that lies in blocks from B on. -/
def RowFrom (B : Nat) (e : TypeId) (size n : Nat) (xs : List Value) (v : Value) (w : World) : Prop := w.ownsRow B e size v n xs
theorem RowFrom.grow {B : Nat} {e : TypeId} {size n : Nat} {xs : List Value} {v : Value} {w w' : World} (h : RowFrom B e size n xs v w) (hg : Grow w noOwn w') : RowFrom B e size n xs v w' := by
  refine ⟨h.1, ?_⟩
  rcases h.2 with h2 | ⟨g, cap, cur, h1, h2, h3, h4⟩
  · exact .inl h2
  · have hlt : g < w.heap.size := (Array.getElem?_eq_some_iff.1 h3).1
    exact .inr ⟨g, cap, cur, h1, h2, (hg.block g hlt (fun e => e)).trans h3, h4⟩
theorem RowFrom.slice {B : Nat} {e : TypeId} {size n : Nat} {xs : List Value} {v : Value} {w : World} (h : RowFrom B e size n xs v w) : ∃ A c, v = .slice A n c ∧ n ≤ c ∧ Reads w w.heap.size size A n xs := by
  rcases h.2 with ⟨rfl, hn⟩ | ⟨g, cap, cur, rfl, _, _, h1, _⟩
  · have hx := h.1
    subst hn
    simp at hx
    subst hx
    exact ⟨none, 0, rfl, Nat.le_refl _, Reads.none_⟩
  · exact ⟨_, cap, rfl, h1, Reads.of_own h⟩
theorem gw_row0 (B size : Nat) (hw : slWants ops S o = some true) (hnb : bigs.contains k = false) (hp : preds.contains k = true) (hCB : ∀ w, C w → B ≤ w.heap.size) (hCR : ∀ w w', C w → Grow w noOwn w' → C w' ∧ R w w') (hRG : ∀ w w', R w w' → Grow w noOwn w')
    (t e : TypeId) (ho : o.op = .buildSlice t 0 #[]) (ht : P.underlying t = some (.slice e)) (z : Value) (bytes : Nat) (hz : Row3 P e z size bytes)
    (h : GW P ops C D R R' bigs preds d Fin (k + 1) rest (setD S o.dst (.pred (RowFrom B e size 0 [])))) : GW P ops C D R R' bigs preds d Fin k (o :: rest) S :=
  gw_any hw (.pred (RowFrom B e size 0 [])) (.inr ⟨by simpa using hp, fun v w w' _ _ hR hv => RowFrom.grow (show RowFrom B e size 0 [] v w from hv) (hRG _ _ hR)⟩) (fun γ w hC _ _ => by
    unfold yld
    rw [run_buildSlice_row (P := P) (w := w) (slAct S γ d).eval t 0 #[] ho e ht z size bytes hz (by omega) [] (by simp [slCells, Instr.fill])]
    have hg : Grow w noOwn (w.alloc (.cells [].toArray e)) := (Grow.refl w _).alloc _
    refine ⟨(hCR _ _ hC hg).1, ?_, ?_⟩
    · unfold eff
      rw [if_neg (by rw [hnb]; exact Bool.false_ne_true)]
      exact (hCR _ _ hC hg).2
    · exact ⟨by simp, .inr ⟨w.heap.size, 0, #[], rfl, hCB w hC, heap_alloc_new w _, Nat.le_refl _, Nat.zero_le _, by simp, by simp⟩⟩) h
/-- append onto a row of which the predicate tells: it lies in blocks from B on. -/
theorem gw_append (B size : Nat) (hw : slWants ops S o = some true) (hb : bigs.contains k = true) (hp : preds.contains k = true) (hCB : ∀ w, C w → B ≤ w.heap.size) (hCR : ∀ w w', C w → Grow w (fun i => B ≤ i) w' → C w' ∧ R' w w') (hRG : ∀ w w', R w w' → Grow w noOwn w')
    (s : Nat) (ty : TypeId) (ho : o.op = .call { callee := .builtin .append, args := #[.tmp s, x'], argTypes := #[ty, ty] })
    (e : TypeId) (n : Nat) (xs : List Value) (hs : S[s]? = some (.pred (RowFrom B e size n xs))) (A : Option Addr) (m c : Nat) (hx : slEval S x' = some (.slice A m c)) (news : List Value) (hr : ∀ w, C w → Reads w w.heap.size size A m news) (h1 : ∀ u ∈ news, u.oneCell' = true)
    (ht : P.underlying ty = some (.slice e)) (z : Value) (bytes : Nat) (hz : Row3 P e z size bytes) (hzs : z.cells.size = size) (hsz : 0 < size) (h63 : n + m ≤ maxLen) (hbytes : (n + m) * bytes ≤ 140737488355328)
    (h : GW P ops C D R R' bigs preds d Fin (k + 1) rest (setD S o.dst (.pred (RowFrom B e size (n + m) (xs ++ news))))) : GW P ops C D R R' bigs preds d Fin k (o :: rest) S :=
  gw_any hw (.pred (RowFrom B e size (n + m) (xs ++ news))) (.inr ⟨by simpa using hp, fun v w w' _ _ hR hv => RowFrom.grow (show RowFrom B e size (n + m) (xs ++ news) v w from hv) (hRG _ _ hR)⟩) (fun γ w hC _ hV => by
    have hv : RowFrom B e size n xs (γ s) w := hV s _ (List.mem_append_left _ (List.mem_filterMap.2 ⟨.tmp s, by simp [ho, Op.operands, Call.operands], rfl⟩)) hs
    obtain ⟨ti, hti, hz0, hz1, hz2⟩ := info_parts hz
    obtain ⟨v', w', hrun, h2, h3, h4⟩ := run_append_any (P := P) w B ty o.type e ti z size bytes ht hti hz0 hz1 hz2 hzs hsz (γ s) n xs hv w.heap.size A m c news (hr w hC) h1 h63 hbytes (hCB w hC)
    have he1 : (slAct S γ d).eval (.tmp s) = γ s := by simp [Act.eval, slAct_tmp, hs, Slot.get]
    have hg : Grow w (fun i => B ≤ i) w' := (Grow.of_grownBy h3).mono (fun i hi e' => by
      rcases hv.2 with ⟨e2, _⟩ | ⟨g, cap, cur, e2, h5, _⟩
      · rw [e2] at e'; cases e'
      · rw [e2] at e'; simp [Value.ownBlock] at e'; omega)
    unfold yld execOp
    simp only [ho, resolve, invoke, builtin, Sem.run_bind, Sem.run_pure, Result.andThen_ok, List.map_toArray, List.map_cons, List.map_nil, he1, slEval_spec hx γ, hrun]
    refine ⟨(hCR _ _ hC hg).1, ?_, h2⟩
    unfold eff
    rw [if_pos hb]
    exact (hCR _ _ hC hg).2) h
/-- A call one of whose arguments is a row of which the predicate tells; its result is one value. -/
theorem gw_call_row (B size : Nat) (hw : slWants ops S o = some true) (hnb : bigs.contains k = false) (f : FuncId) (s : Nat) (ts : Array TypeId) (ho : o.op = .call { callee := .value (.func f), args := #[.tmp s], argTypes := ts })
    (e : TypeId) (n : Nat) (xs : List Value) (hs : S[s]? = some (.pred (RowFrom B e size n xs))) (c : Value) (hr : ∀ v w, (callFunc f #[v]).run P w = .ok (.enter f #[v]) w)
    (hc : ∀ v w, C w → RowFrom B e size n xs v w → Calls P f #[v] w fun e w' => e = .returned c ∧ C w' ∧ R w w') (h : GW P ops C D R R' bigs preds d Fin (k + 1) rest (setD S o.dst (.val c))) : GW P ops C D R R' bigs preds d Fin k (o :: rest) S :=
  gw_any hw (.val c) (.inl ⟨_, rfl⟩) (fun γ w hC _ hV => by
    have hv : RowFrom B e size n xs (γ s) w := hV s _ (List.mem_append_left _ (List.mem_filterMap.2 ⟨.tmp s, by simp [ho, Op.operands, Call.operands], rfl⟩)) hs
    have he1 : (slAct S γ d).eval (.tmp s) = γ s := by simp [Act.eval, slAct_tmp, hs, Slot.get]
    have hrun : (execOp (slAct S γ d).eval o).run P w = .ok (.enter f #[γ s]) w := by
      exact (run_callOp ho rfl (by simp [he1]) w).trans (hr (γ s) w)
    unfold yld
    rw [hrun]
    refine (hc _ w hC hv).mono fun e w' ⟨he, h1, h2⟩ => ⟨c, he, h1, ?_, rfl⟩
    unfold eff
    rw [if_neg (by rw [hnb]; exact Bool.false_ne_true)]
    exact h2) h
theorem run_load1 {P : Program} {w : World} {ty : TypeId} {ad : Addr} {v : Value} (dd : TypeDesc) (hu : P.underlying ty = some dd) (hd : (match dd with | .struct _ | .array _ _ => false | _ => true) = true) (hc : w.cell? ad = some v) : (loadVar ty ad).run P w = .ok v w := by
  cases dd <;> first | (simp at hd; done) | simp [loadVar, isAgg, run_underlying hu, load, Sem.run, hc]
/-- A load of one cell, known in every world that comes. -/
theorem gw_load1 (hq : Quiet C R R') (hw : slWants ops S o = some true) (ty : TypeId) (x : Operand) (ho : o.op = .load ty x) (ad : Addr) (hx : slEval S x = some (.pointer (some ad))) (dd : TypeDesc) (hu : P.underlying ty = some dd) (hd : (match dd with | .struct _ | .array _ _ => false | _ => true) = true)
    (v : Value) (hc : ∀ w, C w → w.cell? ad = some v) (h : GW P ops C D R R' bigs preds d Fin (k + 1) rest (setD S o.dst (.val v))) : GW P ops C D R R' bigs preds d Fin k (o :: rest) S :=
  gw_read hq hw v (fun γ w hC => by
    unfold execOp
    simp only [ho, slEval_spec hx γ, Instr.loadAt, Instr.sureAddr, Sem.run_bind, Sem.run_pure, Result.andThen_ok, run_load1 dd hu hd (hc w hC)]) h
/-- The same, known till a big operation comes. -/
theorem gw_load1D (hq : Quiet C R R') (hw : slWants ops S o = some true) (hal : aliveM (ancs ops) bigs k = true) (ty : TypeId) (x : Operand) (ho : o.op = .load ty x) (ad : Addr) (hx : slEval S x = some (.pointer (some ad))) (dd : TypeDesc) (hu : P.underlying ty = some dd) (hd : (match dd with | .struct _ | .array _ _ => false | _ => true) = true)
    (v : Value) (hc : ∀ w, C w → D w → w.cell? ad = some v) (h : GW P ops C D R R' bigs preds d Fin (k + 1) rest (setD S o.dst (.val v))) : GW P ops C D R R' bigs preds d Fin k (o :: rest) S :=
  gw_readD hq hw hal v (fun γ w hC hD => by
    unfold execOp
    simp only [ho, slEval_spec hx γ, Instr.loadAt, Instr.sureAddr, Sem.run_bind, Sem.run_pure, Result.andThen_ok, run_load1 dd hu hd (hc w hC hD)]) h
/-- The same, of two arguments. -/
theorem gw_call_row2 (B size : Nat) (hw : slWants ops S o = some true) (hnb : bigs.contains k = false) (f : FuncId) (s : Nat) (ts : Array TypeId) (ho : o.op = .call { callee := .value (.func f), args := #[x', .tmp s], argTypes := ts }) (u : Value) (hx : slEval S x' = some u)
    (e : TypeId) (n : Nat) (xs : List Value) (hs : S[s]? = some (.pred (RowFrom B e size n xs))) (c : Value) (hr : ∀ v w, (callFunc f #[u, v]).run P w = .ok (.enter f #[u, v]) w)
    (hc : ∀ v w, C w → RowFrom B e size n xs v w → Calls P f #[u, v] w fun e w' => e = .returned c ∧ C w' ∧ R w w') (h : GW P ops C D R R' bigs preds d Fin (k + 1) rest (setD S o.dst (.val c))) : GW P ops C D R R' bigs preds d Fin k (o :: rest) S :=
  gw_any hw (.val c) (.inl ⟨_, rfl⟩) (fun γ w hC _ hV => by
    have hv : RowFrom B e size n xs (γ s) w := hV s _ (List.mem_append_left _ (List.mem_filterMap.2 ⟨.tmp s, by simp [ho, Op.operands, Call.operands], rfl⟩)) hs
    have he1 : (slAct S γ d).eval (.tmp s) = γ s := by simp [Act.eval, slAct_tmp, hs, Slot.get]
    have hrun : (execOp (slAct S γ d).eval o).run P w = .ok (.enter f #[u, γ s]) w := by
      exact (run_callOp ho rfl (by simp [he1, slEval_spec hx γ]) w).trans (hr (γ s) w)
    unfold yld
    rw [hrun]
    refine (hc _ w hC hv).mono fun e w' ⟨he, h1, h2⟩ => ⟨c, he, h1, ?_, rfl⟩
    unfold eff
    rw [if_neg (by rw [hnb]; exact Bool.false_ne_true)]
    exact h2) h
/-- A value of which a predicate tells is handed on. -/
theorem gw_moveP (hq : Quiet C R R') (hw : slWants ops S o = some true) (hp : preds.contains k = true) (s : Nat) (ho : o.op = .move (.tmp s) ∨ o.op = .assign (.tmp s)) (V : Value → World → Prop) (hs : S[s]? = some (.pred V)) (hst : ∀ v w w', C w → C w' → R w w' → V v w → V v w')
    (h : GW P ops C D R R' bigs preds d Fin (k + 1) rest (setD S o.dst (.pred V))) : GW P ops C D R R' bigs preds d Fin k (o :: rest) S :=
  gw_any hw (.pred V) (.inr ⟨by simpa using hp, fun v w w' h1 h2 hR hv => hst v w w' h1 h2 hR hv⟩) (fun γ w hC _ hV => by
    have hv : V (γ s) w := hV s _ (List.mem_append_left _ (List.mem_filterMap.2 ⟨.tmp s, by rcases ho with ho | ho <;> simp [ho, Op.operands], rfl⟩)) hs
    have he1 : (slAct S γ d).eval (.tmp s) = γ s := by simp [Act.eval, slAct_tmp, hs, Slot.get]
    unfold yld execOp
    rcases ho with ho | ho <;> (simp only [ho, he1]; exact ⟨hC, eff_refl hq k w hC, hv⟩)) h
/-- A call whose arguments are known, of whose result a predicate tells. -/
theorem gw_callP (hw : slWants ops S o = some true) (hnb : bigs.contains k = false) (hp : preds.contains k = true) (f : FuncId) (xs : Array Operand) (ts : Array TypeId) (_ho : o.op = .call { callee := .value (.func f), args := xs, argTypes := ts }) (args : Array Value) (_hx : xs.toList.map (slEval S) = args.toList.map some) (V : Value → World → Prop) (hst : ∀ v w w', C w → C w' → R w w' → V v w → V v w') (hr : ∀ γ w, (execOp (slAct S γ d).eval o).run P w = .ok (.enter f args) w)
    (hc : ∀ w, C w → Calls P f args w fun e w' => ∃ c, e = .returned c ∧ C w' ∧ R w w' ∧ V c w') (h : GW P ops C D R R' bigs preds d Fin (k + 1) rest (setD S o.dst (.pred V))) : GW P ops C D R R' bigs preds d Fin k (o :: rest) S :=
  gw_any hw (.pred V) (.inr ⟨by simpa using hp, fun v w w' h1 h2 hR hv => hst v w w' h1 h2 hR hv⟩) (fun γ w hC _ _ => by
    unfold yld
    rw [hr γ w]
    refine (hc w hC).mono fun e w' ⟨c, he, h1, h2, h3⟩ => ⟨c, he, h1, ?_, h3⟩
    unfold eff
    rw [if_neg (by rw [hnb]; exact Bool.false_ne_true)]
    exact h2) h
/-- A slice made of parts. -/
theorem gw_row (B size : Nat) (hw : slWants ops S o = some true) (hnb : bigs.contains k = false) (hp : preds.contains k = true) (hCB : ∀ w, C w → B ≤ w.heap.size) (hCR : ∀ w w', C w → Grow w noOwn w' → C w' ∧ R w w') (hRG : ∀ w w', R w w' → Grow w noOwn w')
    (t e : TypeId) (len : Nat) (parts : Array (Nat × Operand)) (ho : o.op = .buildSlice t len parts) (ht : P.underlying t = some (.slice e)) (z : Value) (bytes : Nat) (hz : Row3 P e z size bytes) (hl : len * size ≤ 65536) (hsz : 0 < size) (xs : List Value) (hxl : xs.length = len * size)
    (hc : ∀ γ, slCells z size len (parts.map fun (i, x) => (i, (slAct S γ d).eval x)).toList = some xs.toArray)
    (h : GW P ops C D R R' bigs preds d Fin (k + 1) rest (setD S o.dst (.pred (RowFrom B e size len xs)))) : GW P ops C D R R' bigs preds d Fin k (o :: rest) S :=
  gw_any hw (.pred (RowFrom B e size len xs)) (.inr ⟨by simpa using hp, fun v w w' _ _ hR hv => RowFrom.grow (show RowFrom B e size len xs v w from hv) (hRG _ _ hR)⟩) (fun γ w hC _ _ => by
    unfold yld
    rw [run_buildSlice_row (P := P) (w := w) (slAct S γ d).eval t len parts ho e ht z size bytes hz hl xs (hc γ)]
    have hg : Grow w noOwn (w.alloc (.cells xs.toArray e)) := (Grow.refl w _).alloc _
    refine ⟨(hCR _ _ hC hg).1, ?_, ?_⟩
    · unfold eff
      rw [if_neg (by rw [hnb]; exact Bool.false_ne_true)]
      exact (hCR _ _ hC hg).2
    · exact ⟨hxl, .inr ⟨w.heap.size, len, xs.toArray, rfl, hCB w hC, heap_alloc_new w _, Nat.le_refl _, by simp only [maxLen]; have := Nat.le_mul_of_pos_right len hsz; omega, by simp [hxl], by simp [← hxl]⟩⟩) h
/-- A slice made of one part. -/
theorem gw_row1 (B size : Nat) (hw : slWants ops S o = some true) (hnb : bigs.contains k = false) (hp : preds.contains k = true) (hCB : ∀ w, C w → B ≤ w.heap.size) (hCR : ∀ w w', C w → Grow w noOwn w' → C w' ∧ R w w') (hRG : ∀ w w', R w w' → Grow w noOwn w')
    (t e : TypeId) (x : Operand) (ho : o.op = .buildSlice t 1 #[(0, x)]) (v : Value) (hx : slEval S x = some v) (ht : P.underlying t = some (.slice e)) (z : Value) (bytes : Nat) (hz : Row3 P e z size bytes) (hsz : 0 < size) (hl : size ≤ 65536) (xs : List Value) (hxs : v.cells.toList = xs) (hxl : xs.length = size)
    (h : GW P ops C D R R' bigs preds d Fin (k + 1) rest (setD S o.dst (.pred (RowFrom B e size 1 xs)))) : GW P ops C D R R' bigs preds d Fin k (o :: rest) S := by
  subst hxs
  refine gw_row B size hw hnb hp hCB hCR hRG t e 1 _ ho ht z bytes hz (by omega) hsz _ (by omega) (fun γ => ?_) h
  simp only [List.map_toArray, List.map_cons, List.map_nil, slEval_spec hx γ]
  rw [slCells_one z size v (by simpa using hxl)]
/-- append onto a slice that is full, of a row of which the predicate tells. -/
theorem gw_append_full (B size : Nat) (hw : slWants ops S o = some true) (hnb : bigs.contains k = false) (hp : preds.contains k = true) (hCB : ∀ w, C w → B ≤ w.heap.size) (hCR : ∀ w w', C w → Grow w noOwn w' → C w' ∧ R w w') (hRG : ∀ w w', R w w' → Grow w noOwn w')
    (x : Nat) (ty : TypeId) (ho : o.op = .call { callee := .builtin .append, args := #[x', .tmp x], argTypes := #[ty, ty] })
    (e : TypeId) (A : Option Addr) (n : Nat) (hx : slEval S x' = some (.slice A n n)) (xs : List Value) (hn : 0 < n) (hr : ∀ w, C w → Reads w w.heap.size size A n xs)
    (Bx m : Nat) (news : List Value) (hm : 0 < m) (hs : S[x]? = some (.pred (RowFrom Bx e size m news)))
    (ht : P.underlying ty = some (.slice e)) (z : Value) (bytes : Nat) (hz : Row3 P e z size bytes) (hzs : z.cells.size = size) (hsz : 0 < size) (h63 : n + m ≤ maxLen) (hbytes : (n + m) * bytes ≤ 140737488355328)
    (h : GW P ops C D R R' bigs preds d Fin (k + 1) rest (setD S o.dst (.pred (RowFrom B e size (n + m) (xs ++ news))))) : GW P ops C D R R' bigs preds d Fin k (o :: rest) S :=
  gw_any hw (.pred (RowFrom B e size (n + m) (xs ++ news))) (.inr ⟨by simpa using hp, fun v w w' _ _ hR hv => RowFrom.grow (show RowFrom B e size (n + m) (xs ++ news) v w from hv) (hRG _ _ hR)⟩) (fun γ w hC _ hV => by
    have hv : RowFrom Bx e size m news (γ x) w := hV x _ (List.mem_append_left _ (List.mem_filterMap.2 ⟨.tmp x, by simp [ho, Op.operands, Call.operands], rfl⟩)) hs
    obtain ⟨ti, hti, hz0, hz1, hz2⟩ := info_parts hz
    obtain ⟨A', c', e', hc', hr'⟩ := hv.slice
    have he1 : (slAct S γ d).eval (.tmp x) = .slice A' m c' := by simp [Act.eval, slAct_tmp, hs, Slot.get, e']
    obtain ⟨ad, rfl, _, hadc⟩ := (hr w hC).2 hn
    obtain ⟨ad', rfl, _, hadc'⟩ := hr'.2 hm
    obtain ⟨v', w', hrun, hown, hg⟩ := run_append_arg_grows (P := P) w ty o.type e ti z size bytes ht hti hz0 hz1 hz2 hzs hsz ad n n xs (hr w hC).1 hadc ad' m c' news hr'.1 hadc' (by omega) h63 hbytes
    have hg' : Grow w noOwn w' := (Grow.of_grownBy hg).mono (fun _ _ e => by cases e)
    unfold yld execOp
    simp only [ho, resolve, invoke, builtin, Sem.run_bind, Sem.run_pure, Result.andThen_ok, List.map_toArray, List.map_cons, List.map_nil, he1, slEval_spec hx γ, hrun]
    refine ⟨(hCR _ _ hC hg').1, ?_, ?_⟩
    · unfold eff
      rw [if_neg (by rw [hnb]; exact Bool.false_ne_true)]
      exact (hCR _ _ hC hg').2
    · refine ⟨hown.1, ?_⟩
      rcases hown.2 with h0 | ⟨g, cap, cur, h1, h2, h3⟩
      · exact .inl h0
      · exact .inr ⟨g, cap, cur, h1, Nat.le_trans (hCB w hC) h2, h3⟩) h
/-- What comes of an append onto v: a row, in v's block or in one from B0 on. -/
def RowUp (v : Value) (B0 : Nat) (e : TypeId) (size n : Nat) (xs : List Value) (v' : Value) (w : World) : Prop := w.ownsRow 0 e size v' n xs ∧ ∀ g, v'.ownBlock = some g → v.ownBlock = some g ∨ B0 ≤ g
theorem ownsRow_grow {w w' : World} {base : Nat} {e : TypeId} {size n : Nat} {v : Value} {xs : List Value} (h : w.ownsRow base e size v n xs) (hg : Grow w noOwn w') : w'.ownsRow base e size v n xs := by
  refine ⟨h.1, ?_⟩
  rcases h.2 with h2 | ⟨g, cap, cur, h1, h2, h3, h4⟩
  · exact .inl h2
  · have hlt : g < w.heap.size := (Array.getElem?_eq_some_iff.1 h3).1
    exact .inr ⟨g, cap, cur, h1, h2, (hg.block g hlt (fun e => e)).trans h3, h4⟩
theorem ownsRow_base {w : World} {base : Nat} {e : TypeId} {size n : Nat} {v : Value} {xs : List Value} (h : w.ownsRow base e size v n xs) : w.ownsRow 0 e size v n xs := by
  refine ⟨h.1, ?_⟩
  rcases h.2 with h2 | ⟨g, cap, cur, h1, _, h3⟩
  · exact .inl h2
  · exact .inr ⟨g, cap, cur, h1, Nat.zero_le _, h3⟩
/-- append onto a row at hand (it is no more looked at), of a row of which the predicate tells. -/
theorem gw_append_own (B0 size : Nat) (hw : slWants ops S o = some true) (hb : bigs.contains k = true) (hal : aliveM (ancs ops) bigs k = true) (hp : preds.contains k = true) (v : Value) (hCB : ∀ w, C w → B0 ≤ w.heap.size) (hCR : ∀ w w', C w → D w → Grow w (fun i => v.ownBlock = some i) w' → C w' ∧ R' w w') (hRG : ∀ w w', R w w' → Grow w noOwn w')
    (x : Nat) (ty : TypeId) (ho : o.op = .call { callee := .builtin .append, args := #[x', .tmp x], argTypes := #[ty, ty] })
    (e : TypeId) (n : Nat) (hx : slEval S x' = some v) (xs : List Value) (hr : ∀ w, C w → D w → w.ownsRow 0 e size v n xs)
    (Bx m : Nat) (news : List Value) (hs : S[x]? = some (.pred (RowFrom Bx e size m news))) (h1 : ∀ u ∈ news, u.oneCell' = true)
    (ht : P.underlying ty = some (.slice e)) (z : Value) (bytes : Nat) (hz : Row3 P e z size bytes) (hzs : z.cells.size = size) (hsz : 0 < size) (h63 : n + m ≤ maxLen) (hbytes : (n + m) * bytes ≤ 140737488355328)
    (h : GW P ops C D R R' bigs preds d Fin (k + 1) rest (setD S o.dst (.pred (RowUp v B0 e size (n + m) (xs ++ news))))) : GW P ops C D R R' bigs preds d Fin k (o :: rest) S :=
  gw_any hw (.pred (RowUp v B0 e size (n + m) (xs ++ news))) (.inr ⟨by simpa using hp, fun v' w w' _ _ hR hv => ⟨ownsRow_grow (show RowUp v B0 e size (n + m) (xs ++ news) v' w from hv).1 (hRG _ _ hR), (show RowUp v B0 e size (n + m) (xs ++ news) v' w from hv).2⟩⟩) (fun γ w hC hD hV => by
    have hv : RowFrom Bx e size m news (γ x) w := hV x _ (List.mem_append_left _ (List.mem_filterMap.2 ⟨.tmp x, by simp [ho, Op.operands, Call.operands], rfl⟩)) hs
    obtain ⟨ti, hti, hz0, hz1, hz2⟩ := info_parts hz
    obtain ⟨A', c', e', hc', hr'⟩ := hv.slice
    have he1 : (slAct S γ d).eval (.tmp x) = .slice A' m c' := by simp [Act.eval, slAct_tmp, hs, Slot.get, e']
    obtain ⟨v', w', hrun, h2, h3, h4⟩ := run_append_any (P := P) w 0 ty o.type e ti z size bytes ht hti hz0 hz1 hz2 hzs hsz v n xs (hr w hC (hD hal)) w.heap.size A' m c' news hr' h1 h63 hbytes (Nat.zero_le _)
    have hg : Grow w (fun i => v.ownBlock = some i) w' := (Grow.of_grownBy h3).mono (fun i hi e' => e'.symm)
    unfold yld execOp
    simp only [ho, resolve, invoke, builtin, Sem.run_bind, Sem.run_pure, Result.andThen_ok, List.map_toArray, List.map_cons, List.map_nil, he1, slEval_spec hx γ, hrun]
    refine ⟨(hCR _ _ hC (hD hal) hg).1, ?_, h2, fun g hg' => ?_⟩
    · unfold eff
      rw [if_pos hb]
      exact (hCR _ _ hC (hD hal) hg).2
    · rcases h4 with h4 | h4
      · exact .inl (h4.symm.trans hg')
      · right
        have : some w.heap.size = some g := h4.symm.trans hg'
        injection this with this
        have := hCB w hC
        omega) h
end
/-- A value of one cell goes into a cell of a block at hand. -/
theorem run_store1 {P : Program} {w : World} {ty : TypeId} {g j : Nat} {v old : Value} (h1 : v.oneCell' = true) (hs : (P.info? ty).map (·.size) = some 1) (hc : w.cell? ⟨g, j, none⟩ = some old) (hf : w.frozen? ⟨g, j, none⟩ = false) : (storeVar ty ⟨g, j, none⟩ v).run P w = .ok () (w.setCell ⟨g, j, none⟩ v) := by
  have hcs : v.cells = #[v] := by cases v <;> first | rfl | cases h1
  cases hq : P.info? ty with
  | none => simp [hq] at hs
  | some i =>
    have hs' : i.size = 1 := by simpa [hq] using hs
    have this : (storeCells ⟨g, j, none⟩ [v]).run P w = .ok () (w.setCell ⟨g, j, none⟩ v) := by
      have ha : (⟨g, j, none⟩ : Addr).add 0 = ⟨g, j, none⟩ := by simp [Addr.add]
      cases v <;> first | (simp [storeCells, store, Sem.run, hc, hf, ha]; done) | cases h1
    simp [storeVar, sizeOf, typeInfo, hq, hcs, hs', this]
theorem wp_store1 {P : Program} {o : Oper} {a : Act} {w w0 : World} {own : Nat → Prop} {L : List Item} {K : Act → World → Prop} {Q : Exit → Act → World → Prop} (ty : TypeId) (x y : Operand) (ho : o.op = .store ty x y)
    (hM : Mem w0 own w L) (i g j : Nat) (t : TypeId) (cs : Array Value) (hi : L[i]? = some (.blk g t cs)) (hj : j < cs.size) (hx : a.eval x = .pointer (some ⟨g, j, none⟩)) (v : Value) (hy : a.eval y = v) (h1 : v.oneCell' = true) (hs : (P.info? ty).map (·.size) = some 1)
    (h : ∀ w', Mem w0 own w' (L.set i (.blk g t (cs.setIfInBounds j v))) → K (a.put o.dst undef) w') : o.wp P a w K Q := by
  have hc : w.cell? ⟨g, j, none⟩ = some cs[j] := (hM.cell i hi j).trans (by simp [hj])
  unfold Oper.wp execOp
  simp only [ho, hx, hy, Instr.storeAt, Instr.sureAddr, Sem.run_bind, Sem.run_pure, Result.andThen_ok, run_store1 h1 hs hc (hM.frozen i hi j)]
  exact h _ (hM.set i hi j v)
theorem wpList_store1 {P : Program} {ops : Array Oper} {rest : List Oper} {o : Oper} {a : Act} {w w0 : World} {own : Nat → Prop} {L : List Item} {Q : Exit → Act → World → Prop} (hgd : Region.wanted o (yielded ops a.tmps) = true) (ty : TypeId) (x y : Operand) (ho : o.op = .store ty x y)
    (hM : Mem w0 own w L) (i g j : Nat) (t : TypeId) (cs : Array Value) (hi : L[i]? = some (.blk g t cs)) (hj : j < cs.size) (hx : a.eval x = .pointer (some ⟨g, j, none⟩)) (v : Value) (hy : a.eval y = v) (h1 : v.oneCell' = true) (hs : (P.info? ty).map (·.size) = some 1)
    (h : ∀ w', Mem w0 own w' (L.set i (.blk g t (cs.setIfInBounds j v))) → wpList P ops Q rest (a.put o.dst undef) w') : wpList P ops Q (o :: rest) a w :=
  BigFrame.wpList_want hgd fun _ hK => wp_store1 ty x y ho hM i g j t cs hi hj hx v hy h1 hs fun w' h2 => hK _ _ (h w' h2)
/-- A whole block is read (the operation may be guarded). -/
theorem wp_load_blk {P : Program} {o : Oper} {a : Act} {w w0 : World} {own : Nat → Prop} {L : List Item} {K : Act → World → Prop} {Q : Exit → Act → World → Prop} (ty : TypeId) (x : Operand) (ho : o.op = .load ty x)
    (hM : Mem w0 own w L) (i g : Nat) (t : TypeId) (cs : Array Value) (hi : L[i]? = some (.blk g t cs)) (hx : a.eval x = .pointer (some ⟨g, 0, none⟩)) (d : TypeDesc)
    (hu : P.underlying ty = some d) (hd : (match d with | .struct _ | .array _ _ => true | _ => false) = true) (hs : (P.info? ty).map (·.size) = some cs.size)
    (h : K (a.put o.dst (.agg cs)) w) : o.wp P a w K Q := by
  unfold Oper.wp execOp
  simp only [ho, hx, Instr.loadAt, Instr.sureAddr, Sem.run_bind, Sem.run_pure, Result.andThen_ok, run_loadVar_row w g t ty cs (0, 0) d (hM.blk i hi) hu hd hs]
  exact h
/-- A call that writes what is not at hand. -/
theorem Mem.callFar {w0 w w' : World} {own own' : Nat → Prop} {L : List Item} (h : Mem w0 own w L) (k : Grow w own' w') (hf : ∀ x ∈ L, ∀ g, x.foot g → ¬ own' g) (ho : ∀ i, i < w0.heap.size → own' i → own i) : Mem w0 own w' L :=
  ⟨h.grow.trans k ho, fun x hx => Item.keep (h.has x hx) (fun g e => k.block g (Item.at_lt (h.has x hx) g e) (hf x hx g e)), h.apart, h.mine⟩
/-- A row more, in v's block or in a new one. -/
theorem Mem.addRow {w0 w w' : World} {own : Nat → Prop} {L : List Item} {v v' : Value} {e : TypeId} {size n n' : Nat} {xs xs' : List Value} (h : Mem w0 own w (.row v e size n xs :: L)) (h' : Mem w0 own w' L) (hv : RowUp v w.heap.size e size n' xs' v' w') :
    Mem w0 own w' (.row v' e size n' xs' :: L) := by
  obtain ⟨hr, hb⟩ := hv
  have hp := List.pairwise_cons.1 h.apart
  refine ⟨h'.grow, fun y hy => ?_, List.pairwise_cons.2 ⟨fun y hy g e1 e2 => ?_, h'.apart⟩, fun y hy g e => ?_⟩
  · rcases List.mem_cons.1 hy with rfl | hy
    · exact hr
    · exact h'.has y hy
  · rcases hb g e1 with h1 | h1
    · exact hp.1 y hy g h1 e2
    · have := Item.at_lt (h.has y (List.mem_cons_of_mem _ hy)) g e2
      omega
  · rcases List.mem_cons.1 hy with rfl | hy
    · rcases hb g e with h1 | h1
      · exact h.mine _ (List.mem_cons_self ..) g h1
      · have := h.grow.size
        exact .inr (by omega)
    · exact h'.mine y hy g e
attribute [go_sem] slAct slVals Slot.get
end Go.Proofs.Ytnmnknjgibkkaaa
