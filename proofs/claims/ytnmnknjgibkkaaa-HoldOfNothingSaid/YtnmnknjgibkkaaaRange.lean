/- A range over a function, among what is at hand; rules of Mem in a round. -/
import Derived.Test.YtnmnknjgibkkaaaGen
import Derived.RangeFuncNested
import Derived.RangeFuncBound
import Derived.RangeFuncCalls
import Derived.RangeFuncLeaves
import Derived.TacticsInMore
import Derived.LoopIn
import Derived.OwnWalkIn
namespace Go.Proofs.Ytnmnknjgibkkaaa
open Go.RowKit
set_option linter.unusedVariables false

/-! Rules on one operation, at a wide fence. -/
class WideF (F : Fence) : Prop where
  fn : ∀ f, F.fn f
  depth : F.depth = none
  calls : ∀ {P : Program} {n f : Nat} {args : Array Value} {w : World} {R : Ending → World → Prop}, Calls P f args w R → CallsIn F n P f args w R
  rows : ∀ {P : Program} {n : Nat} {row : String} {args : Array Value} {w : World} {R : Value → World → Prop}, Rows P row args w R → RowsIn F n P row args w R
theorem rowsIn_wide {P : Program} {n : Nat} {row : String} {args : Array Value} {w : World} {R : Value → World → Prop} (h : Rows P row args w R) : RowsIn Fence.wide n P row args w R :=
  fun c cs _ => let ⟨v, w', r, s⟩ := h c cs; ⟨v, w', r, stepsIn_wide.2 s⟩
instance : WideF Fence.wide := ⟨fun _ => trivial, rfl, callsIn_wide.2, rowsIn_wide⟩
instance (l : Nat) : WideF (Fence.wide.inRound l) := ⟨fun _ => trivial, rfl, fun h => CallsIn.inRound l (callsIn_wide.2 h), fun h => rowsIn_wide h⟩
theorem wpListIn_of1 {F : Fence} [hF : WideF F] {n : Nat} {P : Program} {ops : Array Oper} {Q : Exit → Act → World → Prop} {rest : List Oper} {o : Oper} {a : Act} {w : World} (hd : ∀ c, o.op ≠ .defer c)
    (h : wpList P ops (fun e a' w' => e = .normal ∧ wpListIn F n P ops Q rest a' w') [o] a w) : wpListIn F n P ops Q (o :: rest) a w := by
  have hno : ¬ LetsOut (fun e a' w' => e = .normal ∧ wpListIn F n P ops Q rest a' w') := by
    rintro ⟨a', w', h1, _⟩
    cases h1
  unfold wpList at h
  unfold wpListIn
  by_cases hw : Region.wanted o (yielded ops a.tmps) = true
  · rw [if_pos hw] at h
    rw [if_pos hw]
    have h1 := h.resolve_right (fun e => hno e.2)
    refine ⟨fun f _ => hF.fn f, ?_⟩
    rw [Oper.semAt_eq _ _ _ hd]
    unfold Oper.wp at h1
    cases hr : (execOp a.eval o).run P w with
    | ok nx w' =>
      rw [hr] at h1
      cases nx with
      | value v => exact h1.2
      | skip => exact h1.2
      | defer d => exact h1.2
      | enter f args =>
        refine ⟨fun e => (by rw [hF.depth] at e; cases e), hF.calls (Calls.mono h1 ?_)⟩
        rintro (v | ch | _) w2 h2
        · exact h2.2
        · cases h2.1
        · exact (hno h2).elim
      | row row args =>
        exact ⟨fun e => (by rw [hF.depth] at e; cases e), hF.rows (Rows.mono h1 fun v w2 h2 => h2.2)⟩
      | round l f tmps as bd => exact h1.elim
      | _ => exact h1.elim
    | halt h w' =>
      rw [hr] at h1
      cases h <;> first | exact h1.elim | (cases h1.1)
  · rw [if_neg hw] at h
    rw [if_neg hw]
    exact ⟨fun f _ => hF.fn f, h.2⟩
theorem wpListIn_end {P : Program} {ops : Array Oper} {R : Act → World → Prop} {a : Act} {w : World} (h : R a w) : wpList P ops (fun e a' w' => e = .normal ∧ R a' w') [] a w := ⟨rfl, h⟩

def fnB (P : Program) (T : TypeId) : Bool := match P.underlying T with
  | some (.func _ _ _) => true
  | _ => false
theorem run_eql_func_nil {P : Program} (w : World) {t : TypeId} (h : fnB P t = true) (f : Fn) (a c : Array Value) : (binOp .eql t (.func f a c) .nilFunc).run P w = .ok (.bool false) w := by
  unfold fnB at h
  split at h
  · rename_i ps rs v hu
    have h1 : ∀ d : Nat, (Op.equalIn (d + 1) t (.func f a c) .nilFunc).run P w = .ok false w := fun d => by simp [Op.equalIn, run_underlying hu]
    have h2 : (Op.equal t (.func f a c) .nilFunc).run P w = .ok false w := h1 9999
    simp only [binOp]
    simp [h2]
  · cases h

/-! The loop's record. -/
def recL (st : LoopState) (fn : Nat) (tmps : Array Value) (ps : Array Tmp) (assign body : Code) (D : Nat) : Obj := .loop { state := st, pending := none, fn, tmps, params := ps, assign, body, defers := D }
section
variable {P : Program} {w0 w : World} {own : Nat → Prop} {L : List Item} {g : Nat} {o : Obj} {p : Obj → Prop}
theorem Mem.pushObj (hM : Mem w0 own w L) (hp : p o) : Mem w0 own (w.alloc o) (.obj w.heap.size p :: L) :=
  hM.push (hM.grow.alloc _) (fun k hk => Below.heap_alloc w _ k hk) ⟨o, World.alloc_heap_new w o, hp⟩ (fun i e => by simp [Item.foot] at e; omega)
theorem Mem.putObj (hM : Mem w0 own w L) (i : Nat) {p' : Obj → Prop} {o' : Obj} (hi : L[i]? = some (.obj g p)) (hp : p' o') : Mem w0 own (w.putObj g o') (L.set i (.obj g p')) := by
  have hlt := hM.lt i hi rfl
  have hk : ∀ k, k ≠ g → (w.putObj g o').heap[k]? = w.heap[k]? := fun k hk => World.putObj_heap_other hk
  refine hM.upd i hi ⟨hM.grow.os, hM.grow.tape, hM.grow.output, by simpa using hM.grow.size, fun k hk1 hk2 => ?_⟩ (fun k hk1 hk2 => hk k (fun e => hk2 e.symm)) ⟨o', World.putObj_heap_same hlt, hp⟩ (fun k e => .inl e)
  rw [hk k ?_]
  · exact hM.grow.block k hk1 hk2
  · rintro rfl
    rcases hM.own_ i hi rfl with h | h
    · exact hk2 h
    · omega
variable {st : LoopState} {fn D l : Nat} {tmps : Array Value} {ps : Array Tmp} {assign body : Code}
theorem begin_mem (hM : Mem w0 own w L) (i : Nat) (hi : L[i]? = some (.obj l (· = recL .ready fn tmps ps assign body D))) :
    ∃ w2, (Instr.beginRound l).run P w = .ok () w2 ∧ Mem w0 own w2 (L.set i (.obj l (· = recL .busy fn tmps ps assign body D))) := by
  obtain ⟨o, ho, rfl⟩ := hM.at_ i hi
  exact ⟨_, run_beginRound ho rfl, hM.putObj i hi rfl⟩
theorem end_mem (hM : Mem w0 own w L) (i : Nat) (hi : L[i]? = some (.obj l (· = recL .busy fn tmps ps assign body D))) :
    ∃ w2, (Instr.endRound l none).run P w = .ok (.bool true) w2 ∧ Mem w0 own w2 (L.set i (.obj l (· = recL .ready fn tmps ps assign body D))) := by
  obtain ⟨o, ho, rfl⟩ := hM.at_ i hi
  exact ⟨_, run_endRound none ho, hM.putObj i hi rfl⟩
theorem over_mem (hM : Mem w0 own w L) (i : Nat) (hi : L[i]? = some (.obj l (· = recL .ready fn tmps ps assign body D))) :
    ∃ w2, (Instr.endLoop l).run P w = .ok none w2 ∧ Mem w0 own w2 (L.set i (.obj l (fun _ => True))) := by
  obtain ⟨o, ho, rfl⟩ := hM.at_ i hi
  exact ⟨_, run_endLoop ho (by simp), hM.putObj i hi trivial⟩
theorem yield_round {args : Array Value} {R : Ending → World → Prop} (hM : Mem w0 own w L) (i : Nat) (hi : L[i]? = some (.obj l (· = recL .ready fn tmps ps assign body D))) (hs : args.size = ps.size)
    (h : assign.wpIn (Fence.wide.inRound l) 0 P (Exit.then (fun a₁ w₁ => ∃ w₂, (Instr.beginRound l).run P w₁ = .ok () w₂ ∧ body.wpIn (Fence.wide.inRound l) 0 P (roundPost P l R) a₁ w₂) (fun _ _ _ => False))
      { tmps := (ps.zip args).foldl (fun t (p, v) => t.setIfInBounds p v) tmps, defers := [] } w) : YieldAt Fence.wide 0 P l args w R := by
  obtain ⟨o, ho, rfl⟩ := hM.at_ i hi
  exact ⟨fn, _, assign, body, run_yield ho hs, roundIn_of_wpIn trivial h⟩
/-- The statement: the iterator's contract, with the loop's record and the block of deferred calls at hand; what follows. -/
theorem wpIn_range {g : Operand} {Q : Exit → Act → World → Prop} {a : Act} {gf : Nat} {lb : Array Value} (hg : a.eval g = .func (.func gf) #[] lb) (eg : ∀ args w, (callFunc gf args).run P w = .ok (.enter gf args) w) (hM : Mem w0 own w L)
    (h : ∀ fn l D W1, Mem w0 own W1 (.obj l (· = recL .ready fn a.tmps ps assign body D) :: .obj D (· = .deferred (some [])) :: L) →
      Calls P gf (#[.func (.yield l) #[] #[]] ++ lb) W1 (fun e W2 => (∃ v, e = .returned v) ∧ ∃ L', Mem w0 own W2 (.obj l (· = recL .ready fn a.tmps ps assign body D) :: L') ∧
        ∀ W3, Mem w0 own W3 L' → Q .normal { a with defers := { target := .collected D, args := #[] } :: a.defers } W3)) :
    (Code.rangeFunc g ps assign body).wpIn Fence.wide 0 P Q a w := by
  refine wpIn_rangeFunc ?_
  intro fn _
  obtain ⟨W1, hW1⟩ : ∃ W1, (w.alloc (.deferred (some []))).alloc (recL .ready fn a.tmps ps assign body w.heap.size) = W1 := ⟨_, rfl⟩
  have hM1 : Mem w0 own W1 (.obj (w.heap.size + 1) (· = recL .ready fn a.tmps ps assign body w.heap.size) :: .obj w.heap.size (· = .deferred (some [])) :: L) := by
    rw [← hW1]
    have := ((hM.pushObj (p := (· = .deferred (some []))) rfl).pushObj (o := recL .ready fn a.tmps ps assign body w.heap.size) (p := (· = recL .ready fn a.tmps ps assign body w.heap.size)) rfl)
    rwa [World.size_alloc] at this
  refine ⟨w.heap.size + 1, [{ target := .collected w.heap.size, args := #[] }], W1, { target := .fn (.func gf) lb, args := #[.func (.yield (w.heap.size + 1)) #[] #[]] }, W1, gf,
    #[.func (.yield (w.heap.size + 1)) #[] #[]] ++ lb, W1, ?_, ?_, fun _ _ => trivial, ?_, fun e => (by cases e), ?_⟩
  · rw [← hW1]; exact run_enterLoop_outer _ _ _ _ _
  · simp only [resolve, hg]
    simp [go_sem]
  · simp [invoke, go_sem, eg]
  · refine callsIn_wide.2 ((h fn _ _ W1 hM1).mono ?_)
    rintro e W2 ⟨⟨v, rfl⟩, L', hM2, hk⟩
    obtain ⟨W3, hr, hM3⟩ := over_mem (P := P) hM2 0 rfl
    exact ⟨none, W3, hr, hk W3 hM3.tail⟩
theorem results_cells2 {fnn : Func} {p q : Tmp} {tp tq : TypeId} (h : fnn.results = #[.cell p tp, .cell q tq]) (tmps : Array Value) (P : Program) (w : World) :
    (results fnn tmps).run P w = ((asAddr (tmps.getD p undef)).run P w).andThen fun a w₁ => ((loadVar tp a).run P w₁).andThen fun u w₂ => ((asAddr (tmps.getD q undef)).run P w₂).andThen fun b w₃ => ((loadVar tq b).run P w₃).andThen fun v w₄ => .ok (.tuple #[u, v]) w₄ := by
  simp only [results, h]
  simp [Sem.run_bind, Result.andThen]
theorem leave_marked2 {F : Fence} {n : Nat} {fnn : Func} {p q : Tmp} {tp tq : TypeId} (hres : fnn.results = #[.cell p tp, .cell q tq]) {a : Act} {R : Ending → World → Prop} (hd : a.defers = [{ target := .collected D, args := #[] }])
    (hM : Mem w0 own w (.obj D (· = .deferred (some [])) :: L)) {ad1 ad2 : Addr} (hp : a.tmps.getD p undef = .pointer (some ad1)) (hq : a.tmps.getD q undef = .pointer (some ad2)) {u v : Value} [h1 : Cell w0 own L ad1 u] [h2 : Cell w0 own L ad2 v] [t1 : TySc P tp] [t2 : TySc P tq]
    (hR : ∀ w', Mem w0 own w' L → R (.returned (.tuple #[u, v])) w') : bodyPostM F n P fnn R .ret a w := by
  obtain ⟨o, ho, rfl⟩ := hM.at_ 0 rfl
  have hM2 : Mem w0 own (w.putObj D (.deferred none)) L := (hM.putObj 0 (p' := fun _ => True) rfl trivial).tail
  show LeavesInM F n P fnn a.tmps R a.defers .returning w
  rw [hd]
  refine ⟨by simp, .inl ⟨D, _, rfl, run_takeDeferred ho, ?_⟩⟩
  refine ⟨.tuple #[u, v], ?_, hR _ hM2⟩
  have ha : ∀ (ad : Addr) (w : World), (asAddr (.pointer (some ad))).run P w = .ok ad w := fun ad w => by simp [go_sem]
  rw [results_cells2 hres, hp, hq, ha]
  simp only [Result.andThen, run_ld (h1.out _ hM2), run_ld (h2.out _ hM2), ha]
/-- The record of a loop that a round has left. -/
def recX (c : Code) (fn : Nat) (tmps : Array Value) (ps : Array Tmp) (assign body : Code) (D : Nat) : Obj := .loop { state := .done, pending := some c, fn, tmps, params := ps, assign, body, defers := D }
theorem end_exit (id : Nat) (hM : Mem w0 own w L) (i : Nat) (hi : L[i]? = some (.obj l (· = recL .busy fn tmps ps assign body D))) :
    ∃ w2, (Instr.endRound l (some (.exit id))).run P w = .ok (.bool false) w2 ∧ Mem w0 own w2 (L.set i (.obj l (· = recX (.exit id) fn tmps ps assign body D))) := by
  obtain ⟨o, ho, rfl⟩ := hM.at_ i hi
  exact ⟨_, run_endRound (some (.exit id)) ho, hM.putObj i hi rfl⟩
theorem over_exit {c : Code} (hM : Mem w0 own w L) (i : Nat) (hi : L[i]? = some (.obj l (· = recX c fn tmps ps assign body D))) :
    ∃ w2, (Instr.endLoop l).run P w = .ok (some c) w2 ∧ Mem w0 own w2 (L.set i (.obj l (fun _ => True))) := by
  obtain ⟨o, ho, rfl⟩ := hM.at_ i hi
  exact ⟨_, run_endLoop ho (by simp), hM.putObj i hi trivial⟩
/-- The statement, where a round may leave it. -/
theorem wpIn_range2 {g : Operand} {Q : Exit → Act → World → Prop} {a : Act} {gf : Nat} {lb : Array Value} (hg : a.eval g = .func (.func gf) #[] lb) (eg : ∀ args w, (callFunc gf args).run P w = .ok (.enter gf args) w) (hM : Mem w0 own w L)
    (h : ∀ fn l D W1, Mem w0 own W1 (.obj l (· = recL .ready fn a.tmps ps assign body D) :: .obj D (· = .deferred (some [])) :: L) →
      Calls P gf (#[.func (.yield l) #[] #[]] ++ lb) W1 (fun e W2 => (∃ v, e = .returned v) ∧ ((∃ L', Mem w0 own W2 (.obj l (· = recL .ready fn a.tmps ps assign body D) :: L') ∧
        ∀ W3, Mem w0 own W3 L' → Q .normal { a with defers := { target := .collected D, args := #[] } :: a.defers } W3) ∨
        ∃ c L', Mem w0 own W2 (.obj l (· = recX c fn a.tmps ps assign body D) :: L') ∧ ∀ W3, Mem w0 own W3 L' → c.wpIn Fence.wide 0 P Q { a with defers := { target := .collected D, args := #[] } :: a.defers } W3))) :
    (Code.rangeFunc g ps assign body).wpIn Fence.wide 0 P Q a w := by
  refine wpIn_rangeFunc ?_
  intro fn _
  obtain ⟨W1, hW1⟩ : ∃ W1, (w.alloc (.deferred (some []))).alloc (recL .ready fn a.tmps ps assign body w.heap.size) = W1 := ⟨_, rfl⟩
  have hM1 : Mem w0 own W1 (.obj (w.heap.size + 1) (· = recL .ready fn a.tmps ps assign body w.heap.size) :: .obj w.heap.size (· = .deferred (some [])) :: L) := by
    rw [← hW1]
    have := ((hM.pushObj (p := (· = .deferred (some []))) rfl).pushObj (o := recL .ready fn a.tmps ps assign body w.heap.size) (p := (· = recL .ready fn a.tmps ps assign body w.heap.size)) rfl)
    rwa [World.size_alloc] at this
  refine ⟨w.heap.size + 1, [{ target := .collected w.heap.size, args := #[] }], W1, { target := .fn (.func gf) lb, args := #[.func (.yield (w.heap.size + 1)) #[] #[]] }, W1, gf,
    #[.func (.yield (w.heap.size + 1)) #[] #[]] ++ lb, W1, ?_, ?_, fun _ _ => trivial, ?_, fun e => (by cases e), ?_⟩
  · rw [← hW1]; exact run_enterLoop_outer _ _ _ _ _
  · simp only [resolve, hg]
    simp [go_sem]
  · simp [invoke, go_sem, eg]
  · refine callsIn_wide.2 ((h fn _ _ W1 hM1).mono ?_)
    rintro e W2 ⟨⟨v, rfl⟩, ⟨L', hM2, hk⟩ | ⟨c, L', hM2, hk⟩⟩
    · obtain ⟨W3, hr, hM3⟩ := over_mem (P := P) hM2 0 rfl
      exact ⟨none, W3, hr, hk W3 hM3.tail⟩
    · obtain ⟨W3, hr, hM3⟩ := over_exit (P := P) hM2 0 rfl
      exact ⟨some c, W3, hr, hk W3 hM3.tail⟩
/-- The function's end, its mark taken up. -/
theorem leave_marked {F : Fence} {n : Nat} {fnn : Func} {a : Act} {R : Ending → World → Prop} (hd : a.defers = [{ target := .collected D, args := #[] }]) (hM : Mem w0 own w (.obj D (· = .deferred (some [])) :: L)) {v : Value}
    (hr : ∀ w', (results fnn a.tmps).run P w' = .ok v w') (hR : ∀ w', Mem w0 own w' L → R (.returned v) w') : bodyPostM F n P fnn R .ret a w := by
  obtain ⟨o, ho, rfl⟩ := hM.at_ 0 rfl
  have hM2 : Mem w0 own (w.putObj D (.deferred none)) L := (hM.putObj 0 (p' := fun _ => True) rfl trivial).tail
  show LeavesInM F n P fnn a.tmps R a.defers .returning w
  rw [hd]
  exact ⟨by simp, .inl ⟨D, _, rfl, run_takeDeferred ho, v, hr _, hR _ hM2⟩⟩
end
end Go.Proofs.Ytnmnknjgibkkaaa
