/- DigestLinks: the walk. -/
import Derived.Test.YtggpchdgljhmdaaLawB
import Derived.Test.YtggpchdgljhmdaaGhost2
namespace Go.Proofs.Ytggpchdgljhmdaa
open Go.RowKit

/-- A call of a Go function, its arguments known. -/
theorem run_callOp {P : Program} {ρ : Operand → Value} {o : Oper} {f : FuncId} {xs : Array Operand} {ts : Array TypeId} (ho : o.op = .call { callee := .value (.func f), args := xs, argTypes := ts }) (hρ : ρ (.func f) = .func (.func f) #[] #[]) {args : Array Value} (hx : xs.map ρ = args) (w : World) :
    (execOp ρ o).run P w = (callFunc f args).run P w := by
  unfold execOp
  simp only [ho, resolve, hρ, hx, Deferred.ofValue, invoke, Sem.run_bind, Sem.run_pure, Result.andThen_ok]
  simp
theorem run_callFunc {P : Program} {f : FuncId} {fn : Func} (hf : P.funcs[f]? = some fn) (hn : (fn.name == "runtime.NumGoroutine") = false) (hb : fn.body.isNone = false) (args : Array Value) (w : World) :
    (callFunc f args).run P w = .ok (.enter f args) w := by
  unfold callFunc
  have hn' : ¬ fn.name = "runtime.NumGoroutine" := by simpa using hn
  have hb' : ¬ fn.body = none := by intro e; rw [e] at hb; cases hb
  simp [program, Sem.run, hf, hn', hb']
section
variable {P : Program} {ops : Array Oper} {C : World → Prop} {R R' : World → World → Prop} {bigs preds : List Nat} {d : List Deferred} {Fin : List Slot → Prop} {k : Nat} {o : Oper} {rest : List Oper} {S : List Slot} {x' : Operand}
theorem gw_load_blk (hq : Quiet C R R') (hw : slWants ops S o = some true) (ty : TypeId) (x : Operand) (ho : o.op = .load ty x) (g : Nat) (t : TypeId) (cs : Array Value) (hx : slEval S x = some (.pointer (some ⟨g, 0, none⟩))) (hb : ∀ w, C w → Blk w g t cs) (dd : TypeDesc)
    (hu : P.underlying ty = some dd) (hd : (match dd with | .struct _ | .array _ _ => true | _ => false) = true) (hs : (P.info? ty).map (·.size) = some cs.size)
    (h : GW P ops C R R' bigs preds d Fin (k + 1) rest (setD S o.dst (.val (.agg cs)))) : GW P ops C R R' bigs preds d Fin k (o :: rest) S :=
  gw_read hq hw _ (fun γ w hC => by
    unfold execOp
    simp only [ho, slEval_spec hx γ, Instr.loadAt, Instr.sureAddr, Sem.run_bind, Sem.run_pure, Result.andThen_ok, run_loadVar_row w g t ty cs (0, 0) dd (hb w hC) hu hd hs]) h
/-- A row that lies in blocks from B on. -/
def RowFrom (B : Nat) (e : TypeId) (n : Nat) (xs : List Value) (v : Value) (w : World) : Prop := w.ownsRow B e 1 v n xs
theorem RowFrom.grow {B : Nat} {e : TypeId} {n : Nat} {xs : List Value} {v : Value} {w w' : World} (h : RowFrom B e n xs v w) (hg : Grow w noOwn w') : RowFrom B e n xs v w' := by
  refine ⟨h.1, ?_⟩
  rcases h.2 with h2 | ⟨g, cap, cur, h1, h2, h3, h4⟩
  · exact .inl h2
  · have hlt : g < w.heap.size := (Array.getElem?_eq_some_iff.1 h3).1
    exact .inr ⟨g, cap, cur, h1, h2, (hg.block g hlt (fun e => e)).trans h3, h4⟩
theorem RowFrom.slice {B : Nat} {e : TypeId} {n : Nat} {xs : List Value} {v : Value} {w : World} (h : RowFrom B e n xs v w) : ∃ A c, v = .slice A n c ∧ n ≤ c ∧ Reads w w.heap.size 1 A n xs := by
  rcases h.2 with ⟨rfl, hn⟩ | ⟨g, cap, cur, rfl, _, _, h1, _⟩
  · have hx := h.1
    subst hn
    simp at hx
    subst hx
    exact ⟨none, 0, rfl, Nat.le_refl _, Reads.none_⟩
  · exact ⟨_, cap, rfl, h1, Reads.of_own h⟩
theorem gw_row0 (B : Nat) (hw : slWants ops S o = some true) (hnb : bigs.contains k = false) (hp : preds.contains k = true) (hCB : ∀ w, C w → B ≤ w.heap.size) (hCR : ∀ w w', C w → Grow w noOwn w' → C w' ∧ R w w') (hRG : ∀ w w', R w w' → Grow w noOwn w')
    (t e : TypeId) (ho : o.op = .buildSlice t 0 #[]) (ht : P.underlying t = some (.slice e)) (z : Value) (bytes : Nat) (hz : Row3 P e z 1 bytes)
    (h : GW P ops C R R' bigs preds d Fin (k + 1) rest (setD S o.dst (.pred (RowFrom B e 0 [])))) : GW P ops C R R' bigs preds d Fin k (o :: rest) S :=
  gw_any hw (.pred (RowFrom B e 0 [])) (.inr ⟨by simpa using hp, fun v w w' _ _ hR hv => RowFrom.grow (show RowFrom B e 0 [] v w from hv) (hRG _ _ hR)⟩) (fun γ w hC _ => by
    unfold yld
    rw [run_buildSlice_row (P := P) (w := w) (slAct S γ d).eval t 0 #[] ho e ht z 1 bytes hz (by omega) [] (by simp [slCells, Instr.fill])]
    have hg : Grow w noOwn (w.alloc (.cells [].toArray e)) := (Grow.refl w _).alloc _
    refine ⟨(hCR _ _ hC hg).1, ?_, ?_⟩
    · unfold eff
      rw [if_neg (by rw [hnb]; exact Bool.false_ne_true)]
      exact (hCR _ _ hC hg).2
    · exact ⟨rfl, .inr ⟨w.heap.size, 0, #[], rfl, hCB w hC, heap_alloc_new w _, Nat.le_refl _, Nat.zero_le _, rfl, rfl⟩⟩) h
/-- append onto a row of which the predicate tells: it lies in blocks from B on. -/
theorem gw_append (B : Nat) (hw : slWants ops S o = some true) (hb : bigs.contains k = true) (hp : preds.contains k = true) (hCB : ∀ w, C w → B ≤ w.heap.size) (hCR : ∀ w w', C w → Grow w (fun i => B ≤ i) w' → C w' ∧ R' w w') (hRG : ∀ w w', R w w' → Grow w noOwn w')
    (s : Nat) (ty : TypeId) (ho : o.op = .call { callee := .builtin .append, args := #[.tmp s, x'], argTypes := #[ty, ty] })
    (e : TypeId) (n : Nat) (xs : List Value) (hs : S[s]? = some (.pred (RowFrom B e n xs))) (A : Option Addr) (m c : Nat) (hx : slEval S x' = some (.slice A m c)) (news : List Value) (hr : ∀ w, C w → Reads w w.heap.size 1 A m news) (h1 : ∀ u ∈ news, u.oneCell' = true)
    (ht : P.underlying ty = some (.slice e)) (z : Value) (bytes : Nat) (hz : Row3 P e z 1 bytes) (hzs : z.cells.size = 1) (h63 : n + m ≤ maxLen) (hbytes : (n + m) * bytes ≤ 140737488355328)
    (h : GW P ops C R R' bigs preds d Fin (k + 1) rest (setD S o.dst (.pred (RowFrom B e (n + m) (xs ++ news))))) : GW P ops C R R' bigs preds d Fin k (o :: rest) S :=
  gw_any hw (.pred (RowFrom B e (n + m) (xs ++ news))) (.inr ⟨by simpa using hp, fun v w w' _ _ hR hv => RowFrom.grow (show RowFrom B e (n + m) (xs ++ news) v w from hv) (hRG _ _ hR)⟩) (fun γ w hC hV => by
    have hv : RowFrom B e n xs (γ s) w := hV s _ (List.mem_append_left _ (List.mem_filterMap.2 ⟨.tmp s, by simp [ho, Op.operands, Call.operands], rfl⟩)) hs
    obtain ⟨ti, hti, hz0, hz1, hz2⟩ := info_parts hz
    obtain ⟨v', w', hrun, h2, h3, h4⟩ := run_append_any (P := P) w B ty o.type e ti z 1 bytes ht hti hz0 hz1 hz2 hzs (by decide) (γ s) n xs hv w.heap.size A m c news (hr w hC) h1 h63 hbytes (hCB w hC)
    have he1 : (slAct S γ d).eval (.tmp s) = γ s := by simp [Act.eval, slAct_tmp, hs, Slot.get]
    have hg : Grow w (fun i => B ≤ i) w' := (Grow.of_grownBy h3).mono (fun i hi e' => by
      rcases hv.2 with ⟨e2, _⟩ | ⟨g, cap, cur, e2, h5, _⟩
      · rw [e2] at e'; cases e'
      · rw [e2] at e'; simp [Value.ownBlock] at e'; omega)
    unfold yld execOp
    simp only [ho, resolve, invoke, builtin, Sem.run_bind, Sem.run_pure, Result.andThen_ok, List.map_toArray, List.map_cons, List.map_nil, he1, slEval_spec hx γ, hrun]
    refine ⟨(hCR _ _ hC hg).1, ?_, h2⟩
    unfold eff
    rw [if_pos hb]
    exact (hCR _ _ hC hg).2) h
/-- A call one of whose arguments is a row of which the predicate tells; its result is one value. -/
theorem gw_call_row (B : Nat) (hw : slWants ops S o = some true) (hnb : bigs.contains k = false) (f : FuncId) (s : Nat) (ts : Array TypeId) (ho : o.op = .call { callee := .value (.func f), args := #[.tmp s], argTypes := ts })
    (e : TypeId) (n : Nat) (xs : List Value) (hs : S[s]? = some (.pred (RowFrom B e n xs))) (c : Value) (hr : ∀ v w, (callFunc f #[v]).run P w = .ok (.enter f #[v]) w)
    (hc : ∀ v w, C w → RowFrom B e n xs v w → Calls P f #[v] w fun e w' => e = .returned c ∧ C w' ∧ R w w') (h : GW P ops C R R' bigs preds d Fin (k + 1) rest (setD S o.dst (.val c))) : GW P ops C R R' bigs preds d Fin k (o :: rest) S :=
  gw_any hw (.val c) (.inl ⟨_, rfl⟩) (fun γ w hC hV => by
    have hv : RowFrom B e n xs (γ s) w := hV s _ (List.mem_append_left _ (List.mem_filterMap.2 ⟨.tmp s, by simp [ho, Op.operands, Call.operands], rfl⟩)) hs
    have he1 : (slAct S γ d).eval (.tmp s) = γ s := by simp [Act.eval, slAct_tmp, hs, Slot.get]
    have hrun : (execOp (slAct S γ d).eval o).run P w = .ok (.enter f #[γ s]) w := by
      exact (run_callOp ho rfl (by simp [he1]) w).trans (hr (γ s) w)
    unfold yld
    rw [hrun]
    refine (hc _ w hC hv).mono fun e w' ⟨he, h1, h2⟩ => ⟨c, he, h1, ?_, rfl⟩
    unfold eff
    rw [if_neg (by rw [hnb]; exact Bool.false_ne_true)]
    exact h2) h
end
attribute [go_sem] slAct slVals Slot.get

set_option maxRecDepth 100000 in
set_option maxHeartbeats 1000000 in
theorem DigestLinks_any (w : World) (n c : Nat) (A : Option Addr) (h l : List (BitVec 8)) (hh : h.length = 32) (hb : Bytes w w.heap.size A n l) :
    Calls Try.prog 6 #[.agg (hv h), .slice A n c] w fun e w' => e = .returned (.bool true) ∧ Grow w noOwn w' := by
  have hM := Mem.nil w noOwn
  by_cases hn : n ≤ 1500
  · have hl := hide hb.len
    go_enter Try.func6, Try.ntmps6
    go_wp2_with (first
      | (refine wpList_box_mem hM rfl 25 _ rfl (.agg (hv h)) rfl (hv h) rfl ?_; clear hM; intro g2 w2 hM)
      | (go_at_call 14; refine (roomy_any _ n c A l (Bytes.more (hM.reads hb (Nat.le_refl _) (fun _ _ e => e)) hM.grow.size) (by omega)).mono ?_; rintro e w3 ⟨A1, c1, rfl, hb1, hc1, hg1⟩; obtain ⟨b1, o1, rfl, hlt1, _⟩ := hb1.form (by omega); replace hM := hM.call hg1))
    have hnc1 : n ≤ c1 := by omega
    have hx2 : Bytes w3 w3.heap.size A n l := Bytes.more (hM.reads hb (Nat.le_refl _) (fun _ _ e => e)) hM.grow.size
    have hq : Quiet (fun w' => Grow w3 noOwn w') (fun w1 w2 => Grow w1 noOwn w2) (fun w1 w2 => Grow w1 (fun i => w3.heap.size ≤ i) w2) := ⟨fun w _ => Grow.refl w _, fun w _ => Grow.refl w _⟩
    refine wp_region_ghost (C := fun w' => Grow w3 noOwn w') (R := fun w1 w2 => Grow w1 noOwn w2) (R' := fun w1 w2 => Grow w1 (fun i => w3.heap.size ≤ i) w2) [16, 18] [14, 16, 18] [] (by kernel_rfl) (by kernel_rfl) (by kernel_rfl) (by kernel_rfl) ((Grow.refl w3 noOwn).drew) hq.1 hq.2 ?_
    simp only [initS, List.map_cons, List.map_nil]
    have hblk : ∀ w', Grow w3 noOwn w' → Blk w' g2 25 (hv h) := fun w' hg => hg.blk (hM.blk 0 rfl) (fun e => e)
    have hy1 := roomy_cut hb1 (unhide hl)
    have hs1 := sha_length (h ++ l)
    have up : ∀ {w' : World} {m : Nat} {B : Option Addr} {q : List (BitVec 8)}, Grow w3 noOwn w' → Bytes w3 w3.heap.size B m q → Bytes w' w'.heap.size B m q := fun hg hb => (hb.grow hg (Nat.le_refl _) (fun _ _ e => e)).more hg.size
    repeat (first
      | (refine gw_move hq rfl _ (.inl rfl) _ rfl ?_; simp only [setD, List.set_cons_succ, List.set_cons_zero])
      | (refine gw_load_blk hq rfl 25 _ rfl g2 25 (hv h) rfl hblk _ Try.underlying25 rfl (size32 _ hh) ?_; simp only [setD, List.set_cons_succ, List.set_cons_zero])
      | (refine gw_pick hq rfl _ _ _ rfl _ _ _ rfl rfl rfl ?_; simp only [setD, List.set_cons_succ, List.set_cons_zero, cond_true])
      | (refine gw_call rfl (by rfl) 21 _ _ rfl #[.agg (hv h), .slice (some ⟨b1, o1, none⟩) n c1] rfl (.agg (hv (sha (h ++ l)))) (fun γ w => by go_simp) (fun w' hC => (Link_any w' n c1 _ h l hh (up hC hy1) (by omega)).mono fun e w'' he => ⟨he.1, hC.then_ he.2, he.2⟩) ?_; simp only [setD, List.set_cons_succ, List.set_cons_zero])
      | (refine gw_call rfl (by rfl) 22 _ _ rfl #[.agg (hv h), .slice A n c] rfl (.agg (hv (sha (h ++ l)))) (fun γ w => by go_simp) (fun w' hC => (RLink_any w' n c _ h l hh (up hC hx2) (by omega)).mono fun e w'' he => ⟨he.1, hC.then_ he.2, he.2⟩) ?_; simp only [setD, List.set_cons_succ, List.set_cons_zero])
      | (refine gw_call rfl (by rfl) 21 _ _ rfl #[.agg (hv h), .slice A n c] rfl (.agg (hv (sha (h ++ l)))) (fun γ w => by go_simp) (fun w' hC => (Link_any w' n c _ h l hh (up hC hx2) (by omega)).mono fun e w'' he => ⟨he.1, hC.then_ he.2, he.2⟩) ?_; simp only [setD, List.set_cons_succ, List.set_cons_zero])
      | (refine gw_row0 w3.heap.size rfl (by rfl) (by rfl) (fun w' hC => hC.size) (fun w' w'' hC hg => ⟨hC.then_ hg, hg⟩) (fun _ _ h => h) 22 5 rfl (by kernel_rfl) (.int .u8 0) 1 (by unfold Row3; kernel_rfl) ?_; simp only [setD, List.set_cons_succ, List.set_cons_zero])
      | (refine gw_append w3.heap.size rfl (by rfl) (by rfl) (fun _ h => h.size) (fun w' w'' hC hg => ⟨hC.trans hg (fun i hi e => absurd hi (Nat.not_lt.2 e)), hg⟩) (fun _ _ h => h) 25 22 rfl 5 0 [] rfl (some ⟨g2, 0, none⟩) 32 32 rfl (h.map V8) (fun w' hC => (hblk w' hC).bytes 0 32 (by rw [hh])) (fun u hu => by obtain ⟨x, _, rfl⟩ := List.mem_map.1 hu; rfl) (by kernel_rfl) (.int .u8 0) 1 (by unfold Row3; kernel_rfl) rfl (by unfold maxLen; omega) (by omega) ?_; simp only [setD, List.set_cons_succ, List.set_cons_zero])
      | (refine gw_append w3.heap.size rfl (by rfl) (by rfl) (fun _ h => h.size) (fun w' w'' hC hg => ⟨hC.trans hg (fun i hi e => absurd hi (Nat.not_lt.2 e)), hg⟩) (fun _ _ h => h) 27 22 rfl 5 (0 + 32) ([] ++ h.map V8) rfl A n c rfl (l.map V8) (fun w' hC => up hC hx2) (fun u hu => by obtain ⟨x, _, rfl⟩ := List.mem_map.1 hu; rfl) (by kernel_rfl) (.int .u8 0) 1 (by unfold Row3; kernel_rfl) rfl (by unfold maxLen; omega) (by omega) ?_; simp only [setD, List.set_cons_succ, List.set_cons_zero])
      | (refine gw_call_row w3.heap.size rfl (by rfl) 15 29 _ rfl 5 (0 + 32 + n) ([] ++ h.map V8 ++ l.map V8) rfl (.agg (hv (sha (h ++ l)))) (fun v w0 => run_callFunc Try.func15 (by kernel_rfl) rfl #[v] w0) (fun v w' hC hv' => by
          obtain ⟨A', c', rfl, hc', hr'⟩ := hv'.slice
          refine (Sum_any w' _ c' A' (h ++ l) (by unfold Bytes; rw [List.map_append]; exact hr') hc' (by omega)).mono fun e w'' he => ⟨he.1, hC.then_ he.2, he.2⟩) ?_; simp only [setD, List.set_cons_succ, List.set_cons_zero])
      | (refine gw_call rfl (by rfl) 17 _ _ rfl #[.slice (some ⟨b1, o1, none⟩) (n + 1) c1, .slice A n c] rfl (.bool true) (fun γ w => by go_simp) (fun w' hC => (stands_any w' n c1 c _ _ l (up hC hb1) hc1 (up hC hx2) (by omega)).mono fun e w'' ⟨he, k, hk⟩ => ⟨he, by rw [hk]; exact hC.drewN k, by rw [hk]; exact (Grow.refl _ _).drewN k⟩) ?_; simp only [setD, List.set_cons_succ, List.set_cons_zero])
      | (refine gw_call rfl (by rfl) 23 _ _ rfl #[.agg (hv h)] rfl (.string (strOf (hexl h))) (fun γ w => by go_simp) (fun w' hC => (Hex_any w' h hh).mono fun e w'' he => ⟨he.1, hC.then_ he.2, he.2⟩) ?_; simp only [setD, List.set_cons_succ, List.set_cons_zero])
      | (refine gw_call rfl (by rfl) 24 _ _ rfl #[.agg (hv h)] rfl (.string (strOf (hexl h))) (fun γ w => by go_simp) (fun w' hC => (RHex_any w' h hh).mono fun e w'' he => ⟨he.1, hC.then_ he.2, he.2⟩) ?_; simp only [setD, List.set_cons_succ, List.set_cons_zero])
      | (refine gw_call rfl (by rfl) 18 _ _ rfl #[] rfl (.bool true) (fun γ w => by go_simp) (fun w' hC => (known_any w').mono fun e w'' he => ⟨he.1, hC.then_ he.2, he.2⟩) ?_; simp only [setD, List.set_cons_succ, List.set_cons_zero])
      | (refine gw_pure_ex hq rfl (fun K hK => ?_); go_simp; refine hK _ ?_; clear hK K; simp only [setD, List.set_cons_succ, List.set_cons_zero]))
    intro γ w4 hC4 _
    simp only [slAct, slVals, Slot.get]
    go_wp2_with fail
    go_ret
    exact ⟨rfl, hM.grow.then_ hC4⟩
  · go_enter Try.func6, Try.ntmps6
    go_wp2_with (first
      | (refine wpList_box_mem hM rfl 25 _ rfl (.agg (hv h)) rfl (hv h) rfl ?_; clear hM; intro g2 w2 hM))
    go_ret
    exact ⟨rfl, hM.grow⟩
end Go.Proofs.Ytggpchdgljhmdaa
