/- cert's law: CertTells. -/
import Derived.Test.YtgdfdombcngpnaaLawP
namespace Go.Proofs.Ytgdfdombcngpnaa
open Go.RowKit Go.MapKept
set_option linter.unusedSimpArgs false
set_option linter.unusedVariables false
section
variable {l : List Oper} {w0 w : World} {own : Nat → Prop} {L : List Item} {B : Nat} {D : World → Prop} {d : List Deferred} {Fin : List Slot → Prop} {k : Nat} {o : Oper} {rest : List Oper} {S : List Slot} {bigs preds : List Nat}
theorem gl_eqv (v : Vt) (hv : v.Ok) {x y : Operand} {t' : TypeId} (ho : o.op = .binOp .eql 47 x y t') (hw : slWantsL l S o.guard = some true) (hx : slEval S x = some (.agg (vtc v).toArray)) (hy : slEval S y = some (.agg (vtc v).toArray))
    (h : GW Try.prog l.toArray (CM w0 own L B) D Grows (GrowsB B) bigs preds d Fin (k + 1) rest (setD S o.dst (.val (.bool true)))) : GW Try.prog l.toArray (CM w0 own L B) D Grows (GrowsB B) bigs preds d Fin k (o :: rest) S :=
  gw_read cm_quiet (slWants_of hw) (.bool true) (fun γ w hC => by
    unfold execOp
    simp only [ho, slEval_spec hx γ, slEval_spec hy γ, Sem.run_bind, eqg_vote, Result.andThen_ok, run_eql_struct, eq_vote _ v hv, Sem.run_pure]) h
theorem gl_eqb (b : Bool) {x y : Operand} {t' : TypeId} (ho : o.op = .binOp .eql 4 x y t') (hw : slWantsL l S o.guard = some true) (hx : slEval S x = some (.bool b)) (hy : slEval S y = some (.bool b))
    (h : GW Try.prog l.toArray (CM w0 own L B) D Grows (GrowsB B) bigs preds d Fin (k + 1) rest (setD S o.dst (.val (.bool true)))) : GW Try.prog l.toArray (CM w0 own L B) D Grows (GrowsB B) bigs preds d Fin k (o :: rest) S := by
  refine gl_pure hw (fun K hK => ⟨.bool true, fun γ w => ?_, hK _ h⟩)
  unfold execOp
  simp only [ho, slEval_spec hx γ, slEval_spec hy γ]
  cases b <;> simp [go_sem]
/-- A row of these ints lies behind it. -/
def IntsV (xs : List Int) (v : Value) (w : World) : Prop := ∃ A c, v = .slice A xs.length c ∧ Reads w w.heap.size 1 A xs.length (xs.map (Value.int .i64))
theorem intsV_grow {xs : List Int} (v : Value) (w w' : World) (hg : Grow w noOwn w') (h : IntsV xs v w) : IntsV xs v w' := by
  obtain ⟨A, c, e, hr⟩ := h
  exact ⟨A, c, e, hr.up hg⟩
theorem gl_callP {P : Program} {f : FuncId} {xs : Array Operand} {ts : Array TypeId} (ho : o.op = .call { callee := .value (.func f), args := xs, argTypes := ts }) (hw : slWantsL l S o.guard = some true) (hnb : bigs.contains k = false) (hp : preds.contains k = true) (args : Array Value) (hx : xs.toList.map (slEval S) = args.toList.map some) (V : Value → World → Prop)
    (hst : ∀ v w w', Grow w noOwn w' → V v w → V v w') (hr : ∀ γ w, (execOp (slAct S γ d).eval o).run P w = .ok (.enter f args) w)
    (hc : ∀ w, CM w0 own L B w → Calls P f args w fun e w' => ∃ c, e = .returned c ∧ Grow w noOwn w' ∧ V c w') (h : GW P l.toArray (CM w0 own L B) D Grows (GrowsB B) bigs preds d Fin (k + 1) rest (setD S o.dst (.pred V))) : GW P l.toArray (CM w0 own L B) D Grows (GrowsB B) bigs preds d Fin k (o :: rest) S :=
  gw_callP (slWants_of hw) hnb hp f xs ts ho args hx V (fun v w w' _ _ hg hv => hst v w w' hg hv) hr (fun w hC => (hc w hC).mono fun e w' ⟨c, he, hg, hv⟩ => ⟨c, he, (cm_grow w w' hC hg).1, hg, hv⟩) h
/-- A call of two, of both of which a predicate tells. -/
theorem gl_call2P {P : Program} {f : FuncId} {s1 s2 : Nat} {ts : Array TypeId} (ho : o.op = .call { callee := .value (.func f), args := #[.tmp s1, .tmp s2], argTypes := ts }) (hw : slWantsL l S o.guard = some true) (hnb : bigs.contains k = false) (V1 V2 : Value → World → Prop) (hs1 : S[s1]? = some (.pred V1)) (hs2 : S[s2]? = some (.pred V2)) (c : Value)
    (hr : ∀ u v w, (callFunc f #[u, v]).run P w = .ok (.enter f #[u, v]) w)
    (hc : ∀ u v w, CM w0 own L B w → V1 u w → V2 v w → Calls P f #[u, v] w fun e w' => e = .returned c ∧ Grow w noOwn w') (h : GW P l.toArray (CM w0 own L B) D Grows (GrowsB B) bigs preds d Fin (k + 1) rest (setD S o.dst (.val c))) : GW P l.toArray (CM w0 own L B) D Grows (GrowsB B) bigs preds d Fin k (o :: rest) S :=
  gw_any (slWants_of hw) (.val c) (.inl ⟨_, rfl⟩) (fun γ w hC _ hV => by
    have hv1 : V1 (γ s1) w := hV s1 _ (List.mem_append_left _ (List.mem_filterMap.2 ⟨.tmp s1, by simp [ho, Op.operands, Call.operands], rfl⟩)) hs1
    have hv2 : V2 (γ s2) w := hV s2 _ (List.mem_append_left _ (List.mem_filterMap.2 ⟨.tmp s2, by simp [ho, Op.operands, Call.operands], rfl⟩)) hs2
    have he1 : (slAct S γ d).eval (.tmp s1) = γ s1 := by simp [Act.eval, slAct_tmp, hs1, Slot.get]
    have he2 : (slAct S γ d).eval (.tmp s2) = γ s2 := by simp [Act.eval, slAct_tmp, hs2, Slot.get]
    have hrun : (execOp (slAct S γ d).eval o).run P w = .ok (.enter f #[γ s1, γ s2]) w := by
      exact (run_callOp ho rfl (by simp [he1, he2]) w).trans (hr (γ s1) (γ s2) w)
    unfold yld
    rw [hrun]
    refine (hc _ _ w hC hv1 hv2).mono fun e w' ⟨he, hg⟩ => ⟨c, he, (cm_grow w w' hC hg).1, ?_, rfl⟩
    unfold eff
    rw [if_neg (by rw [hnb]; exact Bool.false_ne_true)]
    exact hg) h
end
theorem vote_olds {w : World} {g : Nat} {T : TypeId} {v : Vt} (hv : v.Ok) (h : Blk w g T (vtc v).toArray) : Old w noOwn ⟨g, 0, none⟩ (.int .i64 v.k) ∧ Old w noOwn ⟨g, 1, none⟩ (.int .i64 v.s) ∧ Old w noOwn ⟨g, 2, none⟩ (.int .i64 v.v) ∧ Old w noOwn ⟨g, 35, none⟩ (.int .i64 v.f) ∧ OldR w noOwn g 3 (v.sum.map V8) ∧ OldR w noOwn g 0 (vtc v) := by
  refine ⟨old_no ((h.cell 0).trans rfl), old_no ((h.cell 1).trans rfl), old_no ((h.cell 2).trans rfl), old_no ((h.cell 35).trans (by simpa using vtc_35 hv)), oldR_no (fun j u hu => ?_) h.lt, oldR_no (blk_range2 h) h.lt⟩
  obtain ⟨ad, e, _, h2⟩ := (vote_sum hv h).2 (by omega)
  cases e
  have := h2 j u hu
  rcases j with _ | j <;> simpa [Addr.add] using this
attribute [local irreducible] wpList Code.wp GW Calls
set_option maxRecDepth 100000 in
set_option maxHeartbeats 8000000 in
theorem CertTells_any (w : World) (nodes : Int) (n cap : Nat) (B : Option Addr) (lv : List Vt) (v : Vt) (hv : v.Ok) (hl : Reads w w.heap.size 68 B n (vCells lv)) (hn : lv.length = n) (hcap : n ≤ cap) (hok : ∀ v ∈ lv, v.Ok) :
    Calls Try.prog 7 #[.int .i64 nodes, .slice B n cap, .agg (vtc v).toArray] w fun e w' => e = .returned (.bool true) ∧ Grow w noOwn w' := by
  have hM := Mem.nil w noOwn
  by_cases hbig : n ≤ 30
  · obtain ⟨ks, hks⟩ : ∃ ks, ks = keysOf (seed1 1#8) (cnt nodes) := ⟨_, rfl⟩
    have hkl : ks.length ≤ 10 := by rw [hks, keysOf_length]; exact cnt_le nodes
    have HKS := hide hks
    obtain ⟨cv, hcv⟩ : ∃ cv, cv = castOf ks v.k v.s v.v v.sum v.f := ⟨_, rfl⟩
    have cok : cv.Ok := by rw [hcv]; exact castOf_ok _ _ _ _ _ _ hv.sum
    have z4 : SzA (vtc cv).toArray 68 := ⟨by simpa using vtc_len cok⟩
    have HCV := hide hcv
    have z5 : SzL (v.sum.map V8) 32 := ⟨by simpa using hv.sum⟩
    have z6 : SzL (vtc v) 68 := ⟨vtc_len hv⟩
    clear hks hcv
    go_enter Try.func7, Try.ntmps7
    go_wp2_with (first
      | ((with_reducible refine wl_shape ?_); first | (apply wl_boxa; exact rfl; exact hM; exact rfl; exact rfl; clear hM; intro gg ww hM; simp only [putT, List.set_cons_succ, List.set_cons_zero]) | (apply wl_box1; exact rfl; exact hM; exact rfl; exact rfl; exact rfl; clear hM; intro gg ww hM; simp only [putT, List.set_cons_succ, List.set_cons_zero]) | (apply wl_alloc; exact rfl; exact hM; exact rfl; exact inferInstance; clear hM; intro gg ww hM; simp only [putT, List.set_cons_succ, List.set_cons_zero]) | (apply wl_ld; exact rfl; exact hM; exact rfl; exact rfl; exact inferInstance; exact inferInstance; simp only [putT, List.set_cons_succ, List.set_cons_zero]) | (apply wl_lda; exact rfl; exact hM; exact rfl; exact rfl; exact inferInstance; exact inferInstance; exact inferInstance; exact inferInstance; simp only [putT, List.set_cons_succ, List.set_cons_zero]) | (apply wl_ldr; exact rfl; exact hM; exact rfl; exact rfl; exact inferInstance; exact inferInstance; exact inferInstance; exact inferInstance; simp only [putT, List.set_cons_succ, List.set_cons_zero]) | (apply wl_st; exact rfl; exact hM; exact rfl; exact rfl; exact rfl; exact rfl; exact inferInstance; exact inferInstance; clear hM; intro ww hM; simp only [putT, List.set_cons_succ, List.set_cons_zero]) | (apply wl_sta; exact rfl; exact hM; exact rfl; exact rfl; exact rfl; exact all_oneCell_toArray One.out; exact inferInstance; exact inferInstance; exact inferInstance; clear hM; intro ww hM; simp only [putT, List.set_cons_succ, List.set_cons_zero]) | (apply wl_bs0; exact rfl; exact hM; exact rfl; exact inferInstance; clear hM; intro gg ww hM; simp only [putT, List.set_cons_succ, List.set_cons_zero]) | (apply wl_bs1a; exact rfl; exact hM; exact rfl; exact inferInstance; exact rfl; exact inferInstance; clear hM; intro gg ww hM; simp only [putT, List.set_cons_succ, List.set_cons_zero]) | (apply wl_bs11; exact rfl; exact hM; exact rfl; exact inferInstance; exact rfl; exact rfl; clear hM; intro gg ww hM; simp only [putT, List.set_cons_succ, List.set_cons_zero]) | (apply wl_conv; exact rfl; exact hM; exact rfl; exact rfl; exact inferInstance; exact inferInstance; simp only [putT, List.set_cons_succ, List.set_cons_zero]))
      | (refine wpList_build_to rfl 30 #[(0, .const (.int .u8 1))] rfl (Go.Proofs.Ytgdfdombcngpnaa.hv (seed1 1#8)) (by kernel_rfl) ?_)
      | (go_at_call 17; refine (New_any _ nodes (seed1 1#8) rfl).mono ?_; rintro e w1 ⟨⟨p, rfl, g, A, c, rfl, hr0⟩, hg⟩; rw [← unhide HKS] at hr0; replace hM := hM.call hg; have hr1 := hide hr0; clear hr0 hg)
      | (go_at_call 19; refine (RNew_any _ nodes (seed1 1#8) rfl).mono ?_; rintro e w2 ⟨⟨p, rfl, g2, A2, c2, rfl, hr0⟩, hg⟩; rw [← unhide HKS] at hr0; replace hM := hM.call hg; have hr := hide ((unhide hr1).grow hg); have hrx := hide hr0; have hg0 := hM.grow; have hl2 := hide (hl.up hM.grow); obtain ⟨o0, o1, o2, o3, o4, o5⟩ := vote_olds hv (hM.blk 0 rfl); clear hM; have hM := Mem.nil w2 noOwn; clear hr0 hg hr1)
      | (go_at_call 27; refine (Cast_any _ g c A ks v.k v.s v.v v.f v.sum ((unhide hr).grow hM.grow) hv.sum).mono ?_; rw [← unhide HCV]; rintro e1 w3 ⟨rfl, hg⟩; replace hM := hM.call hg; clear hg))
    have hwr := whoR_eq ks lv v.k v.s v.v v.sum
    obtain ⟨wh, hwh⟩ : ∃ wh, wh = whoOf ks lv v.k v.s v.v v.sum := ⟨_, rfl⟩
    have hw10 : wh.length ≤ 10 := by rw [hwh]; exact whoOf_len ..
    rw [← hwh] at hwr
    have HWH := hide hwh
    have HWR := hide hwr
    clear hwh hwr
    refine wp_region_mem [] [34, 45] [] hM (by kernel_rfl) (by kernel_rfl) (by kernel_rfl) (by kernel_rfl) ?_; simp only [initS, Act.put, List.setIfInBounds_toArray, List.set_cons_succ, List.set_cons_zero, List.map_cons, List.map_nil]
    repeat (first
      | (apply gl_move; (first | exact .inl rfl | exact .inr rfl); exact rfl; exact rfl; simp only [setD, List.set_cons_succ, List.set_cons_zero]) | (apply gl_ld; exact rfl; exact rfl; exact rfl; exact inferInstance; exact inferInstance; simp only [setD, List.set_cons_succ, List.set_cons_zero]) | (apply gl_lda; exact rfl; exact rfl; exact rfl; exact inferInstance; exact inferInstance; exact inferInstance; exact inferInstance; simp only [setD, List.set_cons_succ, List.set_cons_zero]) | (apply gl_ldr; exact rfl; exact rfl; exact rfl; exact inferInstance; exact inferInstance; exact inferInstance; exact inferInstance; simp only [setD, List.set_cons_succ, List.set_cons_zero])
      | (refine gl_eqv cv cok rfl rfl rfl rfl ?_; simp only [setD, List.set_cons_succ, List.set_cons_zero])
      | (refine gl_eqb (goodOf ks v) rfl rfl rfl rfl ?_; simp only [setD, List.set_cons_succ, List.set_cons_zero])
      | (refine gl_eqb (meetsOf ks lv v.k v.s v.v v.sum) rfl rfl rfl rfl ?_; simp only [setD, List.set_cons_succ, List.set_cons_zero])
      | (apply gl_pick; exact rfl; exact rfl; exact rfl; exact rfl; exact rfl; simp only [setD, List.set_cons_succ, List.set_cons_zero, cond_true, cond_false]) | (apply gl_skip; exact rfl; simp only [setD, List.set_cons_succ, List.set_cons_zero])
      | (refine gl_call (f := 25) rfl rfl (by rfl) #[.pointer (some ⟨g2, 0, none⟩), .int .i64 v.k, .int .i64 v.s, .int .i64 v.v, .agg (v.sum.map V8).toArray, .int .i64 v.f] rfl (.agg (vtc cv).toArray) (fun γ w => by go_simp) (fun w' hC' => (by rw [unhide HCV]; exact RCast_any w' g2 c2 A2 ks v.k v.s v.v v.f v.sum ((unhide hrx).grow hC'.1.grow) hv.sum)) ?_; simp only [setD, List.set_cons_succ, List.set_cons_zero])
      | (refine gl_call (f := 28) rfl rfl (by rfl) #[.pointer (some ⟨g, 0, none⟩), .agg (vtc v).toArray] rfl (.bool (goodOf ks v)) (fun γ w => by go_simp) (fun w' hC' => (Good_any w' g c A ks v ((unhide hr).grow hC'.1.grow) hv)) ?_; simp only [setD, List.set_cons_succ, List.set_cons_zero])
      | (refine gl_call (f := 22) rfl rfl (by rfl) #[.pointer (some ⟨g2, 0, none⟩), .agg (vtc v).toArray] rfl (.bool (goodOf ks v)) (fun γ w => by go_simp) (fun w' hC' => (RGood_any w' g2 c2 A2 ks v ((unhide hrx).grow hC'.1.grow) hv)) ?_; simp only [setD, List.set_cons_succ, List.set_cons_zero])
      | (refine gl_callP (f := 30) rfl rfl (by decide) (by decide) #[.pointer (some ⟨g, 0, none⟩), .slice B n cap, .int .i64 v.k, .int .i64 v.s, .int .i64 v.v, .agg (v.sum.map V8).toArray] rfl (IntsV wh) intsV_grow (fun γ w => by go_simp) (fun w' hC' => ?_) ?_
         · refine (Who_any w' g c n cap A B ks lv v.k v.s v.v v.sum ((unhide hr).grow hC'.1.grow) ((unhide hl2).up hC'.1.grow) hn hcap hok hv.sum).mono ?_
           rw [← unhide HWH]
           rintro e w'' ⟨A9, c9, rfl, hM9⟩
           exact ⟨_, rfl, hM9.grow, A9, c9, rfl, Reads.of_own (hM9.row 0 rfl)⟩
         simp only [setD, List.set_cons_succ, List.set_cons_zero])
      | (refine gl_callP (f := 31) rfl rfl (by decide) (by decide) #[.pointer (some ⟨g2, 0, none⟩), .slice B n cap, .int .i64 v.k, .int .i64 v.s, .int .i64 v.v, .agg (v.sum.map V8).toArray] rfl (IntsV wh) intsV_grow (fun γ w => by go_simp) (fun w' hC' => ?_) ?_
         · refine (RWho_any w' g2 c2 n cap A2 B ks lv v.k v.s v.v v.sum ((unhide hrx).grow hC'.1.grow) ((unhide hl2).up hC'.1.grow) hn hok hv.sum (by omega)).mono ?_
           rw [← unhide HWR]
           rintro e w'' ⟨A9, c9, rfl, hM9⟩
           exact ⟨_, rfl, hM9.grow, A9, c9, rfl, Reads.of_own (hM9.row 0 rfl)⟩
         simp only [setD, List.set_cons_succ, List.set_cons_zero])
      | (refine gl_call2P (f := 29) rfl rfl (by decide) (IntsV wh) (IntsV wh) rfl rfl (.bool true) (fun u v w0 => run_callFunc Try.func29 (by kernel_rfl) rfl #[u, v] w0) (fun u v w' hC' hu hv => ?_) ?_
         · obtain ⟨A8, c8, rfl, h8⟩ := hu
           obtain ⟨A9, c9, rfl, h9⟩ := hv
           exact Ints_same h8 h9 rfl (by omega)
         simp only [setD, List.set_cons_succ, List.set_cons_zero])
      | (refine gl_call (f := 32) rfl rfl (by rfl) #[.pointer (some ⟨g, 0, none⟩), .slice B n cap, .int .i64 v.k, .int .i64 v.s, .int .i64 v.v, .agg (v.sum.map V8).toArray] rfl (.bool (meetsOf ks lv v.k v.s v.v v.sum)) (fun γ w => by go_simp) (fun w' hC' => (Meets_any w' g c n cap A B ks lv v.k v.s v.v v.sum ((unhide hr).grow hC'.1.grow) ((unhide hl2).up hC'.1.grow) hn hcap hok hv.sum (by omega))) ?_; simp only [setD, List.set_cons_succ, List.set_cons_zero])
      | (refine gl_call (f := 33) rfl rfl (by rfl) #[.pointer (some ⟨g2, 0, none⟩), .slice B n cap, .int .i64 v.k, .int .i64 v.s, .int .i64 v.v, .agg (v.sum.map V8).toArray] rfl (.bool (meetsOf ks lv v.k v.s v.v v.sum)) (fun γ w => by go_simp) (fun w' hC' => (RMeets_any w' g2 c2 n cap A2 B ks lv v.k v.s v.v v.sum ((unhide hrx).grow hC'.1.grow) ((unhide hl2).up hC'.1.grow) hn hcap hok hv.sum (by omega))) ?_; simp only [setD, List.set_cons_succ, List.set_cons_zero])
      | (refine gl_call (f := 34) rfl rfl (by rfl) #[] rfl (.bool true) (fun γ w => by go_simp) (fun w' hC' => (known6_any w')) ?_; simp only [setD, List.set_cons_succ, List.set_cons_zero])
      | (apply gl_pure; exact rfl; intro K hK; go_simp; refine hK _ ?_; clear hK K; simp only [setD, List.set_cons_succ, List.set_cons_zero]))
    refine gw_nil ?_; intro γ w4 hC' hk'; simp only [slAct, slVals, Slot.get]
    clear hM
    have hM := hC'.1
    clear hC' hk'
    go_wp2_with (first | ((with_reducible refine wl_shape ?_); first | (apply wl_boxa; exact rfl; exact hM; exact rfl; exact rfl; clear hM; intro gg ww hM; simp only [putT, List.set_cons_succ, List.set_cons_zero]) | (apply wl_box1; exact rfl; exact hM; exact rfl; exact rfl; exact rfl; clear hM; intro gg ww hM; simp only [putT, List.set_cons_succ, List.set_cons_zero]) | (apply wl_alloc; exact rfl; exact hM; exact rfl; exact inferInstance; clear hM; intro gg ww hM; simp only [putT, List.set_cons_succ, List.set_cons_zero]) | (apply wl_ld; exact rfl; exact hM; exact rfl; exact rfl; exact inferInstance; exact inferInstance; simp only [putT, List.set_cons_succ, List.set_cons_zero]) | (apply wl_lda; exact rfl; exact hM; exact rfl; exact rfl; exact inferInstance; exact inferInstance; exact inferInstance; exact inferInstance; simp only [putT, List.set_cons_succ, List.set_cons_zero]) | (apply wl_ldr; exact rfl; exact hM; exact rfl; exact rfl; exact inferInstance; exact inferInstance; exact inferInstance; exact inferInstance; simp only [putT, List.set_cons_succ, List.set_cons_zero]) | (apply wl_st; exact rfl; exact hM; exact rfl; exact rfl; exact rfl; exact rfl; exact inferInstance; exact inferInstance; clear hM; intro ww hM; simp only [putT, List.set_cons_succ, List.set_cons_zero]) | (apply wl_sta; exact rfl; exact hM; exact rfl; exact rfl; exact rfl; exact all_oneCell_toArray One.out; exact inferInstance; exact inferInstance; exact inferInstance; clear hM; intro ww hM; simp only [putT, List.set_cons_succ, List.set_cons_zero]) | (apply wl_bs0; exact rfl; exact hM; exact rfl; exact inferInstance; clear hM; intro gg ww hM; simp only [putT, List.set_cons_succ, List.set_cons_zero]) | (apply wl_bs1a; exact rfl; exact hM; exact rfl; exact inferInstance; exact rfl; exact inferInstance; clear hM; intro gg ww hM; simp only [putT, List.set_cons_succ, List.set_cons_zero]) | (apply wl_bs11; exact rfl; exact hM; exact rfl; exact inferInstance; exact rfl; exact rfl; clear hM; intro gg ww hM; simp only [putT, List.set_cons_succ, List.set_cons_zero]) | (apply wl_conv; exact rfl; exact hM; exact rfl; exact rfl; exact inferInstance; exact inferInstance; simp only [putT, List.set_cons_succ, List.set_cons_zero])))
    go_ret
    exact ⟨rfl, hg0.then_ hM.grow⟩
  · go_enter Try.func7, Try.ntmps7
    go_wp2_with (first | ((with_reducible refine wl_shape ?_); first | (apply wl_boxa; exact rfl; exact hM; exact rfl; exact rfl; clear hM; intro gg ww hM; simp only [putT, List.set_cons_succ, List.set_cons_zero]) | (apply wl_box1; exact rfl; exact hM; exact rfl; exact rfl; exact rfl; clear hM; intro gg ww hM; simp only [putT, List.set_cons_succ, List.set_cons_zero]) | (apply wl_alloc; exact rfl; exact hM; exact rfl; exact inferInstance; clear hM; intro gg ww hM; simp only [putT, List.set_cons_succ, List.set_cons_zero]) | (apply wl_ld; exact rfl; exact hM; exact rfl; exact rfl; exact inferInstance; exact inferInstance; simp only [putT, List.set_cons_succ, List.set_cons_zero]) | (apply wl_lda; exact rfl; exact hM; exact rfl; exact rfl; exact inferInstance; exact inferInstance; exact inferInstance; exact inferInstance; simp only [putT, List.set_cons_succ, List.set_cons_zero]) | (apply wl_ldr; exact rfl; exact hM; exact rfl; exact rfl; exact inferInstance; exact inferInstance; exact inferInstance; exact inferInstance; simp only [putT, List.set_cons_succ, List.set_cons_zero]) | (apply wl_st; exact rfl; exact hM; exact rfl; exact rfl; exact rfl; exact rfl; exact inferInstance; exact inferInstance; clear hM; intro ww hM; simp only [putT, List.set_cons_succ, List.set_cons_zero]) | (apply wl_sta; exact rfl; exact hM; exact rfl; exact rfl; exact rfl; exact all_oneCell_toArray One.out; exact inferInstance; exact inferInstance; exact inferInstance; clear hM; intro ww hM; simp only [putT, List.set_cons_succ, List.set_cons_zero]) | (apply wl_bs0; exact rfl; exact hM; exact rfl; exact inferInstance; clear hM; intro gg ww hM; simp only [putT, List.set_cons_succ, List.set_cons_zero]) | (apply wl_bs1a; exact rfl; exact hM; exact rfl; exact inferInstance; exact rfl; exact inferInstance; clear hM; intro gg ww hM; simp only [putT, List.set_cons_succ, List.set_cons_zero]) | (apply wl_bs11; exact rfl; exact hM; exact rfl; exact inferInstance; exact rfl; exact rfl; clear hM; intro gg ww hM; simp only [putT, List.set_cons_succ, List.set_cons_zero]) | (apply wl_conv; exact rfl; exact hM; exact rfl; exact rfl; exact inferInstance; exact inferInstance; simp only [putT, List.set_cons_succ, List.set_cons_zero])))
    go_ret
    exact ⟨rfl, hM.grow⟩
end Go.Proofs.Ytgdfdombcngpnaa
