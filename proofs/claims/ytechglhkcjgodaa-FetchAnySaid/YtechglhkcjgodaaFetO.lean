/- fetch's laws: FetchAny. -/
import Derived.Test.YtechglhkcjgodaaFetK1
import Derived.Test.YtechglhkcjgodaaFetV
namespace Go.Proofs.Ytechglhkcjgodaa
open Go.RowKit Go.MapKept
set_option linter.unusedSimpArgs false
set_option linter.unusedVariables false
section
variable {P : Program} {l : List Oper} {C : World → Prop} {w : World} {d : List Deferred} {Fin : List Slot → Prop} {k : Nat} {o : Oper} {rest : List Oper} {S : List Slot} {bigs preds : List Nat}
theorem gb_pick {x y z : Operand} (ho : o.op = .pick x y z) (hw : slWantsL l S o.guard = some true) {b : Bool} {u v : Value} (hx : slEval S x = some (.bool b)) (hy : slEval S y = some u) (hz : slEval S z = some v)
    (h : GW P l.toArray C Any1 SameW AnyB bigs preds d Fin (k + 1) rest (setD S o.dst (.val (bif b then u else v)))) : GW P l.toArray C Any1 SameW AnyB bigs preds d Fin k (o :: rest) S := gw_pick quietB (slWants_of hw) x y z ho b u v hx hy hz h
theorem gb_cmp (b : Bool) {bop : BinOp} {t t' : TypeId} {x y : Operand} (ho : o.op = .binOp bop t x y t') (hw : slWantsL l S o.guard = some true) {kd : IntKind} {m n : Int} (hx : slEval S x = some (.int kd m)) (hy : slEval S y = some (.int kd n)) (hb : cmpB bop m n = some b)
    (h : GW P l.toArray C Any1 SameW AnyB bigs preds d Fin (k + 1) rest (setD S o.dst (.val (.bool b)))) : GW P l.toArray C Any1 SameW AnyB bigs preds d Fin k (o :: rest) S := gw_cmp quietB (slWants_of hw) bop t t' x y ho kd m n hx hy b hb h
theorem gb_bigV {f : FuncId} {xs : Array Operand} {ts : Array TypeId} (ho : o.op = .call { callee := .value (.func f), args := xs, argTypes := ts }) (hw : slWantsL l S o.guard = some true) (hb : bigs.contains k = true) (args : Array Value) (hx : xs.toList.map (slEval S) = args.toList.map some) (c : Value) (hr : ∀ γ w, (execOp (slAct S γ d).eval o).run P w = .ok (.enter f args) w)
    (hc : ∀ w, C w → Calls P f args w fun e w' => e = .returned c ∧ C w') (h : GW P l.toArray C Any1 SameW AnyB bigs preds d Fin (k + 1) rest (setD S o.dst (.val c))) : GW P l.toArray C Any1 SameW AnyB bigs preds d Fin k (o :: rest) S :=
  gw_any (slWants_of hw) (.val c) (.inl ⟨_, rfl⟩) (fun γ w hC _ _ => by
    unfold yld
    rw [hr γ w]
    refine (hc w hC).mono fun e w' ⟨he, h1⟩ => ⟨c, he, h1, ?_, rfl⟩
    unfold eff
    rw [if_pos hb]
    trivial) h
theorem gb_bigP {f : FuncId} {s : Nat} {x' : Operand} {ts : Array TypeId} (ho : o.op = .call { callee := .value (.func f), args := #[.tmp s, x'], argTypes := ts }) (hw : slWantsL l S o.guard = some true) (hb : bigs.contains k = true) (hp : preds.contains k = true) (V V' : Value → World → Prop) (hs : S[s]? = some (.pred V)) (u : Value) (hx : slEval S x' = some u)
    (hr : ∀ v w, (callFunc f #[v, u]).run P w = .ok (.enter f #[v, u]) w)
    (hc : ∀ v w, C w → V v w → Calls P f #[v, u] w fun e w' => ∃ c, e = .returned c ∧ C w' ∧ V' c w') (h : GW P l.toArray C Any1 SameW AnyB bigs preds d Fin (k + 1) rest (setD S o.dst (.pred V'))) : GW P l.toArray C Any1 SameW AnyB bigs preds d Fin k (o :: rest) S :=
  gw_any (slWants_of hw) (.pred V') (.inr ⟨by simpa using hp, fun v w w' _ _ e hv => e ▸ hv⟩) (fun γ w hC _ hV => by
    have hv : V (γ s) w := hV s _ (List.mem_append_left _ (List.mem_filterMap.2 ⟨.tmp s, by simp [ho, Op.operands, Call.operands], rfl⟩)) hs
    have he1 : (slAct S γ d).eval (.tmp s) = γ s := by simp [Act.eval, slAct_tmp, hs, Slot.get]
    have hrun : (execOp (slAct S γ d).eval o).run P w = .ok (.enter f #[γ s, u]) w := by
      exact (run_callOp ho rfl (by simp [he1, slEval_spec hx γ]) w).trans (hr (γ s) w)
    unfold yld
    rw [hrun]
    refine (hc _ w hC hv).mono fun e w' ⟨c, he, h1, h2⟩ => ⟨c, he, h1, ?_, h2⟩
    unfold eff
    rw [if_pos hb]
    trivial) h
theorem gb_bigQ {f : FuncId} {s : Nat} {x' : Operand} {ts : Array TypeId} (ho : o.op = .call { callee := .value (.func f), args := #[.tmp s, x'], argTypes := ts }) (hw : slWantsL l S o.guard = some true) (hb : bigs.contains k = true) (V : Value → World → Prop) (hs : S[s]? = some (.pred V)) (u : Value) (hx : slEval S x' = some u) (c : Value)
    (hr : ∀ v w, (callFunc f #[v, u]).run P w = .ok (.enter f #[v, u]) w)
    (hc : ∀ v w, C w → V v w → Calls P f #[v, u] w fun e w' => e = .returned c ∧ C w') (h : GW P l.toArray C Any1 SameW AnyB bigs preds d Fin (k + 1) rest (setD S o.dst (.val c))) : GW P l.toArray C Any1 SameW AnyB bigs preds d Fin k (o :: rest) S :=
  gw_any (slWants_of hw) (.val c) (.inl ⟨_, rfl⟩) (fun γ w hC _ hV => by
    have hv : V (γ s) w := hV s _ (List.mem_append_left _ (List.mem_filterMap.2 ⟨.tmp s, by simp [ho, Op.operands, Call.operands], rfl⟩)) hs
    have he1 : (slAct S γ d).eval (.tmp s) = γ s := by simp [Act.eval, slAct_tmp, hs, Slot.get]
    have hrun : (execOp (slAct S γ d).eval o).run P w = .ok (.enter f #[γ s, u]) w := by
      exact (run_callOp ho rfl (by simp [he1, slEval_spec hx γ]) w).trans (hr (γ s) w)
    unfold yld
    rw [hrun]
    refine (hc _ w hC hv).mono fun e w' ⟨he, h1⟩ => ⟨c, he, h1, ?_, rfl⟩
    unfold eff
    rw [if_pos hb]
    trivial) h
end
theorem scan_all {en most : Int} : ∀ (rs : List Rec) (i : Nat) (out : List Rec), ((i + rs.length : Nat) : Int) ≤ en → ((out.length + rs.length : Nat) : Int) ≤ most → scan (fun _ => true) en most rs i out = (out ++ rs, i + rs.length)
  | [], i, out, _, _ => by simp [scan]
  | r :: rs, i, out, h1, h2 => by
    simp only [List.length_cons] at h1 h2
    rw [scan_go (by omega), scan_all rs (i + 1) _ (by omega) (by simp; omega)]
    simp only [if_true, List.append_assoc, List.singleton_append, List.length_cons, Prod.mk.injEq, true_and]
    omega
theorem any_all {m : PL} (ok : m.Ok) : anyF m (-5) 1000 = (m.recs, m.recs.length) := by
  unfold anyF
  have h0 : offs (-5) = 0 := rfl
  have := ok.len
  rw [h0, List.drop_zero, scan_all _ _ _ (by omega) (by simp; omega)]
  simp
theorem each_all {m : PL} (ok : m.Ok) : eachF m false = m.recs := by
  unfold eachF anyF
  have h0 : offs 0 = 0 := rfl
  simp only [Bool.false_eq_true, if_false, h0, List.drop_zero]
  rw [scan_all _ _ _ (by omega) (by simp)]
  simp
attribute [local irreducible] wpList Code.wp GW Calls
theorem AnyAll_any {w0 w : World} {own : Nat → Prop} {L : List Item} {g : Nat} {F : Nat → Prop} {m : PL} (hM : Mem w0 own w (.res F (LogP F g m) :: L)) (ok : m.Ok) :
    Calls Try.prog 13 #[.pointer (some ⟨g, 0, none⟩), .int .i64 (-5), .int .i64 1000] w fun e w' => ∃ A c vs, e = .returned (.tuple #[.slice A m.recs.length c, .int .i64 m.recs.length]) ∧ vs.length = m.recs.length ∧
      Mem w0 own w' (outX A c m.recs vs ++ (.res F (LogP F g m) :: L)) := by
  have := Any_any hM ok (-5) 1000
  rw [any_all ok] at this
  exact this
theorem told_each {w0 w : World} {own : Nat → Prop} {L : List Item} {g b1 b2 : Nat} {F : Nat → Prop} {m : PL} (hM : Mem w0 own w (.blk b2 4 #[.bool false] :: .blk b1 25 #[.pointer (some ⟨g, 0, none⟩)] :: .res F (LogP F g m) :: L)) (ok : m.Ok) (hsl' : m.spans.length ≤ 1000000) :
    Calls Try.prog 22 #[.func (.func 43) #[] #[.pointer (some ⟨b1, 0, none⟩), .pointer (some ⟨b2, 0, none⟩)], .int .i64 1000] w fun e w' => ∃ A c vs, e = .returned (.slice A m.recs.length c) ∧ vs.length = m.recs.length ∧
      Mem w0 own w' (outX A c m.recs vs ++ (.blk b2 4 #[.bool false] :: .blk b1 25 #[.pointer (some ⟨g, 0, none⟩)] :: .res F (LogP F g m) :: L)) := by
  have hl := ok.len
  have := told12_any hM 43 #[.pointer (some ⟨b1, 0, none⟩), .pointer (some ⟨b2, 0, none⟩)] (eachF m false) 1000 (by rw [each_all ok]; omega) (fun args w => run_callFunc Try.func43 (by kernel_rfl) rfl args w) (iter_each ok hsl')
  rw [each_all ok, show ((1000 : Int).toNat) = 1000 from rfl, List.take_of_length_le (by omega)] at this
  exact this
def EachV (w0 : World) (own : Nat → Prop) (L : List Item) (g : Nat) (v : Value) (w : World) : Prop := ∃ b1 b2, v = .func (.func 43) #[] #[.pointer (some ⟨b1, 0, none⟩), .pointer (some ⟨b2, 0, none⟩)] ∧ Mem w0 own w (.blk b2 4 #[.bool false] :: .blk b1 25 #[.pointer (some ⟨g, 0, none⟩)] :: L)
def OutL (w0 : World) (own : Nat → Prop) (rs : List Rec) (L : List Item) (v : Value) (w : World) : Prop := ∃ A c vs, v = .slice A rs.length c ∧ vs.length = rs.length ∧ Mem w0 own w (.res (blocks (outX A c rs vs)) (AllOf (outX A c rs vs)) :: L)
set_option maxRecDepth 100000 in
set_option maxHeartbeats 8000000 in
theorem FetchAny_any (w : World) (A : Option Addr) (n c : Nat) (l : List Doing) (vs : List Value) (h : DoR w A n l vs) (hn : n ≤ 2000000000000) : Calls Try.prog 9 #[.slice A n c] w fun e w' => e = .returned (.bool true) ∧ Grow w noOwn w' := by
  have hM := Mem.nil w noOwn
  go_enter Try.func9, Try.ntmps9
  go_wp2_with (first
    | (go_at_call 10; refine (long_any w A n c l vs h hn).mono ?_; rintro e1 w1 ⟨b, rfl, rfl⟩; cases b)
    | (go_at_call 11; refine (laid_any hM A n c l vs h hn).mono ?_; rintro e1 w1 ⟨g, g2, m, F, F2, rfl, ok, hsl, hM1⟩; have hsl' : m.spans.length ≤ 1000000 := (by omega); replace hM1 := hM1.perm (List.Perm.swap _ _ _); obtain ⟨A2, B2, ca, cb, v2, V, hM2⟩ := hM1.openR; clear hM hM1; have hM := hM2.perm (List.Perm.swap _ _ _); clear hM2)
    | (go_at_call 13; refine (AnyAll_any hM ok).mono ?_; rintro e1 w1 ⟨At, ct, vt, rfl, hvt, hM1⟩; replace hM1 := hM1.pack; clear hM; have hM := hM1; clear hM1; (try simp only [List.set_cons_succ, List.set_cons_zero] at hM)))
  · have hlen := ok.len
    replace hM := hM.perm (List.Perm.swap _ _ _)
    refine wp_region_b [5, 17, 18, 23, 26] [17, 18] [] (C := fun w' => Mem w noOwn w' [.res F (LogP F g m), .res (blocks (outX At ct m.recs vt)) (AllOf (outX At ct m.recs vt)), .res F2 (RefE F2 g2 A2 B2 ca cb m v2 V)]) hM.drew (by kernel_rfl) (by kernel_rfl) (by kernel_rfl) (by kernel_rfl) ?_
    simp only [initS, Act.put, List.setIfInBounds_toArray, List.set_cons_succ, List.set_cons_zero, List.map_cons, List.map_nil]
    repeat (first
      | (refine gb_move (.inl rfl) rfl rfl ?_; simp only [setD, List.set_cons_succ, List.set_cons_zero])
      | (refine gb_move (.inr rfl) rfl rfl ?_; simp only [setD, List.set_cons_succ, List.set_cons_zero])
      | (apply gb_ld (.slice A2 m.recs.length ca); exact rfl; exact rfl; exact rfl; (intro w' hC; exact (ref_has (F := F2) (g := g2) (A := A2) (B := B2) (ca := ca) (cb := cb) (m := m) (vs := v2) (V := V) inferInstance hC).blk.cell 0); exact inferInstance; simp only [setD, List.set_cons_succ, List.set_cons_zero])
      | (refine gb_bigV (f := 16) rfl rfl rfl #[.slice At m.recs.length ct, .slice A2 m.recs.length ca] rfl (.bool true) (fun γ w => by go_simp) (fun w' hC => ?_) ?_
         · exact (records_same _ _ ct _ ca At A2 _ vt v2 (by omega) (outX_recs hvt (hC.at_ 1 rfl).2.1) (ref_has (F := F2) (g := g2) (A := A2) (B := B2) (ca := ca) (cb := cb) (m := m) (vs := v2) (V := V) inferInstance hC).recsR).mono fun e w' ⟨he, hg⟩ => ⟨he, hC.call hg⟩
         simp only [setD, List.set_cons_succ, List.set_cons_zero])
      | (refine gb_bigV (f := 17) rfl rfl rfl #[] rfl (.bool true) (fun γ w => by go_simp) (fun w' hC => ?_) ?_
         · exact (known12_any _).mono fun e w' ⟨he, hg⟩ => ⟨he, hC.call hg⟩
         simp only [setD, List.set_cons_succ, List.set_cons_zero])
      | (refine gb_big (f := 23) rfl rfl rfl rfl #[.pointer (some ⟨g, 0, none⟩), .bool false] rfl (EachV w noOwn [.res F (LogP F g m), .res (blocks (outX At ct m.recs vt)) (AllOf (outX At ct m.recs vt)), .res F2 (RefE F2 g2 A2 B2 ca cb m v2 V)] g) (fun γ w => by go_simp) (fun w' hC => ?_) ?_
         · exact (Each_mk hC _ false).mono fun e w' ⟨b1, b2, he, hm⟩ => ⟨_, he, hm.tail.tail, b1, b2, rfl, hm⟩
         simp only [setD, List.set_cons_succ, List.set_cons_zero])
      | (refine gb_bigP (f := 22) rfl rfl rfl rfl (EachV w noOwn [.res F (LogP F g m), .res (blocks (outX At ct m.recs vt)) (AllOf (outX At ct m.recs vt)), .res F2 (RefE F2 g2 A2 B2 ca cb m v2 V)] g) (OutL w noOwn m.recs [.res F (LogP F g m), .res (blocks (outX At ct m.recs vt)) (AllOf (outX At ct m.recs vt)), .res F2 (RefE F2 g2 A2 B2 ca cb m v2 V)]) rfl (.int .i64 1000) rfl (fun v w0 => run_callFunc Try.func22 (by kernel_rfl) rfl #[v, _] w0) (fun v w' hC hV => ?_) ?_
         · obtain ⟨b1, b2, rfl, hm⟩ := hV
           refine (told_each hm ok hsl').mono ?_
           rintro e w'' ⟨At2, ct2, vt2, rfl, hv, hM2⟩
           have h3 := hM2.pack
           exact ⟨_, rfl, h3.tail.tail.tail, At2, ct2, vt2, rfl, hv, (h3.perm (List.Perm.swap _ _ _)).tail.perm (List.Perm.swap _ _ _) |>.tail⟩
         simp only [setD, List.set_cons_succ, List.set_cons_zero])
      | (refine gb_bigQ (f := 16) rfl rfl rfl (OutL w noOwn m.recs [.res F (LogP F g m), .res (blocks (outX At ct m.recs vt)) (AllOf (outX At ct m.recs vt)), .res F2 (RefE F2 g2 A2 B2 ca cb m v2 V)]) rfl (.slice A2 m.recs.length ca) rfl (.bool true) (fun v w0 => run_callFunc Try.func16 (by kernel_rfl) rfl #[v, _] w0) (fun v w' hC hV => ?_) ?_
         · obtain ⟨At2, ct2, vt2, rfl, hv, hm⟩ := hV
           exact (records_same _ _ ct2 _ ca At2 A2 _ vt2 v2 (by omega) (outX_recs hv (hm.at_ 0 rfl).2.1) (ref_has (F := F2) (g := g2) (A := A2) (B := B2) (ca := ca) (cb := cb) (m := m) (vs := v2) (V := V) inferInstance hm).recsR).mono fun e w' ⟨he, hg⟩ => ⟨he, hC.call hg⟩
         simp only [setD, List.set_cons_succ, List.set_cons_zero])
      | (refine gb_cmp true rfl rfl rfl rfl (by simp only [cmpB, Option.some.injEq, decide_eq_true_eq, ne_eq]) ?_; simp only [setD, List.set_cons_succ, List.set_cons_zero])
      | (refine gb_pick rfl rfl rfl rfl rfl ?_; simp only [setD, List.set_cons_succ, List.set_cons_zero, cond_true, cond_false])
      | (refine gb_pure rfl (fun K hK => ?_); go_simp; refine hK _ ?_; clear hK K; simp only [setD, List.set_cons_succ, List.set_cons_zero]))
    refine gw_nil ?_
    intro γ w4 hC' hk'
    simp only [slAct, slVals, Slot.get]
    clear hk' hM
    have hM := hC'
    clear hC'
    go_wp2_with fail
    go_ret
    exact ⟨rfl, hM.grow⟩
  all_goals
    go_ret
    exact ⟨rfl, hM.grow⟩
end Go.Proofs.Ytechglhkcjgodaa
