/- plog: what told hands back, as a thing at hand; both logs with where they lie; calls in a region, of whose result a predicate tells. -/
import Derived.Test.YtfecapcjocomkaaPlogJ
import Derived.Test.YtfecapcjocomkaaPlogU
namespace Go.Proofs.Ytfecapcjocomkaa
open Go.RowKit Go.MapKept
set_option linter.unusedSimpArgs false
set_option linter.unusedVariables false

/-! A whole list of things as one. -/
def AllOf (X : List Item) (w : World) : Prop := ∀ x ∈ X, x.at_ w
theorem allOf_stays (X : List Item) : Stays (blocks X) (AllOf X) := fun w1 w2 hl hk h x hx => Item.keep (h x hx) (fun g e => hk g ⟨x, hx, e⟩)
theorem Mem.pack {w0 w : World} {own : Nat → Prop} {X L : List Item} (hM : Mem w0 own w (X ++ L)) : Mem w0 own w (.res (blocks X) (AllOf X) :: L) := by
  obtain ⟨h1, h2, h3⟩ := List.pairwise_append.1 hM.apart
  refine ⟨hM.grow, fun x hx => ?_, List.pairwise_cons.2 ⟨fun y hy i hi e => ?_, h2⟩, fun x hx i e => ?_⟩
  · rcases List.mem_cons.1 hx with rfl | hx
    · exact ⟨fun i ⟨x, hx, e⟩ => Item.at_lt (hM.has x (List.mem_append_left _ hx)) i e, fun x hx => hM.has x (List.mem_append_left _ hx), allOf_stays X⟩
    · exact hM.has x (List.mem_append_right _ hx)
  · obtain ⟨x, hx, e2⟩ := hi
    exact h3 x hx y hy i e2 e
  · rcases List.mem_cons.1 hx with rfl | hx
    · obtain ⟨x, hx, e2⟩ := e
      exact hM.mine x (List.mem_append_left _ hx) i e2
    · exact hM.mine x (List.mem_append_right _ hx) i e
theorem Mem.allOf {w0 w : World} {own : Nat → Prop} {X L : List Item} {F : Nat → Prop} (hM : Mem w0 own w L) (h : Item.res F (AllOf X) ∈ L) : AllOf X w := (hM.has _ h).2.1

/-- Records in a slice, with what they stand on. -/
structure Told (A : Option Addr) (c : Nat) (X : List Item) (vs : List Value) (rs : List Rec) : Prop where
  vl : vs.length = rs.length
  tr : TR rs vs X
  row : Item.row (.slice A rs.length c) 35 5 rs.length (recCells rs vs) ∈ X
theorem Told.recs {A : Option Addr} {c : Nat} {X : List Item} {vs : List Value} {rs : List Rec} (h : Told A c X vs rs) {w : World} (hX : AllOf X w) : RecsR w A rs.length rs vs := by
  refine ⟨h.vl, rfl, Reads.of_own (hX _ h.row), fun i hi => ?_⟩
  have h1 : w.ownsRow 0 5 1 (vs[i]'(by rw [h.vl]; exact hi)) rs[i].v.length (rs[i].v.map V8) := hX _ (h.tr i rs[i] _ (List.getElem?_eq_getElem hi) (List.getElem?_eq_getElem (by rw [h.vl]; exact hi)))
  obtain ⟨A', c', e, hc, _⟩ := row_form h1
  rw [e] at h1
  exact ⟨A', _, c', e, hc, Reads.of_own h1⟩
theorem told_log {w0 w : World} {own : Nat → Prop} {L : List Item} {bf bl f g : Nat} {F : Nat → Prop} {m : PL} (hM : Mem w0 own w (.blk bf 3 #[.int .i64 f] :: .blk bl 24 #[.pointer (some ⟨g, 0, none⟩)] :: .res F (LogP F g m) :: L)) (ok : m.Ok) (hf : f ≤ 1000000) :
    Calls Try.prog 26 #[.func (.func 42) #[] #[.pointer (some ⟨bf, 0, none⟩), .pointer (some ⟨bl, 0, none⟩)], .int .i64 f] w fun e w' => ∃ A c X vs, e = .returned (.tuple #[.slice A (m.recs.drop f).length c, .bool true]) ∧
      Told A c X vs (m.recs.drop f) ∧ Mem w0 own w' (.res (blocks X) (AllOf X) :: .res F (LogP F g m) :: L) := by
  obtain ⟨S, V, ⟨gm, A, B, ca, cb, us, h⟩, hF⟩ := hM.logP (i := 2) rfl
  have h1 : Mem w0 own w (.res F (LogP F g m) :: .blk bf 3 #[.int .i64 f] :: .blk bl 24 #[.pointer (some ⟨g, 0, none⟩)] :: L) := hM.perm (List.perm_middle (l₁ := [_, _]))
  have h2 := h1.as (q := LogE F g gm A B ca cb m us S V) ⟨h, hF⟩ (LogE.stays _ _ _ _ _ _ _ _ _ _ _)
  have h3 : Mem w0 own w (.blk bf 3 #[.int .i64 f] :: .blk bl 24 #[.pointer (some ⟨g, 0, none⟩)] :: .res F (LogE F g gm A B ca cb m us S V) :: L) := h2.perm (List.perm_middle (l₁ := [_, _])).symm
  refine (told_any h3 42 _ f (m.recs.drop f) hf (by rw [List.length_drop]; have := ok.len; omega) (fun args w => run_callFunc Try.func42 (by kernel_rfl) rfl args w) (iter_log ok hf)).mono ?_
  rintro e w' ⟨A', c', vs, Vs, rfl, hv, hT, hM'⟩
  refine ⟨A', c', _, vs, rfl, ⟨hv, fun i r v h1 h2 => List.mem_cons_of_mem _ (hT i r v h1 h2), List.mem_cons_self ..⟩, ?_⟩
  have h4 := Mem.pack (X := .row (.slice A' (m.recs.drop f).length c') 35 5 (m.recs.drop f).length (recCells (m.recs.drop f) vs) :: Vs) hM'
  have h5 := h4.sub (((List.sublist_cons_self _ _).trans (List.sublist_cons_self _ _)).cons_cons _)
  have h6 := h5.perm (List.Perm.swap _ _ _)
  have hE : LogE F g gm A B ca cb m us S V w' := (h6.at_ 0 rfl).2.1
  exact (h6.as (q := LogP F g m) ⟨S, V, ⟨gm, A, B, ca, cb, us, hE.1⟩, hE.2⟩ (LogP.stays _ _ _)).perm (List.Perm.swap _ _ _)

/-- The reference's log, with where it lies. -/
def RefE (F : Nat → Prop) (g : Nat) (A B : Option Addr) (ca cb : Nat) (m : PL) (vs : List Value) (V : Nat → Prop) (w : World) : Prop := RefHas w g A B ca cb m vs V ∧ ∀ i, i = g ∨ V i → F i
theorem RefE.stays (F : Nat → Prop) (g : Nat) (A B : Option Addr) (ca cb : Nat) (m : PL) (vs : List Value) (V : Nat → Prop) : Stays F (RefE F g A B ca cb m vs V) := by
  rintro w1 w2 hl hk ⟨h, hF⟩
  refine ⟨⟨⟨⟨h.vl, h.recs.stay2 (fun ad e _ => hk _ (hF _ (.inr (h.va ad e)))), h.spans.stay2 (fun ad e _ => hk _ (hF _ (.inr (h.vb ad e)))), fun i hi => ?_⟩, h.e8, (hk g (hF g (.inl rfl))).trans h.blk⟩, fun i hi => lt_of_same (h.low i hi) (hk i (hF i (.inr hi))), h.far, h.va, h.vb, h.vv, h.cap⟩, hF⟩
  obtain ⟨D, n, c, e, hc, hb⟩ := h.vals i hi
  obtain ⟨D', n', c', e', hv⟩ := h.vv i hi
  rw [e] at e'
  injection e' with e1 _ _
  exact ⟨D, n, c, e, hc, Reads.stay2 hb (fun ad e2 _ => hk _ (hF _ (.inr (hv ad (by rw [← e1]; exact e2)))))⟩
class HasRef (L : List Item) (F : Nat → Prop) (g : Nat) (A B : Option Addr) (ca cb : Nat) (m : PL) (vs : List Value) (V : Nat → Prop) : Prop where out : Item.res F (RefE F g A B ca cb m vs V) ∈ L
instance {L : List Item} {F : Nat → Prop} {g : Nat} {A B : Option Addr} {ca cb : Nat} {m : PL} {vs : List Value} {V : Nat → Prop} : HasRef (.res F (RefE F g A B ca cb m vs V) :: L) F g A B ca cb m vs V := ⟨List.mem_cons_self ..⟩
instance (priority := low) {L : List Item} {x : Item} {F : Nat → Prop} {g : Nat} {A B : Option Addr} {ca cb : Nat} {m : PL} {vs : List Value} {V : Nat → Prop} [h : HasRef L F g A B ca cb m vs V] : HasRef (x :: L) F g A B ca cb m vs V := ⟨List.mem_cons_of_mem _ h.out⟩
theorem ref_has {L : List Item} {F : Nat → Prop} {g : Nat} {A B : Option Addr} {ca cb : Nat} {m : PL} {vs : List Value} {V : Nat → Prop} (h : HasRef L F g A B ca cb m vs V) {w0 w : World} {own : Nat → Prop} (hM : Mem w0 own w L) : RefHas w g A B ca cb m vs V := by
  have hx : Item.at_ w (.res F (RefE F g A B ca cb m vs V)) := hM.has _ h.out
  exact hx.2.1.1
theorem RefHas.recsR {w : World} {g : Nat} {A B : Option Addr} {ca cb : Nat} {m : PL} {vs : List Value} {V : Nat → Prop} (h : RefHas w g A B ca cb m vs V) : RecsR w A m.recs.length m.recs vs := ⟨h.vl, rfl, h.recs, h.vals⟩
/-- The reference's log is opened. -/
theorem Mem.openR {w0 w : World} {own : Nat → Prop} {L : List Item} {F : Nat → Prop} {g : Nat} {m : PL} (hM : Mem w0 own w (.res F (RefP F g m) :: L)) : ∃ A B ca cb vs V, Mem w0 own w (.res F (RefE F g A B ca cb m vs V) :: L) := by
  obtain ⟨V, ⟨A, B, ca, cb, vs, h⟩, hF⟩ := hM.refP (i := 0) rfl
  exact ⟨A, B, ca, cb, vs, V, hM.as ⟨h, hF⟩ (RefE.stays _ _ _ _ _ _ _ _ _)⟩
theorem Mem.shutR {w0 w : World} {own : Nat → Prop} {L : List Item} {F : Nat → Prop} {g : Nat} {A B : Option Addr} {ca cb : Nat} {m : PL} {vs : List Value} {V : Nat → Prop} (hM : Mem w0 own w (.res F (RefE F g A B ca cb m vs V) :: L)) : Mem w0 own w (.res F (RefP F g m) :: L) := by
  have hE : RefE F g A B ca cb m vs V w := (hM.at_ 0 rfl).2.1
  exact hM.as ⟨V, ⟨A, B, ca, cb, vs, hE.1⟩, hE.2⟩ (RefP.stays _ _ _)

section
variable {P : Program} {l : List Oper} {w0 : World} {own : Nat → Prop} {L : List Item} {B : Nat} {D : World → Prop} {bigs preds : List Nat} {d : List Deferred} {Fin : List Slot → Prop} {k : Nat} {o : Oper} {rest : List Oper} {S : List Slot}
/-- A call of whose result a predicate tells. -/
theorem gl_callP {f : FuncId} {xs : Array Operand} {ts : Array TypeId} (ho : o.op = .call { callee := .value (.func f), args := xs, argTypes := ts }) (hw : slWantsL l S o.guard = some true) (hnb : bigs.contains k = false) (hp : preds.contains k = true) (args : Array Value) (hx : xs.toList.map (slEval S) = args.toList.map some) (V : Value → World → Prop)
    (hst : ∀ v w w', Grow w noOwn w' → V v w → V v w') (hr : ∀ γ w, (execOp (slAct S γ d).eval o).run P w = .ok (.enter f args) w)
    (hc : ∀ w, CM w0 own L B w → Calls P f args w fun e w' => ∃ c, e = .returned c ∧ Grow w noOwn w' ∧ V c w') (h : GW P l.toArray (CM w0 own L B) D Grows (GrowsB B) bigs preds d Fin (k + 1) rest (setD S o.dst (.pred V))) : GW P l.toArray (CM w0 own L B) D Grows (GrowsB B) bigs preds d Fin k (o :: rest) S :=
  gw_callP (slWants_of hw) hnb hp f xs ts ho args hx V (fun v w w' _ _ hg hv => hst v w w' hg hv) hr (fun w hC => (hc w hC).mono fun e w' ⟨c, he, hg, hv⟩ => ⟨c, he, (cm_grow w w' hC hg).1, hg, hv⟩) h
/-- A call of two, of whose first a predicate tells. -/
theorem gl_callQ {f : FuncId} {s : Nat} {x' : Operand} {ts : Array TypeId} (ho : o.op = .call { callee := .value (.func f), args := #[.tmp s, x'], argTypes := ts }) (hw : slWantsL l S o.guard = some true) (hnb : bigs.contains k = false) (V : Value → World → Prop) (hs : S[s]? = some (.pred V)) (u : Value) (hx : slEval S x' = some u) (c : Value)
    (hr : ∀ v w, (callFunc f #[v, u]).run P w = .ok (.enter f #[v, u]) w)
    (hc : ∀ v w, CM w0 own L B w → V v w → Calls P f #[v, u] w fun e w' => e = .returned c ∧ Grow w noOwn w') (h : GW P l.toArray (CM w0 own L B) D Grows (GrowsB B) bigs preds d Fin (k + 1) rest (setD S o.dst (.val c))) : GW P l.toArray (CM w0 own L B) D Grows (GrowsB B) bigs preds d Fin k (o :: rest) S :=
  gw_any (slWants_of hw) (.val c) (.inl ⟨_, rfl⟩) (fun γ w hC _ hV => by
    have hv : V (γ s) w := hV s _ (List.mem_append_left _ (List.mem_filterMap.2 ⟨.tmp s, by simp [ho, Op.operands, Call.operands], rfl⟩)) hs
    have he1 : (slAct S γ d).eval (.tmp s) = γ s := by simp [Act.eval, slAct_tmp, hs, Slot.get]
    have hrun : (execOp (slAct S γ d).eval o).run P w = .ok (.enter f #[γ s, u]) w := by
      exact (run_callOp ho rfl (by simp [he1, slEval_spec hx γ]) w).trans (hr (γ s) w)
    unfold yld
    rw [hrun]
    refine (hc _ w hC hv).mono fun e w' ⟨he, hg⟩ => ⟨c, he, (cm_grow w w' hC hg).1, ?_, rfl⟩
    unfold eff
    rw [if_neg (by rw [hnb]; exact Bool.false_ne_true)]
    exact hg) h
end
end Go.Proofs.Ytfecapcjocomkaa
