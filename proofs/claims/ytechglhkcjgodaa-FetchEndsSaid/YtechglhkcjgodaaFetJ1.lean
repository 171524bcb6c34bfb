/- plog's log and the reference's with where they lie; whole lists of things as one; records with their values. Iterators over records that a round may leave: the log's own; that of a nil log. fetch.read: over any iterator with offsets. fetch.read. -/
import Derived.Test.YtechglhkcjgodaaPlogS
import Derived.Test.YtechglhkcjgodaaRange
namespace Go.Proofs.Ytechglhkcjgodaa
section
open Go.RowKit Go.MapKept
set_option linter.unusedSimpArgs false
set_option linter.unusedVariables false

/-- The log, with where it lies. -/
def LogE (F : Nat → Prop) (g gm : Nat) (A B : Option Addr) (ca cb : Nat) (m : PL) (vs : List Value) (S V : Nat → Prop) (w : World) : Prop := LogHas w g gm A B ca cb m vs S V ∧ ∀ i, S i ∨ V i → F i
theorem LogE.stays (F : Nat → Prop) (g gm : Nat) (A B : Option Addr) (ca cb : Nat) (m : PL) (vs : List Value) (S V : Nat → Prop) : Stays F (LogE F g gm A B ca cb m vs S V) := by
  rintro w1 w2 hl hk ⟨h, hF⟩
  refine ⟨⟨h.vl, ⟨Grow.refl _ _, fun x hx => Item.keep (h.mem.has x hx) (fun i e => hk i (hF i (.inl ((h.mem.mine x hx i e).resolve_right (by have := Item.at_lt (h.mem.has x hx) i e; omega))))), h.mem.apart, fun x hx i e => .inl ((h.mem.mine x hx i e).resolve_right (by have := Item.at_lt (h.mem.has x hx) i e; omega))⟩,
   fun i hi => lt_of_same (h.low i hi) (hk i (hF i hi)), h.apart, fun i hi => ?_⟩, hF⟩
  obtain ⟨D, n, c, e, hc, hb, hv⟩ := h.vals i hi
  exact ⟨D, n, c, e, hc, Reads.stay2 hb (fun ad e2 _ => hk _ (hF _ (.inr (hv ad e2)))), hv⟩
theorem Mem.as {w0 w : World} {own : Nat → Prop} {L : List Item} {F : Nat → Prop} {p q : World → Prop} (hM : Mem w0 own w (.res F p :: L)) (hq : q w) (hs : Stays F q) : Mem w0 own w (.res F q :: L) :=
  hM.upd 0 rfl hM.grow (fun _ _ _ => rfl) ⟨(hM.at_ 0 rfl).1, hq, hs⟩ (fun _ e => .inl e)
class HasLog (L : List Item) (F : Nat → Prop) (g gm : Nat) (A B : Option Addr) (ca cb : Nat) (m : PL) (vs : List Value) (S V : Nat → Prop) : Prop where out : Item.res F (LogE F g gm A B ca cb m vs S V) ∈ L
instance {L : List Item} {F : Nat → Prop} {g gm : Nat} {A B : Option Addr} {ca cb : Nat} {m : PL} {vs : List Value} {S V : Nat → Prop} : HasLog (.res F (LogE F g gm A B ca cb m vs S V) :: L) F g gm A B ca cb m vs S V := ⟨List.mem_cons_self ..⟩
instance (priority := low) {L : List Item} {x : Item} {F : Nat → Prop} {g gm : Nat} {A B : Option Addr} {ca cb : Nat} {m : PL} {vs : List Value} {S V : Nat → Prop} [h : HasLog L F g gm A B ca cb m vs S V] : HasLog (x :: L) F g gm A B ca cb m vs S V := ⟨List.mem_cons_of_mem _ h.out⟩
theorem log_has {L : List Item} {F : Nat → Prop} {g gm : Nat} {A B : Option Addr} {ca cb : Nat} {m : PL} {vs : List Value} {S V : Nat → Prop} (h : HasLog L F g gm A B ca cb m vs S V) {w0 w : World} {own : Nat → Prop} (hM : Mem w0 own w L) : LogHas w g gm A B ca cb m vs S V := by
  have hx : Item.at_ w (.res F (LogE F g gm A B ca cb m vs S V)) := hM.has _ h.out
  exact hx.2.1.1

/-! A whole list of things as one. -/
def AllOf (X : List Item) (w : World) : Prop := ∀ x ∈ X, x.at_ w
theorem allOf_stays (X : List Item) : Stays (blocks X) (AllOf X) := fun w1 w2 hl hk h x hx => Item.keep (h x hx) (fun g e => hk g ⟨x, hx, e⟩)
theorem Mem.pack {w0 w : World} {own : Nat → Prop} {X L : List Item} (hM : Mem w0 own w (X ++ L)) : Mem w0 own w (.res (blocks X) (AllOf X) :: L) := by
  obtain ⟨h1, h2, h3⟩ := List.pairwise_append.1 hM.apart
  refine ⟨hM.grow, fun x hx => ?_, List.pairwise_cons.2 ⟨fun y hy i hi e => ?_, h2⟩, fun x hx i e => ?_⟩
  · rcases List.mem_cons.1 hx with rfl | hx
    · exact ⟨fun i ⟨x, hx, e⟩ => Item.at_lt (hM.has x (List.mem_append_left _ hx)) i e, fun x hx => hM.has x (List.mem_append_left _ hx), allOf_stays X⟩
    · exact hM.has x (List.mem_append_right _ hx)
  · obtain ⟨x, hx, e2⟩ := hi
    exact h3 x hx y hy i e2 e
  · rcases List.mem_cons.1 hx with rfl | hx
    · obtain ⟨x, hx, e2⟩ := e
      exact hM.mine x (List.mem_append_left _ hx) i e2
    · exact hM.mine x (List.mem_append_right _ hx) i e
theorem Mem.allOf {w0 w : World} {own : Nat → Prop} {X L : List Item} {F : Nat → Prop} (hM : Mem w0 own w L) (h : Item.res F (AllOf X) ∈ L) : AllOf X w := (hM.has _ h).2.1

/-- A slice of bytes that is a row of its own, as a value. -/
theorem row_val {w : World} {v : Value} {n : Nat} {l : List (BitVec 8)} (h : w.ownsRow 0 5 1 v n (l.map V8)) : ValOf w v l := by
  obtain ⟨A', c', e, hc, _⟩ := row_form h
  rw [e] at h
  exact ⟨A', _, c', e, hc, Reads.of_own h⟩
/-- The bytes of the records' values, each in a row of its own, in order. -/
def VRows : List Rec → List Value → List Item
  | r :: rs, v :: vs => .row v 5 1 r.v.length (r.v.map V8) :: VRows rs vs
  | _, _ => []
theorem vrows_snoc : ∀ (l : List Rec) (vs : List Value) (r : Rec) (v : Value), vs.length = l.length → VRows (l ++ [r]) (vs ++ [v]) = VRows l vs ++ [.row v 5 1 r.v.length (r.v.map V8)]
  | [], [], _, _, _ => rfl
  | [], _ :: _, _, _, h => by simp at h
  | _ :: _, [], _, _, h => by simp at h
  | x :: l, y :: vs, r, v, h => by
    have := vrows_snoc l vs r v (by simpa using h)
    simp [VRows, this]
theorem vrows_mem : ∀ (l : List Rec) (vs : List Value) (i : Nat) (r : Rec) (v : Value), l[i]? = some r → vs[i]? = some v → Item.row v 5 1 r.v.length (r.v.map V8) ∈ VRows l vs
  | [], _, i, r, v, h, _ => by simp at h
  | _ :: _, [], i, r, v, _, h => by simp at h
  | x :: l, y :: vs, 0, r, v, h, h2 => by
    simp at h h2
    subst h; subst h2
    exact List.mem_cons_self ..
  | x :: l, y :: vs, i + 1, r, v, h, h2 => List.mem_cons_of_mem _ (vrows_mem l vs i r v (by simpa using h) (by simpa using h2))
/-- Records in a slice of their own, their values in X. -/
theorem recsR_of {w : World} {A : Option Addr} {c : Nat} {rs : List Rec} {vs : List Value} (hl : vs.length = rs.length) (hr : w.ownsRow 0 42 5 (.slice A rs.length c) rs.length (recCells rs vs)) (hX : AllOf (VRows rs vs) w) : RecsR w A rs.length rs vs :=
  ⟨hl, rfl, Reads.of_own hr, fun i hi => row_val (hX _ (vrows_mem rs vs i rs[i] _ (List.getElem?_eq_getElem hi) (List.getElem?_eq_getElem (by rw [hl]; exact hi))))⟩
/-- What was read, all of it one thing. -/
def outX (A : Option Addr) (c : Nat) (rs : List Rec) (vs : List Value) : List Item := .row (.slice A rs.length c) 42 5 rs.length (recCells rs vs) :: VRows rs vs
theorem outX_recs {w : World} {A : Option Addr} {c : Nat} {rs : List Rec} {vs : List Value} (hl : vs.length = rs.length) (hX : AllOf (outX A c rs vs) w) : RecsR w A rs.length rs vs :=
  recsR_of hl (hX _ (List.mem_cons_self ..)) (fun x hx => hX x (List.mem_cons_of_mem _ hx))
/-- The reference's log, with where it lies. -/
def RefE (F : Nat → Prop) (g : Nat) (A B : Option Addr) (ca cb : Nat) (m : PL) (vs : List Value) (V : Nat → Prop) (w : World) : Prop := RefHas w g A B ca cb m vs V ∧ ∀ i, i = g ∨ V i → F i
theorem RefE.stays (F : Nat → Prop) (g : Nat) (A B : Option Addr) (ca cb : Nat) (m : PL) (vs : List Value) (V : Nat → Prop) : Stays F (RefE F g A B ca cb m vs V) := by
  rintro w1 w2 hl hk ⟨h, hF⟩
  refine ⟨⟨⟨⟨h.vl, h.recs.stay2 (fun ad e _ => hk _ (hF _ (.inr (h.va ad e)))), h.spans.stay2 (fun ad e _ => hk _ (hF _ (.inr (h.vb ad e)))), fun i hi => ?_⟩, h.e8, (hk g (hF g (.inl rfl))).trans h.blk⟩, fun i hi => lt_of_same (h.low i hi) (hk i (hF i (.inr hi))), h.far, h.va, h.vb, h.vv, h.cap⟩, hF⟩
  obtain ⟨D, n, c, e, hc, hb⟩ := h.vals i hi
  obtain ⟨D', n', c', e', hv⟩ := h.vv i hi
  rw [e] at e'
  injection e' with e1 _ _
  exact ⟨D, n, c, e, hc, Reads.stay2 hb (fun ad e2 _ => hk _ (hF _ (.inr (hv ad (by rw [← e1]; exact e2)))))⟩
class HasRef (L : List Item) (F : Nat → Prop) (g : Nat) (A B : Option Addr) (ca cb : Nat) (m : PL) (vs : List Value) (V : Nat → Prop) : Prop where out : Item.res F (RefE F g A B ca cb m vs V) ∈ L
instance {L : List Item} {F : Nat → Prop} {g : Nat} {A B : Option Addr} {ca cb : Nat} {m : PL} {vs : List Value} {V : Nat → Prop} : HasRef (.res F (RefE F g A B ca cb m vs V) :: L) F g A B ca cb m vs V := ⟨List.mem_cons_self ..⟩
instance (priority := low) {L : List Item} {x : Item} {F : Nat → Prop} {g : Nat} {A B : Option Addr} {ca cb : Nat} {m : PL} {vs : List Value} {V : Nat → Prop} [h : HasRef L F g A B ca cb m vs V] : HasRef (x :: L) F g A B ca cb m vs V := ⟨List.mem_cons_of_mem _ h.out⟩
theorem ref_has {L : List Item} {F : Nat → Prop} {g : Nat} {A B : Option Addr} {ca cb : Nat} {m : PL} {vs : List Value} {V : Nat → Prop} (h : HasRef L F g A B ca cb m vs V) {w0 w : World} {own : Nat → Prop} (hM : Mem w0 own w L) : RefHas w g A B ca cb m vs V := by
  have hx : Item.at_ w (.res F (RefE F g A B ca cb m vs V)) := hM.has _ h.out
  exact hx.2.1.1
theorem RefHas.recsR {w : World} {g : Nat} {A B : Option Addr} {ca cb : Nat} {m : PL} {vs : List Value} {V : Nat → Prop} (h : RefHas w g A B ca cb m vs V) : RecsR w A m.recs.length m.recs vs := ⟨h.vl, rfl, h.recs, h.vals⟩
/-- The reference's log is opened. -/
theorem Mem.openR {w0 w : World} {own : Nat → Prop} {L : List Item} {F : Nat → Prop} {g : Nat} {m : PL} (hM : Mem w0 own w (.res F (RefP F g m) :: L)) : ∃ A B ca cb vs V, Mem w0 own w (.res F (RefE F g A B ca cb m vs V) :: L) := by
  obtain ⟨V, ⟨A, B, ca, cb, vs, h⟩, hF⟩ := hM.refP (i := 0) rfl
  exact ⟨A, B, ca, cb, vs, V, hM.as ⟨h, hF⟩ (RefE.stays _ _ _ _ _ _ _ _ _)⟩
theorem Mem.shutR {w0 w : World} {own : Nat → Prop} {L : List Item} {F : Nat → Prop} {g : Nat} {A B : Option Addr} {ca cb : Nat} {m : PL} {vs : List Value} {V : Nat → Prop} (hM : Mem w0 own w (.res F (RefE F g A B ca cb m vs V) :: L)) : Mem w0 own w (.res F (RefP F g m) :: L) := by
  have hE : RefE F g A B ca cb m vs V w := (hM.at_ 0 rfl).2.1
  exact hM.as ⟨V, ⟨A, B, ca, cb, vs, hE.1⟩, hE.2⟩ (RefP.stays _ _ _)

section
variable {P : Program} {l : List Oper} {w0 : World} {own : Nat → Prop} {L : List Item} {B : Nat} {D : World → Prop} {bigs preds : List Nat} {d : List Deferred} {Fin : List Slot → Prop} {k : Nat} {o : Oper} {rest : List Oper} {S : List Slot}
/-- A call of whose result a predicate tells. -/
theorem gl_callP {f : FuncId} {xs : Array Operand} {ts : Array TypeId} (ho : o.op = .call { callee := .value (.func f), args := xs, argTypes := ts }) (hw : slWantsL l S o.guard = some true) (hnb : bigs.contains k = false) (hp : preds.contains k = true) (args : Array Value) (hx : xs.toList.map (slEval S) = args.toList.map some) (V : Value → World → Prop)
    (hst : ∀ v w w', Grow w noOwn w' → V v w → V v w') (hr : ∀ γ w, (execOp (slAct S γ d).eval o).run P w = .ok (.enter f args) w)
    (hc : ∀ w, CM w0 own L B w → Calls P f args w fun e w' => ∃ c, e = .returned c ∧ Grow w noOwn w' ∧ V c w') (h : GW P l.toArray (CM w0 own L B) D Grows (GrowsB B) bigs preds d Fin (k + 1) rest (setD S o.dst (.pred V))) : GW P l.toArray (CM w0 own L B) D Grows (GrowsB B) bigs preds d Fin k (o :: rest) S :=
  gw_callP (slWants_of hw) hnb hp f xs ts ho args hx V (fun v w w' _ _ hg hv => hst v w w' hg hv) hr (fun w hC => (hc w hC).mono fun e w' ⟨c, he, hg, hv⟩ => ⟨c, he, (cm_grow w w' hC hg).1, hg, hv⟩) h
/-- A call of two, of whose first a predicate tells. -/
theorem gl_callQ {f : FuncId} {s : Nat} {x' : Operand} {ts : Array TypeId} (ho : o.op = .call { callee := .value (.func f), args := #[.tmp s, x'], argTypes := ts }) (hw : slWantsL l S o.guard = some true) (hnb : bigs.contains k = false) (V : Value → World → Prop) (hs : S[s]? = some (.pred V)) (u : Value) (hx : slEval S x' = some u) (c : Value)
    (hr : ∀ v w, (callFunc f #[v, u]).run P w = .ok (.enter f #[v, u]) w)
    (hc : ∀ v w, CM w0 own L B w → V v w → Calls P f #[v, u] w fun e w' => e = .returned c ∧ Grow w noOwn w') (h : GW P l.toArray (CM w0 own L B) D Grows (GrowsB B) bigs preds d Fin (k + 1) rest (setD S o.dst (.val c))) : GW P l.toArray (CM w0 own L B) D Grows (GrowsB B) bigs preds d Fin k (o :: rest) S :=
  gw_any (slWants_of hw) (.val c) (.inl ⟨_, rfl⟩) (fun γ w hC _ hV => by
    have hv : V (γ s) w := hV s _ (List.mem_append_left _ (List.mem_filterMap.2 ⟨.tmp s, by simp [ho, Op.operands, Call.operands], rfl⟩)) hs
    have he1 : (slAct S γ d).eval (.tmp s) = γ s := by simp [Act.eval, slAct_tmp, hs, Slot.get]
    have hrun : (execOp (slAct S γ d).eval o).run P w = .ok (.enter f #[γ s, u]) w := by
      exact (run_callOp ho rfl (by simp [he1, slEval_spec hx γ]) w).trans (hr (γ s) w)
    unfold yld
    rw [hrun]
    refine (hc _ w hC hv).mono fun e w' ⟨he, hg⟩ => ⟨c, he, (cm_grow w w' hC hg).1, ?_, rfl⟩
    unfold eff
    rw [if_neg (by rw [hnb]; exact Bool.false_ne_true)]
    exact hg) h
end
attribute [local irreducible] wpList Code.wp GW Calls
theorem Records_any {w0 w : World} {own : Nat → Prop} {L : List Item} (hM : Mem w0 own w L) (p : Option Addr) (f : Nat) : Calls Try.prog 55 #[.pointer p, .int .i64 f] w fun e w' => ∃ bf bl, e = .returned (.func (.func 63) #[] #[.pointer (some ⟨bf, 0, none⟩), .pointer (some ⟨bl, 0, none⟩)]) ∧
    Mem w0 own w' (.blk bf 3 #[.int .i64 f] :: .blk bl 25 #[.pointer p] :: L) := by
  go_enter Try.func55, Try.ntmps55
  go_wp2_with (first | (with_reducible refine wl_shape ?_); first | (apply wl_boxa; exact rfl; exact hM; exact rfl; exact rfl; clear hM; intro gg ww hM; simp only [putT, List.set_cons_succ, List.set_cons_zero]) | (apply wl_box1; exact rfl; exact hM; exact rfl; exact rfl; exact rfl; clear hM; intro gg ww hM; simp only [putT, List.set_cons_succ, List.set_cons_zero]) | (apply wl_alloc; exact rfl; exact hM; exact rfl; exact inferInstance; clear hM; intro gg ww hM; simp only [putT, List.set_cons_succ, List.set_cons_zero]) | (apply wl_ld; exact rfl; exact hM; exact rfl; exact rfl; exact inferInstance; exact inferInstance; simp only [putT, List.set_cons_succ, List.set_cons_zero]) | (apply wl_lda; exact rfl; exact hM; exact rfl; exact rfl; exact inferInstance; exact inferInstance; exact inferInstance; exact inferInstance; simp only [putT, List.set_cons_succ, List.set_cons_zero]) | (apply wl_ldr; exact rfl; exact hM; exact rfl; exact rfl; exact inferInstance; exact inferInstance; exact inferInstance; exact inferInstance; simp only [putT, List.set_cons_succ, List.set_cons_zero]) | (apply wl_st; exact rfl; exact hM; exact rfl; exact rfl; exact rfl; exact rfl; exact inferInstance; exact inferInstance; clear hM; intro ww hM; simp only [putT, List.set_cons_succ, List.set_cons_zero]) | (apply wl_sta; exact rfl; exact hM; exact rfl; exact rfl; exact rfl; exact all_oneCell_toArray One.out; exact inferInstance; exact inferInstance; exact inferInstance; clear hM; intro ww hM; simp only [putT, List.set_cons_succ, List.set_cons_zero]) | (apply wl_bs0; exact rfl; exact hM; exact rfl; exact inferInstance; clear hM; intro gg ww hM; simp only [putT, List.set_cons_succ, List.set_cons_zero]) | (apply wl_bs1a; exact rfl; exact hM; exact rfl; exact inferInstance; exact rfl; exact inferInstance; clear hM; intro gg ww hM; simp only [putT, List.set_cons_succ, List.set_cons_zero]) | (apply wl_bs11; exact rfl; exact hM; exact rfl; exact inferInstance; exact rfl; exact rfl; clear hM; intro gg ww hM; simp only [putT, List.set_cons_succ, List.set_cons_zero]) | (apply wl_conv; exact rfl; exact hM; exact rfl; exact rfl; exact inferInstance; exact inferInstance; simp only [putT, List.set_cons_succ, List.set_cons_zero]))
  go_ret
  exact ⟨_, _, rfl, hM⟩
theorem drop_get {rs : List Rec} {f j : Nat} : (rs.drop f)[j]? = rs[f + j]? := by simp
end
section
open Go.RowKit Go.MapKept
set_option linter.unusedSimpArgs false
set_option linter.unusedVariables false
/-- An iterator that tells the records rs, as enc says. -/
def Iter2 (P : Program) (gf : Nat) (lb : Array Value) (enc : Nat → List Value → Array Value) (rs : List Rec) (w0 : World) (own : Nat → Prop) (L : List Item) : Prop :=
  ∀ (l : Nat) (TT XX : Nat → List Item → Prop) (W : World) (T : List Item), TT 0 T → Mem w0 own W (T ++ L) →
    (∀ (j : Nat) (r : Rec) (T L' : List Item) (W : World) (D : Option Addr) (c : Nat), rs[j]? = some r → TT j T → Mem w0 own W (.row (.slice D r.v.length c) 5 1 r.v.length (r.v.map V8) :: (T ++ L')) →
      YieldAt Fence.wide 0 P l (enc j (recVals r (.slice D r.v.length c))) W fun e W' => (e = .returned (.bool true) ∧ ∃ T', TT (j + 1) T' ∧ Mem w0 own W' (T' ++ L')) ∨ (e = .returned (.bool false) ∧ ∃ T', XX j T' ∧ Mem w0 own W' (T' ++ L'))) →
    Calls P gf (#[.func (.yield l) #[] #[]] ++ lb) W fun e W' => (∃ v, e = .returned v) ∧ ((∃ T', TT rs.length T' ∧ Mem w0 own W' (T' ++ L)) ∨ ∃ j T', XX j T' ∧ Mem w0 own W' (T' ++ L))
/-- A record with its offset. -/
def encR (f : Nat) (j : Nat) (vs : List Value) : Array Value := #[.int .i64 ((f + j : Nat) : Int), .agg vs.toArray]
theorem Len_nil (w : World) : Calls Try.prog 30 #[.pointer none] w fun x w' => x = .returned (.int .i64 0) ∧ w = w' := by
  go_enter Try.func30, Try.ntmps30
  go_wp2
  go_ret
  exact ⟨rfl, rfl⟩
attribute [local irreducible] wpList Code.wp GW Calls
attribute [local go_sem] Oper.semAt_some

set_option maxRecDepth 100000 in
set_option maxHeartbeats 4000000 in
theorem iter_log2 {w0 : World} {own : Nat → Prop} {L : List Item} {bf bl f : Nat} {F : Nat → Prop} {g gm : Nat} {A B : Option Addr} {ca cb : Nat} {m : PL} {us : List Value} {S V : Nat → Prop} (ok : m.Ok) :
    Iter2 Try.prog 63 #[.pointer (some ⟨bf, 0, none⟩), .pointer (some ⟨bl, 0, none⟩)] (encR f) (m.recs.drop f) w0 own (.blk bf 3 #[.int .i64 f] :: .blk bl 25 #[.pointer (some ⟨g, 0, none⟩)] :: .res F (LogE F g gm A B ca cb m us S V) :: L) := by
  intro l TT XX W T hT hM hY
  have hlen := ok.len
  replace hM := hM.perm (List.perm_append_comm_assoc T [_, _, _] L)
  simp only [List.cons_append, List.nil_append] at hM
  have hH : LogHas W g gm A B ca cb m us S V := log_has (F := F) inferInstance hM
  have hl0 := hH.read
  have c0 : ∀ (L' : List Item) [HasLog L' F g gm A B ca cb m us S V], Cell w0 own L' ⟨g, 0, none⟩ (.slice A m.recs.length ca) := fun L' h => ⟨fun w hM => (log_has h hM).read.blk.cell 0⟩
  refine (callsIn_wide (n := 0)).1 ?_
  refine callsIn_of_wp Try.func63 rfl trivial ?_
  simp only [Try.ntmps63, List.size_toArray, List.length_cons, List.length_nil, Nat.reduceAdd, Nat.reduceSub, Array.replicate_succ, Array.replicate_zero, List.push_toArray, List.append_toArray, List.nil_append, List.cons_append]
  gi_wp2_with (first | (refine wpListIn_of1 (fun _ e => by cases e) ?_; ((with_reducible refine wl_shape ?_); first | (apply wl_boxa; exact rfl; exact hM; exact rfl; exact rfl; clear hM; intro gg ww hM; simp only [putT, List.set_cons_succ, List.set_cons_zero]) | (apply wl_box1; exact rfl; exact hM; exact rfl; exact rfl; exact rfl; clear hM; intro gg ww hM; simp only [putT, List.set_cons_succ, List.set_cons_zero]) | (apply wl_alloc; exact rfl; exact hM; exact rfl; exact inferInstance; clear hM; intro gg ww hM; simp only [putT, List.set_cons_succ, List.set_cons_zero]) | (apply wl_ld; exact rfl; exact hM; exact rfl; exact rfl; exact inferInstance; exact inferInstance; simp only [putT, List.set_cons_succ, List.set_cons_zero]) | (apply wl_lda; exact rfl; exact hM; exact rfl; exact rfl; exact inferInstance; exact inferInstance; exact inferInstance; exact inferInstance; simp only [putT, List.set_cons_succ, List.set_cons_zero]) | (apply wl_ldr; exact rfl; exact hM; exact rfl; exact rfl; exact inferInstance; exact inferInstance; exact inferInstance; exact inferInstance; simp only [putT, List.set_cons_succ, List.set_cons_zero]) | (apply wl_st; exact rfl; exact hM; exact rfl; exact rfl; exact rfl; exact rfl; exact inferInstance; exact inferInstance; clear hM; intro ww hM; simp only [putT, List.set_cons_succ, List.set_cons_zero]) | (apply wl_sta; exact rfl; exact hM; exact rfl; exact rfl; exact rfl; exact all_oneCell_toArray One.out; exact inferInstance; exact inferInstance; exact inferInstance; clear hM; intro ww hM; simp only [putT, List.set_cons_succ, List.set_cons_zero]) | (apply wl_bs0; exact rfl; exact hM; exact rfl; exact inferInstance; clear hM; intro gg ww hM; simp only [putT, List.set_cons_succ, List.set_cons_zero]) | (apply wl_bs1a; exact rfl; exact hM; exact rfl; exact inferInstance; exact rfl; exact inferInstance; clear hM; intro gg ww hM; simp only [putT, List.set_cons_succ, List.set_cons_zero]) | (apply wl_bs11; exact rfl; exact hM; exact rfl; exact inferInstance; exact rfl; exact rfl; clear hM; intro gg ww hM; simp only [putT, List.set_cons_succ, List.set_cons_zero]) | (apply wl_conv; exact rfl; exact hM; exact rfl; exact rfl; exact inferInstance; exact inferInstance; simp only [putT, List.set_cons_succ, List.set_cons_zero])); refine wpListIn_end ?_))
  gi_loopw [4] (fun v wr => ∃ (j k : Nat) (T : List Item), v = .int .i64 k ∧ k = f + j ∧ j ≤ (m.recs.drop f).length ∧ TT j T ∧ Mem w0 own wr (.blk bf 3 #[.int .i64 f] :: .blk bl 25 #[.pointer (some ⟨g, 0, none⟩)] :: .res F (LogE F g gm A B ca cb m us S V) :: (T ++ L))) (fun v _ => m.recs.length - (intOf v).toNat)
  case atStart => exact ⟨0, f, T, by go_num, rfl, Nat.zero_le _, hT, hM⟩
  case round =>
    obtain ⟨j, k, T, rfl, hk, hj, hTj, hM⟩ := hrel
    rw [List.length_drop] at hj
    have HK := hide hk
    clear hk
    have hl : LogR wr g gm A B ca cb m us := (log_has (F := F) (S := S) (V := V) inferInstance hM).read
    by_cases hlt : k < m.recs.length
    · obtain ⟨r, hr⟩ : ∃ r, m.recs[k]? = some r := ⟨_, List.getElem?_eq_getElem hlt⟩
      have hv : k < us.length := by rw [hH.vl]; exact hlt
      obtain ⟨D, n, c, e1, hnc, hby, -⟩ := hH.vals k hlt
      obtain ⟨b, off, rfl, -, -⟩ := rec_range hl0.recs hl0.vl rfl k hlt
      have hrk : m.recs[k] = r := (List.getElem?_eq_some_iff.1 hr).2
      have c1 : ∀ (L' : List Item) [HasLog L' F g gm (some ⟨b, off, none⟩) B ca cb m us S V], Rng w0 own L' b (off + k * 5) (recVals r (.slice D n c)) := fun L' h => ⟨fun w hM => by
        have h1 := (log_has h hM).read
        obtain ⟨b', off', e2, _, h2⟩ := rec_range h1.recs h1.vl rfl k hlt
        injection e2 with e2
        injection e2 with e2 e3 _
        subst e2
        subst e3
        rw [e1, hrk] at h2
        exact h2⟩
      have c2 : ∀ (w : World) (L' : List Item), Mem w0 own w L' → HasLog L' F g gm (some ⟨b, off, none⟩) B ca cb m us S V → Bytes w w.heap.size D r.v.length r.v := fun w L' hM h => by
        obtain ⟨D', n', c', e4, _, h3, _⟩ := (log_has h hM).vals k hlt
        rw [e1] at e4
        injection e4 with e4 e5 _
        subst e4
        rw [hrk] at h3
        rw [show r.v.length = n' from by simpa using h3.1]
        exact h3
      have hnr : n = r.v.length := by rw [hrk] at hby; simpa using hby.1.symm
      subst hnr
      have hv2 : r.v.length ≤ 200 := by
        have := ok.recs r (List.mem_of_getElem? hr)
        simp [PL.isRec] at this
        omega
      clear e1 hby hrk hl0 hH
      gi_wp2_with (first
        | (refine wpListIn_of1 (fun _ e => by cases e) ?_; ((with_reducible refine wl_shape ?_); first | (apply wl_boxa; exact rfl; exact hM; exact rfl; exact rfl; clear hM; intro gg ww hM; simp only [putT, List.set_cons_succ, List.set_cons_zero]) | (apply wl_box1; exact rfl; exact hM; exact rfl; exact rfl; exact rfl; clear hM; intro gg ww hM; simp only [putT, List.set_cons_succ, List.set_cons_zero]) | (apply wl_alloc; exact rfl; exact hM; exact rfl; exact inferInstance; clear hM; intro gg ww hM; simp only [putT, List.set_cons_succ, List.set_cons_zero]) | (apply wl_ld; exact rfl; exact hM; exact rfl; exact rfl; exact inferInstance; exact inferInstance; simp only [putT, List.set_cons_succ, List.set_cons_zero]) | (apply wl_lda; exact rfl; exact hM; exact rfl; exact rfl; exact inferInstance; exact inferInstance; exact inferInstance; exact inferInstance; simp only [putT, List.set_cons_succ, List.set_cons_zero]) | (apply wl_ldr; exact rfl; exact hM; exact rfl; exact rfl; exact inferInstance; exact inferInstance; exact inferInstance; exact inferInstance; simp only [putT, List.set_cons_succ, List.set_cons_zero]) | (apply wl_st; exact rfl; exact hM; exact rfl; exact rfl; exact rfl; exact rfl; exact inferInstance; exact inferInstance; clear hM; intro ww hM; simp only [putT, List.set_cons_succ, List.set_cons_zero]) | (apply wl_sta; exact rfl; exact hM; exact rfl; exact rfl; exact rfl; exact all_oneCell_toArray One.out; exact inferInstance; exact inferInstance; exact inferInstance; clear hM; intro ww hM; simp only [putT, List.set_cons_succ, List.set_cons_zero]) | (apply wl_bs0; exact rfl; exact hM; exact rfl; exact inferInstance; clear hM; intro gg ww hM; simp only [putT, List.set_cons_succ, List.set_cons_zero]) | (apply wl_bs1a; exact rfl; exact hM; exact rfl; exact inferInstance; exact rfl; exact inferInstance; clear hM; intro gg ww hM; simp only [putT, List.set_cons_succ, List.set_cons_zero]) | (apply wl_bs11; exact rfl; exact hM; exact rfl; exact inferInstance; exact rfl; exact rfl; clear hM; intro gg ww hM; simp only [putT, List.set_cons_succ, List.set_cons_zero]) | (apply wl_conv; exact rfl; exact hM; exact rfl; exact rfl; exact inferInstance; exact inferInstance; simp only [putT, List.set_cons_succ, List.set_cons_zero])); refine wpListIn_end ?_)
        | ((first | gi_at_call 30 | (refine ⟨fun _ _ => trivial, ?_⟩; gi_at_call 30) | (refine ⟨trivial, ?_⟩; gi_at_call 30) | (refine ⟨trivial, rfl, ?_⟩; gi_at_call 30)); refine (callsIn_wide.2 (Len_any _ g gm _ B ca cb m us hl)).mono ?_; rintro e1 w1 ⟨rfl, rfl⟩)
        | ((first | gi_at_call 50 | (refine ⟨fun _ _ => trivial, ?_⟩; gi_at_call 50) | (refine ⟨trivial, ?_⟩; gi_at_call 50) | (refine ⟨trivial, rfl, ?_⟩; gi_at_call 50)); refine (callsIn_wide.2 (Clone_own _ r.v.length c D r.v hnc (c2 _ _ hM inferInstance) (by omega))).mono ?_; rintro e1 w8 ⟨⟨A8, c8, rfl, hrow8, hnew8⟩, hg8⟩; replace hM := hM.push (x := .row (.slice A8 r.v.length c8) 5 1 r.v.length (r.v.map V8)) (hM.grow.then_ hg8) (fun k hk => hg8.block k hk (fun e => e)) hrow8 hnew8))
      obtain ⟨fn, tmps, asg, bd, hy0, hR⟩ := hY j r T (.blk gg 42 (recVals r (.slice A8 r.v.length c8)).toArray :: .blk bf 3 #[.int .i64 f] :: .blk bl 25 #[.pointer (some ⟨g, 0, none⟩)] :: .res F (LogE F g gm (some ⟨b, off, none⟩) B ca cb m us S V) :: L) _ A8 c8 (by rw [drop_get, ← unhide HK]; exact hr) hTj (hM.perm (List.Perm.cons _ (List.perm_append_comm_assoc [_, _, _, _] T L)))
      have hy : (Instr.yield l #[.int .i64 (k : Nat), .agg (recVals r (.slice A8 r.v.length c8)).toArray]).run Try.prog ww = .ok (.round l fn tmps asg bd) ww := by rw [unhide HK]; exact hy0
      rw [hy, Oper.uponIn_round]
      refine ⟨fun e => (by cases e), hR.mono ?_⟩
      rintro e W' (⟨rfl, T', hT', hM'⟩ | ⟨rfl, T', hT', hM'⟩)
      · clear hM hy hy0 hR
        have hM := hM'.sub ((List.Sublist.refl T').append (List.sublist_cons_self ..))
        clear hM'
        gi_wp2_with (first | (refine wpListIn_of1 (fun _ e => by cases e) ?_; ((with_reducible refine wl_shape ?_); first | (apply wl_boxa; exact rfl; exact hM; exact rfl; exact rfl; clear hM; intro gg ww hM; simp only [putT, List.set_cons_succ, List.set_cons_zero]) | (apply wl_box1; exact rfl; exact hM; exact rfl; exact rfl; exact rfl; clear hM; intro gg ww hM; simp only [putT, List.set_cons_succ, List.set_cons_zero]) | (apply wl_alloc; exact rfl; exact hM; exact rfl; exact inferInstance; clear hM; intro gg ww hM; simp only [putT, List.set_cons_succ, List.set_cons_zero]) | (apply wl_ld; exact rfl; exact hM; exact rfl; exact rfl; exact inferInstance; exact inferInstance; simp only [putT, List.set_cons_succ, List.set_cons_zero]) | (apply wl_lda; exact rfl; exact hM; exact rfl; exact rfl; exact inferInstance; exact inferInstance; exact inferInstance; exact inferInstance; simp only [putT, List.set_cons_succ, List.set_cons_zero]) | (apply wl_ldr; exact rfl; exact hM; exact rfl; exact rfl; exact inferInstance; exact inferInstance; exact inferInstance; exact inferInstance; simp only [putT, List.set_cons_succ, List.set_cons_zero]) | (apply wl_st; exact rfl; exact hM; exact rfl; exact rfl; exact rfl; exact rfl; exact inferInstance; exact inferInstance; clear hM; intro ww hM; simp only [putT, List.set_cons_succ, List.set_cons_zero]) | (apply wl_sta; exact rfl; exact hM; exact rfl; exact rfl; exact rfl; exact all_oneCell_toArray One.out; exact inferInstance; exact inferInstance; exact inferInstance; clear hM; intro ww hM; simp only [putT, List.set_cons_succ, List.set_cons_zero]) | (apply wl_bs0; exact rfl; exact hM; exact rfl; exact inferInstance; clear hM; intro gg ww hM; simp only [putT, List.set_cons_succ, List.set_cons_zero]) | (apply wl_bs1a; exact rfl; exact hM; exact rfl; exact inferInstance; exact rfl; exact inferInstance; clear hM; intro gg ww hM; simp only [putT, List.set_cons_succ, List.set_cons_zero]) | (apply wl_bs11; exact rfl; exact hM; exact rfl; exact inferInstance; exact rfl; exact rfl; clear hM; intro gg ww hM; simp only [putT, List.set_cons_succ, List.set_cons_zero]) | (apply wl_conv; exact rfl; exact hM; exact rfl; exact rfl; exact inferInstance; exact inferInstance; simp only [putT, List.set_cons_succ, List.set_cons_zero])); refine wpListIn_end ?_))
        go_roundw
        case rel => exact ⟨j + 1, k + 1, T', by go_num, by rw [unhide HK]; omega, by rw [List.length_drop]; have := unhide HK; omega, hT', hM.perm (List.perm_append_comm_assoc T' [_, _, _] L)⟩
        case measure => simp [intOf]; omega
      · clear hM hy hy0 hR
        have hM := hM'.sub ((List.Sublist.refl T').append (List.sublist_cons_self ..))
        clear hM'
        gi_wp2_with (first | (refine wpListIn_of1 (fun _ e => by cases e) ?_; ((with_reducible refine wl_shape ?_); first | (apply wl_boxa; exact rfl; exact hM; exact rfl; exact rfl; clear hM; intro gg ww hM; simp only [putT, List.set_cons_succ, List.set_cons_zero]) | (apply wl_box1; exact rfl; exact hM; exact rfl; exact rfl; exact rfl; clear hM; intro gg ww hM; simp only [putT, List.set_cons_succ, List.set_cons_zero]) | (apply wl_alloc; exact rfl; exact hM; exact rfl; exact inferInstance; clear hM; intro gg ww hM; simp only [putT, List.set_cons_succ, List.set_cons_zero]) | (apply wl_ld; exact rfl; exact hM; exact rfl; exact rfl; exact inferInstance; exact inferInstance; simp only [putT, List.set_cons_succ, List.set_cons_zero]) | (apply wl_lda; exact rfl; exact hM; exact rfl; exact rfl; exact inferInstance; exact inferInstance; exact inferInstance; exact inferInstance; simp only [putT, List.set_cons_succ, List.set_cons_zero]) | (apply wl_ldr; exact rfl; exact hM; exact rfl; exact rfl; exact inferInstance; exact inferInstance; exact inferInstance; exact inferInstance; simp only [putT, List.set_cons_succ, List.set_cons_zero]) | (apply wl_st; exact rfl; exact hM; exact rfl; exact rfl; exact rfl; exact rfl; exact inferInstance; exact inferInstance; clear hM; intro ww hM; simp only [putT, List.set_cons_succ, List.set_cons_zero]) | (apply wl_sta; exact rfl; exact hM; exact rfl; exact rfl; exact rfl; exact all_oneCell_toArray One.out; exact inferInstance; exact inferInstance; exact inferInstance; clear hM; intro ww hM; simp only [putT, List.set_cons_succ, List.set_cons_zero]) | (apply wl_bs0; exact rfl; exact hM; exact rfl; exact inferInstance; clear hM; intro gg ww hM; simp only [putT, List.set_cons_succ, List.set_cons_zero]) | (apply wl_bs1a; exact rfl; exact hM; exact rfl; exact inferInstance; exact rfl; exact inferInstance; clear hM; intro gg ww hM; simp only [putT, List.set_cons_succ, List.set_cons_zero]) | (apply wl_bs11; exact rfl; exact hM; exact rfl; exact inferInstance; exact rfl; exact rfl; clear hM; intro gg ww hM; simp only [putT, List.set_cons_succ, List.set_cons_zero]) | (apply wl_conv; exact rfl; exact hM; exact rfl; exact rfl; exact inferInstance; exact inferInstance; simp only [putT, List.set_cons_succ, List.set_cons_zero])); refine wpListIn_end ?_))
        (try simp only [Exit.inBlock, Exit.then])
        refine bodyPost_ret (results_none rfl _ _ _) rfl ?_
        exact ⟨⟨_, rfl⟩, .inr ⟨j, T', hT', hM⟩⟩
    · gi_wp2_with (first
        | (refine wpListIn_of1 (fun _ e => by cases e) ?_; ((with_reducible refine wl_shape ?_); first | (apply wl_boxa; exact rfl; exact hM; exact rfl; exact rfl; clear hM; intro gg ww hM; simp only [putT, List.set_cons_succ, List.set_cons_zero]) | (apply wl_box1; exact rfl; exact hM; exact rfl; exact rfl; exact rfl; clear hM; intro gg ww hM; simp only [putT, List.set_cons_succ, List.set_cons_zero]) | (apply wl_alloc; exact rfl; exact hM; exact rfl; exact inferInstance; clear hM; intro gg ww hM; simp only [putT, List.set_cons_succ, List.set_cons_zero]) | (apply wl_ld; exact rfl; exact hM; exact rfl; exact rfl; exact inferInstance; exact inferInstance; simp only [putT, List.set_cons_succ, List.set_cons_zero]) | (apply wl_lda; exact rfl; exact hM; exact rfl; exact rfl; exact inferInstance; exact inferInstance; exact inferInstance; exact inferInstance; simp only [putT, List.set_cons_succ, List.set_cons_zero]) | (apply wl_ldr; exact rfl; exact hM; exact rfl; exact rfl; exact inferInstance; exact inferInstance; exact inferInstance; exact inferInstance; simp only [putT, List.set_cons_succ, List.set_cons_zero]) | (apply wl_st; exact rfl; exact hM; exact rfl; exact rfl; exact rfl; exact rfl; exact inferInstance; exact inferInstance; clear hM; intro ww hM; simp only [putT, List.set_cons_succ, List.set_cons_zero]) | (apply wl_sta; exact rfl; exact hM; exact rfl; exact rfl; exact rfl; exact all_oneCell_toArray One.out; exact inferInstance; exact inferInstance; exact inferInstance; clear hM; intro ww hM; simp only [putT, List.set_cons_succ, List.set_cons_zero]) | (apply wl_bs0; exact rfl; exact hM; exact rfl; exact inferInstance; clear hM; intro gg ww hM; simp only [putT, List.set_cons_succ, List.set_cons_zero]) | (apply wl_bs1a; exact rfl; exact hM; exact rfl; exact inferInstance; exact rfl; exact inferInstance; clear hM; intro gg ww hM; simp only [putT, List.set_cons_succ, List.set_cons_zero]) | (apply wl_bs11; exact rfl; exact hM; exact rfl; exact inferInstance; exact rfl; exact rfl; clear hM; intro gg ww hM; simp only [putT, List.set_cons_succ, List.set_cons_zero]) | (apply wl_conv; exact rfl; exact hM; exact rfl; exact rfl; exact inferInstance; exact inferInstance; simp only [putT, List.set_cons_succ, List.set_cons_zero])); refine wpListIn_end ?_)
        | ((first | gi_at_call 30 | (refine ⟨fun _ _ => trivial, ?_⟩; gi_at_call 30) | (refine ⟨trivial, ?_⟩; gi_at_call 30) | (refine ⟨trivial, rfl, ?_⟩; gi_at_call 30)); refine (callsIn_wide.2 (Len_any _ g gm _ B ca cb m us hl)).mono ?_; rintro e1 w1 ⟨rfl, rfl⟩))
      go_end0
      exact ⟨⟨_, rfl⟩, .inl ⟨T, by rw [List.length_drop]; have := unhide HK; rwa [show m.recs.length - f = j from by omega], hM.perm (List.perm_append_comm_assoc [_, _, _] T L)⟩⟩
set_option maxRecDepth 100000 in
set_option maxHeartbeats 4000000 in
theorem iter_nil2 {w0 : World} {own : Nat → Prop} {L : List Item} {bf bl f : Nat} :
    Iter2 Try.prog 63 #[.pointer (some ⟨bf, 0, none⟩), .pointer (some ⟨bl, 0, none⟩)] (encR f) [] w0 own (.blk bf 3 #[.int .i64 (f : Nat)] :: .blk bl 25 #[.pointer none] :: L) := by
  intro l TT XX W T hT hM hY
  clear hY
  replace hM := hM.perm (List.perm_append_comm_assoc T [_, _] L)
  simp only [List.cons_append, List.nil_append] at hM
  refine (callsIn_wide (n := 0)).1 ?_
  refine callsIn_of_wp Try.func63 rfl trivial ?_
  simp only [Try.ntmps63, List.size_toArray, List.length_cons, List.length_nil, Nat.reduceAdd, Nat.reduceSub, Array.replicate_succ, Array.replicate_zero, List.push_toArray, List.append_toArray, List.nil_append, List.cons_append]
  gi_wp2_with (first | (refine wpListIn_of1 (fun _ e => by cases e) ?_; ((with_reducible refine wl_shape ?_); first | (apply wl_boxa; exact rfl; exact hM; exact rfl; exact rfl; clear hM; intro gg ww hM; simp only [putT, List.set_cons_succ, List.set_cons_zero]) | (apply wl_box1; exact rfl; exact hM; exact rfl; exact rfl; exact rfl; clear hM; intro gg ww hM; simp only [putT, List.set_cons_succ, List.set_cons_zero]) | (apply wl_alloc; exact rfl; exact hM; exact rfl; exact inferInstance; clear hM; intro gg ww hM; simp only [putT, List.set_cons_succ, List.set_cons_zero]) | (apply wl_ld; exact rfl; exact hM; exact rfl; exact rfl; exact inferInstance; exact inferInstance; simp only [putT, List.set_cons_succ, List.set_cons_zero]) | (apply wl_lda; exact rfl; exact hM; exact rfl; exact rfl; exact inferInstance; exact inferInstance; exact inferInstance; exact inferInstance; simp only [putT, List.set_cons_succ, List.set_cons_zero]) | (apply wl_ldr; exact rfl; exact hM; exact rfl; exact rfl; exact inferInstance; exact inferInstance; exact inferInstance; exact inferInstance; simp only [putT, List.set_cons_succ, List.set_cons_zero]) | (apply wl_st; exact rfl; exact hM; exact rfl; exact rfl; exact rfl; exact rfl; exact inferInstance; exact inferInstance; clear hM; intro ww hM; simp only [putT, List.set_cons_succ, List.set_cons_zero]) | (apply wl_sta; exact rfl; exact hM; exact rfl; exact rfl; exact rfl; exact all_oneCell_toArray One.out; exact inferInstance; exact inferInstance; exact inferInstance; clear hM; intro ww hM; simp only [putT, List.set_cons_succ, List.set_cons_zero]) | (apply wl_bs0; exact rfl; exact hM; exact rfl; exact inferInstance; clear hM; intro gg ww hM; simp only [putT, List.set_cons_succ, List.set_cons_zero]) | (apply wl_bs1a; exact rfl; exact hM; exact rfl; exact inferInstance; exact rfl; exact inferInstance; clear hM; intro gg ww hM; simp only [putT, List.set_cons_succ, List.set_cons_zero]) | (apply wl_bs11; exact rfl; exact hM; exact rfl; exact inferInstance; exact rfl; exact rfl; clear hM; intro gg ww hM; simp only [putT, List.set_cons_succ, List.set_cons_zero]) | (apply wl_conv; exact rfl; exact hM; exact rfl; exact rfl; exact inferInstance; exact inferInstance; simp only [putT, List.set_cons_succ, List.set_cons_zero])); refine wpListIn_end ?_))
  refine wpIn_loop_once ?_
  gi_wp2_with (first
    | (refine wpListIn_of1 (fun _ e => by cases e) ?_; ((with_reducible refine wl_shape ?_); first | (apply wl_boxa; exact rfl; exact hM; exact rfl; exact rfl; clear hM; intro gg ww hM; simp only [putT, List.set_cons_succ, List.set_cons_zero]) | (apply wl_box1; exact rfl; exact hM; exact rfl; exact rfl; exact rfl; clear hM; intro gg ww hM; simp only [putT, List.set_cons_succ, List.set_cons_zero]) | (apply wl_alloc; exact rfl; exact hM; exact rfl; exact inferInstance; clear hM; intro gg ww hM; simp only [putT, List.set_cons_succ, List.set_cons_zero]) | (apply wl_ld; exact rfl; exact hM; exact rfl; exact rfl; exact inferInstance; exact inferInstance; simp only [putT, List.set_cons_succ, List.set_cons_zero]) | (apply wl_lda; exact rfl; exact hM; exact rfl; exact rfl; exact inferInstance; exact inferInstance; exact inferInstance; exact inferInstance; simp only [putT, List.set_cons_succ, List.set_cons_zero]) | (apply wl_ldr; exact rfl; exact hM; exact rfl; exact rfl; exact inferInstance; exact inferInstance; exact inferInstance; exact inferInstance; simp only [putT, List.set_cons_succ, List.set_cons_zero]) | (apply wl_st; exact rfl; exact hM; exact rfl; exact rfl; exact rfl; exact rfl; exact inferInstance; exact inferInstance; clear hM; intro ww hM; simp only [putT, List.set_cons_succ, List.set_cons_zero]) | (apply wl_sta; exact rfl; exact hM; exact rfl; exact rfl; exact rfl; exact all_oneCell_toArray One.out; exact inferInstance; exact inferInstance; exact inferInstance; clear hM; intro ww hM; simp only [putT, List.set_cons_succ, List.set_cons_zero]) | (apply wl_bs0; exact rfl; exact hM; exact rfl; exact inferInstance; clear hM; intro gg ww hM; simp only [putT, List.set_cons_succ, List.set_cons_zero]) | (apply wl_bs1a; exact rfl; exact hM; exact rfl; exact inferInstance; exact rfl; exact inferInstance; clear hM; intro gg ww hM; simp only [putT, List.set_cons_succ, List.set_cons_zero]) | (apply wl_bs11; exact rfl; exact hM; exact rfl; exact inferInstance; exact rfl; exact rfl; clear hM; intro gg ww hM; simp only [putT, List.set_cons_succ, List.set_cons_zero]) | (apply wl_conv; exact rfl; exact hM; exact rfl; exact rfl; exact inferInstance; exact inferInstance; simp only [putT, List.set_cons_succ, List.set_cons_zero])); refine wpListIn_end ?_)
    | ((first | gi_at_call 30 | (refine ⟨fun _ _ => trivial, ?_⟩; gi_at_call 30) | (refine ⟨trivial, ?_⟩; gi_at_call 30) | (refine ⟨trivial, rfl, ?_⟩; gi_at_call 30)); refine (callsIn_wide.2 (Len_nil _)).mono ?_; rintro e1 w1 ⟨rfl, rfl⟩))
  go_end0
  exact ⟨⟨_, rfl⟩, .inl ⟨T, hT, hM.perm (List.perm_append_comm_assoc [_, _] T L)⟩⟩
end
section
open Go.RowKit Go.MapKept
set_option linter.unusedSimpArgs false
set_option linter.unusedVariables false
/-- The first records below an end that are meant, and the offset behind the last one that was looked at. -/
def scan (mf : Rec → Bool) (en most : Int) : List Rec → Nat → List Rec → List Rec × Nat
  | [], i, out => (out, i)
  | r :: rs, i, out => if en ≤ (i : Int) ∨ most ≤ (out.length : Int) then (out, i) else scan mf en most rs (i + 1) (if mf r then out ++ [r] else out)
theorem scan_stop {mf : Rec → Bool} {en most : Int} {r : Rec} {rs : List Rec} {i : Nat} {out : List Rec} (h : en ≤ (i : Int) ∨ most ≤ (out.length : Int)) : scan mf en most (r :: rs) i out = (out, i) := if_pos h
theorem scan_go {mf : Rec → Bool} {en most : Int} {r : Rec} {rs : List Rec} {i : Nat} {out : List Rec} (h : ¬ (en ≤ (i : Int) ∨ most ≤ (out.length : Int))) : scan mf en most (r :: rs) i out = scan mf en most rs (i + 1) (if mf r then out ++ [r] else out) := if_neg h
theorem drop_cons {rs : List Rec} {j : Nat} {r : Rec} (h : rs[j]? = some r) : rs.drop j = r :: rs.drop (j + 1) := by
  obtain ⟨hj, rfl⟩ := List.getElem?_eq_some_iff.1 h
  exact List.drop_eq_getElem_cons hj
attribute [local irreducible] wpList Code.wp GW Calls
attribute [local go_sem] Oper.semAt_some
/-- What read has at hand. -/
def readT (x y : Item) (b7 b8 b9 b12 b13 : Nat) (most en : Int) (mv : Value) (LM : List Item) (A : Option Addr) (c : Nat) (out : List Rec) (vs : List Value) (i : Nat) : List Item :=
  .row (.slice A out.length c) 42 5 out.length (recCells out vs) :: x :: y :: .blk b13 29 #[.slice A out.length c] :: .blk b12 3 #[.int .i64 i] :: .blk b9 77 #[mv] :: .blk b8 3 #[.int .i64 en] :: .blk b7 3 #[.int .i64 most] :: (LM ++ VRows out vs)
theorem read_use {P : Program} {gf : Nat} {lb : Array Value} {w0 W1 : World} {own : Nat → Prop} {L LM : List Item} {x y z : Item} {b7 b8 b9 b12 b13 a l : Nat} {most en : Int} {mv : Value} {rs : List Rec} {mf : Rec → Bool} (hI : Iter2 P gf lb (encR a) rs w0 own L)
    (hM : Mem w0 own W1 (x :: y :: .blk b13 29 #[.slice none 0 0] :: .blk b12 3 #[.int .i64 a] :: .blk b9 77 #[mv] :: .blk b8 3 #[.int .i64 en] :: .blk b7 3 #[.int .i64 most] :: (LM ++ L))) {R : Ending → World → Prop}
    (hY : ∀ (j k : Nat) (r : Rec) (L' : List Item) (W : World) (D : Option Addr) (c : Nat) (A : Option Addr) (c0 : Nat) (out : List Rec) (vs : List Value), rs[j]? = some r → k = a + j → out.length ≤ j → vs.length = out.length →
      Mem w0 own W (.row (.slice D r.v.length c) 5 1 r.v.length (r.v.map V8) :: .row (.slice A out.length c0) 42 5 out.length (recCells out vs) :: x :: y :: .blk b13 29 #[.slice A out.length c0] :: .blk b12 3 #[.int .i64 k] :: .blk b9 77 #[mv] :: .blk b8 3 #[.int .i64 en] :: .blk b7 3 #[.int .i64 most] :: (LM ++ L')) →
      YieldAt Fence.wide 0 P l #[.int .i64 (k : Nat), .agg (recVals r (.slice D r.v.length c)).toArray] W fun e W' =>
        ((en ≤ (k : Int) ∨ most ≤ (out.length : Int)) ∧ e = .returned (.bool false) ∧ Mem w0 own W' (.row (.slice A out.length c0) 42 5 out.length (recCells out vs) :: z :: y :: .blk b13 29 #[.slice A out.length c0] :: .blk b12 3 #[.int .i64 k] :: .blk b9 77 #[mv] :: .blk b8 3 #[.int .i64 en] :: .blk b7 3 #[.int .i64 most] :: (LM ++ L'))) ∨
        (¬ (en ≤ (k : Int) ∨ most ≤ (out.length : Int)) ∧ mf r = true ∧ e = .returned (.bool true) ∧ ∃ A' c', Mem w0 own W' (.row (.slice D r.v.length c) 5 1 r.v.length (r.v.map V8) :: .row (.slice A' (out.length + 1) c') 42 5 (out.length + 1) (recCells out vs ++ recVals r (.slice D r.v.length c)) :: x :: y :: .blk b13 29 #[.slice A' (out.length + 1) c'] :: .blk b12 3 #[.int .i64 (k + 1 : Nat)] :: .blk b9 77 #[mv] :: .blk b8 3 #[.int .i64 en] :: .blk b7 3 #[.int .i64 most] :: (LM ++ L'))) ∨
        (¬ (en ≤ (k : Int) ∨ most ≤ (out.length : Int)) ∧ mf r = false ∧ e = .returned (.bool true) ∧ Mem w0 own W' (.row (.slice A out.length c0) 42 5 out.length (recCells out vs) :: x :: y :: .blk b13 29 #[.slice A out.length c0] :: .blk b12 3 #[.int .i64 (k + 1 : Nat)] :: .blk b9 77 #[mv] :: .blk b8 3 #[.int .i64 en] :: .blk b7 3 #[.int .i64 most] :: (LM ++ L'))))
    (hR : ∀ v A c out vs i W2 xz, xz = x ∨ xz = z → scan mf en most rs a [] = (out, i) → vs.length = out.length → Mem w0 own W2 (readT xz y b7 b8 b9 b12 b13 most en mv LM A c out vs i ++ L) → R (.returned v) W2) :
    Calls P gf (#[.func (.yield l) #[] #[]] ++ lb) W1 R := by
  refine (hI l (fun j T => ∃ A c out vs, out.length ≤ j ∧ vs.length = out.length ∧ scan mf en most (rs.drop j) (a + j) out = scan mf en most rs a [] ∧ T = readT x y b7 b8 b9 b12 b13 most en mv LM A c out vs (a + j))
    (fun j T => ∃ A c out vs i, vs.length = out.length ∧ scan mf en most rs a [] = (out, i) ∧ T = readT z y b7 b8 b9 b12 b13 most en mv LM A c out vs i) W1 _ ⟨none, 0, [], [], Nat.zero_le _, rfl, rfl, rfl⟩ ?_ ?_).mono ?_
  · have := hM.pushNil 42 5
    simpa [readT, VRows, recCells] using this
  · rintro j r T L' W D c hr ⟨A, c0, out, vs, hoj, hv, hs, rfl⟩ hMW
    have hMW' : Mem w0 own W (.row (.slice D r.v.length c) 5 1 r.v.length (r.v.map V8) :: .row (.slice A out.length c0) 42 5 out.length (recCells out vs) :: x :: y :: .blk b13 29 #[.slice A out.length c0] :: .blk b12 3 #[.int .i64 (a + j : Nat)] :: .blk b9 77 #[mv] :: .blk b8 3 #[.int .i64 en] :: .blk b7 3 #[.int .i64 most] :: (LM ++ (VRows out vs ++ L'))) := by
      rw [← List.append_assoc]
      exact hMW
    obtain ⟨fn, tmps, asg, bd, h1, h2⟩ := hY j (a + j) r (VRows out vs ++ L') W D c A c0 out vs hr rfl hoj hv hMW'
    refine ⟨fn, tmps, asg, bd, h1, h2.mono ?_⟩
    rw [drop_cons hr] at hs
    rintro e W' (⟨hstop, rfl, hM'⟩ | ⟨hgo, hm, rfl, A', c', hM'⟩ | ⟨hgo, hm, rfl, hM'⟩)
    · refine .inr ⟨rfl, _, ⟨A, c0, out, vs, a + j, hv, by rw [← hs, scan_stop hstop], rfl⟩, ?_⟩
      rw [← List.append_assoc] at hM'
      exact hM'
    · rw [scan_go hgo, hm, if_pos rfl] at hs
      refine .inl ⟨rfl, _, ⟨A', c', out ++ [r], vs ++ [.slice D r.v.length c], by simp; omega, by simp [hv], hs, rfl⟩, ?_⟩
      unfold readT
      rw [vrows_snoc out vs r _ hv, recCells_append out [r] vs _ hv, show (out ++ [r]).length = out.length + 1 from by simp, show recCells [r] [Value.slice D r.v.length c] = recVals r (.slice D r.v.length c) from by simp [recCells]]
      have hp : ∀ (q y1 y2 y3 y4 y5 y6 y7 y8 : Item) (L1 L2 L3 : List Item), (q :: y1 :: y2 :: y3 :: y4 :: y5 :: y6 :: y7 :: y8 :: (L1 ++ (L2 ++ L3))).Perm ((y1 :: y2 :: y3 :: y4 :: y5 :: y6 :: y7 :: y8 :: (L1 ++ (L2 ++ [q]))) ++ L3) := by
        intro q y1 y2 y3 y4 y5 y6 y7 y8 L1 L2 L3
        have e : (y1 :: y2 :: y3 :: y4 :: y5 :: y6 :: y7 :: y8 :: (L1 ++ (L2 ++ [q]))) ++ L3 = (y1 :: y2 :: y3 :: y4 :: y5 :: y6 :: y7 :: y8 :: (L1 ++ L2)) ++ q :: L3 := by simp
        have e2 : q :: y1 :: y2 :: y3 :: y4 :: y5 :: y6 :: y7 :: y8 :: (L1 ++ (L2 ++ L3)) = q :: ((y1 :: y2 :: y3 :: y4 :: y5 :: y6 :: y7 :: y8 :: (L1 ++ L2)) ++ L3) := by simp
        rw [e, e2]
        exact List.perm_middle.symm
      exact hM'.perm (hp _ _ _ _ _ _ _ _ _ _ _ _)
    · rw [scan_go hgo, hm, if_neg (by simp)] at hs
      refine .inl ⟨rfl, _, ⟨A, c0, out, vs, by omega, hv, hs, rfl⟩, ?_⟩
      rw [← List.append_assoc] at hM'
      exact hM'
  · rintro e W2 ⟨⟨v, rfl⟩, ⟨T, ⟨A, c, out, vs, _, hv, hs, rfl⟩, hM2⟩ | ⟨j, T, ⟨A, c, out, vs, i, hv, hs, rfl⟩, hM2⟩⟩
    · rw [List.drop_length] at hs
      exact hR v A c out vs _ W2 x (.inl rfl) hs.symm hv hM2
    · exact hR v A c out vs i W2 z (.inr rfl) hs hv hM2
end
section
open Go.RowKit Go.MapKept
set_option linter.unusedSimpArgs false
set_option linter.unusedVariables false
theorem perm_read (q1 q2 y3 y4 y5 y6 y7 : Item) (LM L : List Item) : (q1 :: q2 :: y3 :: y4 :: y5 :: y6 :: y7 :: (LM ++ L)).Perm (y3 :: y4 :: y5 :: y6 :: y7 :: (LM ++ (q1 :: q2 :: L))) := by
  have h := List.perm_append_comm_assoc [q1, q2] (y3 :: y4 :: y5 :: y6 :: y7 :: LM) L
  simpa using h
theorem perm_read2 (r y3 y4 y5 y6 y7 q1 q2 : Item) (LM V L : List Item) {w0 w : World} {own : Nat → Prop} (hM : Mem w0 own w ((r :: y3 :: y4 :: y5 :: y6 :: y7 :: (LM ++ V)) ++ (q1 :: q2 :: L))) : Mem w0 own w (r :: (V ++ (LM ++ L))) := by
  have h1 : Mem w0 own w (r :: ((LM ++ V) ++ L)) := hM.sub (by
    have e : (r :: y3 :: y4 :: y5 :: y6 :: y7 :: (LM ++ V)) ++ (q1 :: q2 :: L) = r :: y3 :: y4 :: y5 :: y6 :: y7 :: ((LM ++ V) ++ (q1 :: q2 :: L)) := by simp
    rw [e]
    refine List.Sublist.cons_cons _ ?_
    refine List.Sublist.cons _ (List.Sublist.cons _ (List.Sublist.cons _ (List.Sublist.cons _ (List.Sublist.cons _ ?_))))
    exact (List.Sublist.refl _).append (List.Sublist.cons _ (List.Sublist.cons _ (List.Sublist.refl _))))
  refine h1.perm (List.Perm.cons _ ?_)
  rw [List.append_assoc]
  exact List.perm_append_comm_assoc _ _ _
theorem xz {w0 W : World} {own : Nat → Prop} {l fn D : Nat} {tmps : Array Value} {ps : Array Tmp} {asg bd : Code} {L : List Item} (_ : Mem w0 own W (.obj l (· = recL .ready fn tmps ps asg bd D) :: L)) : ∃ z, z = Item.obj l (· = recX (.exit 0) fn tmps ps asg bd D) := ⟨_, rfl⟩
theorem fold2' (p q : Nat) (v u : Value) (t : Array Value) : ((#[p, q] : Array Tmp).zip #[v, u]).foldl (fun t (x : Tmp × Value) => t.setIfInBounds x.1 x.2) t = (t.setIfInBounds p v).setIfInBounds q u := by simp
attribute [local irreducible] wpList Code.wp GW Calls
attribute [local go_sem] Oper.semAt_some
set_option maxRecDepth 100000 in
set_option maxHeartbeats 8000000 in
theorem read_any {w0 w : World} {own : Nat → Prop} {LM L : List Item} (hM : Mem w0 own w (LM ++ L)) (p : Option Addr) (fr most en : Int) (gm : Nat) (lbm : Array Value) (rs : List Rec) (mf : Rec → Bool) (a : Nat) (ha : max fr 0 = (a : Int)) (hrs : 0 < rs.length → a + rs.length ≤ 1000000)
    (eg : ∀ args w, (callFunc gm args).run Try.prog w = .ok (.enter gm args) w)
    (HME : ∀ r D c w' X, Mem w0 own w' (LM ++ X) → Calls Try.prog gm (#[.agg (recVals r (.slice D r.v.length c)).toArray] ++ lbm) w' fun e w'' => e = .returned (.bool (mf r)) ∧ Grow w' noOwn w'')
    (HIT : ∀ bf bl, Iter2 Try.prog 63 #[.pointer (some ⟨bf, 0, none⟩), .pointer (some ⟨bl, 0, none⟩)] (encR a) rs w0 own (.blk bf 3 #[.int .i64 a] :: .blk bl 25 #[.pointer p] :: L)) :
    Calls Try.prog 36 #[.pointer p, .int .i64 fr, .int .i64 most, .int .i64 en, .func (.func gm) #[] lbm] w fun e w' => ∃ A c out vs i, e = .returned (.tuple #[.slice A out.length c, .int .i64 (i : Nat)]) ∧ vs.length = out.length ∧ scan mf en most rs a [] = (out, i) ∧
      Mem w0 own w' (outX A c out vs ++ (LM ++ L)) := by
  refine (callsIn_wide (n := 0)).1 ?_
  refine callsIn_of_wp_marks Try.func36 rfl trivial ?_
  simp only [Try.ntmps36, List.size_toArray, List.length_cons, List.length_nil, Nat.reduceAdd, Nat.reduceSub, Array.replicate_succ, Array.replicate_zero, List.push_toArray, List.append_toArray, List.nil_append, List.cons_append]
  gi_wp2_with (first | (refine wpListIn_of1 (fun _ e => by cases e) ?_; ((with_reducible refine wl_shape ?_); first | (apply wl_boxa; exact rfl; exact hM; exact rfl; exact rfl; clear hM; intro gg ww hM; simp only [putT, List.set_cons_succ, List.set_cons_zero]) | (apply wl_box1; exact rfl; exact hM; exact rfl; exact rfl; exact rfl; clear hM; intro gg ww hM; simp only [putT, List.set_cons_succ, List.set_cons_zero]) | (apply wl_alloc; exact rfl; exact hM; exact rfl; exact inferInstance; clear hM; intro gg ww hM; simp only [putT, List.set_cons_succ, List.set_cons_zero]) | (apply wl_ld; exact rfl; exact hM; exact rfl; exact rfl; exact inferInstance; exact inferInstance; simp only [putT, List.set_cons_succ, List.set_cons_zero]) | (apply wl_lda; exact rfl; exact hM; exact rfl; exact rfl; exact inferInstance; exact inferInstance; exact inferInstance; exact inferInstance; simp only [putT, List.set_cons_succ, List.set_cons_zero]) | (apply wl_ldr; exact rfl; exact hM; exact rfl; exact rfl; exact inferInstance; exact inferInstance; exact inferInstance; exact inferInstance; simp only [putT, List.set_cons_succ, List.set_cons_zero]) | (apply wl_st; exact rfl; exact hM; exact rfl; exact rfl; exact rfl; exact rfl; exact inferInstance; exact inferInstance; clear hM; intro ww hM; simp only [putT, List.set_cons_succ, List.set_cons_zero]) | (apply wl_sta; exact rfl; exact hM; exact rfl; exact rfl; exact rfl; exact all_oneCell_toArray One.out; exact inferInstance; exact inferInstance; exact inferInstance; clear hM; intro ww hM; simp only [putT, List.set_cons_succ, List.set_cons_zero]) | (apply wl_bs0; exact rfl; exact hM; exact rfl; exact inferInstance; clear hM; intro gg ww hM; simp only [putT, List.set_cons_succ, List.set_cons_zero]) | (apply wl_bs1a; exact rfl; exact hM; exact rfl; exact inferInstance; exact rfl; exact inferInstance; clear hM; intro gg ww hM; simp only [putT, List.set_cons_succ, List.set_cons_zero]) | (apply wl_bs11; exact rfl; exact hM; exact rfl; exact inferInstance; exact rfl; exact rfl; clear hM; intro gg ww hM; simp only [putT, List.set_cons_succ, List.set_cons_zero]) | (apply wl_conv; exact rfl; exact hM; exact rfl; exact rfl; exact inferInstance; exact inferInstance; simp only [putT, List.set_cons_succ, List.set_cons_zero])); refine wpListIn_end ?_) | ((first | gi_at_call 55 | (refine ⟨fun _ _ => trivial, ?_⟩; gi_at_call 55) | (refine ⟨trivial, ?_⟩; gi_at_call 55) | (refine ⟨trivial, rfl, ?_⟩; gi_at_call 55)); refine (callsIn_wide.2 (Records_any hM p a)).mono ?_; rintro e1 w1 ⟨bf, bl, rfl, hM1⟩; clear hM; have hM := hM1; clear hM1))
  replace hM := hM.perm (perm_read _ _ _ _ _ _ _ _ _)
  refine wpIn_range2 rfl (fun args w => run_callFunc Try.func63 (by kernel_rfl) rfl args w) hM ?_
  intro fn l D W1 hM1
  clear hM
  obtain ⟨z, hz⟩ := xz hM1
  refine read_use (mf := mf) (z := z) (HIT bf bl) hM1 ?_ ?_
  · clear hM1 HIT
    intro j k r L' W D' c A c0 out vs hr hk hoj hv hM
    have hj : j < rs.length := (List.getElem?_eq_some_iff.1 hr).1
    have hb := hrs (by omega)
    have HK := hide hk
    have hkb : k ≤ 1000000 := by omega
    have hob : out.length ≤ 1000000 := by omega
    clear hr hk hoj hb hj hrs
    rcases (by omega : (en ≤ (k : Int)) ∨ (¬ en ≤ (k : Int) ∧ most ≤ (out.length : Int)) ∨ (¬ en ≤ (k : Int) ∧ ¬ most ≤ (out.length : Int))) with hen | ⟨hen, hmo⟩ | ⟨hen, hmo⟩
    · have HST : en ≤ (k : Int) ∨ most ≤ (out.length : Int) := .inl hen
      have hd1 : True := trivial
      refine yield_round hM 2 rfl rfl ?_
      simp only [fold2', List.setIfInBounds_toArray, List.set_cons_succ, List.set_cons_zero]
      gi_wp2_with (first | (refine wpListIn_of1 (fun _ e => by cases e) ?_; ((with_reducible refine wl_shape ?_); first | (apply wl_boxa; exact rfl; exact hM; exact rfl; exact rfl; clear hM; intro gg ww hM; simp only [putT, List.set_cons_succ, List.set_cons_zero]) | (apply wl_box1; exact rfl; exact hM; exact rfl; exact rfl; exact rfl; clear hM; intro gg ww hM; simp only [putT, List.set_cons_succ, List.set_cons_zero]) | (apply wl_alloc; exact rfl; exact hM; exact rfl; exact inferInstance; clear hM; intro gg ww hM; simp only [putT, List.set_cons_succ, List.set_cons_zero]) | (apply wl_ld; exact rfl; exact hM; exact rfl; exact rfl; exact inferInstance; exact inferInstance; simp only [putT, List.set_cons_succ, List.set_cons_zero]) | (apply wl_lda; exact rfl; exact hM; exact rfl; exact rfl; exact inferInstance; exact inferInstance; exact inferInstance; exact inferInstance; simp only [putT, List.set_cons_succ, List.set_cons_zero]) | (apply wl_ldr; exact rfl; exact hM; exact rfl; exact rfl; exact inferInstance; exact inferInstance; exact inferInstance; exact inferInstance; simp only [putT, List.set_cons_succ, List.set_cons_zero]) | (apply wl_st; exact rfl; exact hM; exact rfl; exact rfl; exact rfl; exact rfl; exact inferInstance; exact inferInstance; clear hM; intro ww hM; simp only [putT, List.set_cons_succ, List.set_cons_zero]) | (apply wl_sta; exact rfl; exact hM; exact rfl; exact rfl; exact rfl; exact all_oneCell_toArray One.out; exact inferInstance; exact inferInstance; exact inferInstance; clear hM; intro ww hM; simp only [putT, List.set_cons_succ, List.set_cons_zero]) | (apply wl_bs0; exact rfl; exact hM; exact rfl; exact inferInstance; clear hM; intro gg ww hM; simp only [putT, List.set_cons_succ, List.set_cons_zero]) | (apply wl_bs1a; exact rfl; exact hM; exact rfl; exact inferInstance; exact rfl; exact inferInstance; clear hM; intro gg ww hM; simp only [putT, List.set_cons_succ, List.set_cons_zero]) | (apply wl_bs11; exact rfl; exact hM; exact rfl; exact inferInstance; exact rfl; exact rfl; clear hM; intro gg ww hM; simp only [putT, List.set_cons_succ, List.set_cons_zero]) | (apply wl_conv; exact rfl; exact hM; exact rfl; exact rfl; exact inferInstance; exact inferInstance; simp only [putT, List.set_cons_succ, List.set_cons_zero])); refine wpListIn_end ?_))
      obtain ⟨wb, hb, hM2⟩ := begin_mem (P := Try.prog) hM 3 rfl
      refine ⟨wb, hb, ?_⟩
      clear hM hb
      have hM := hM2
      clear hM2
      simp only [List.set_cons_succ, List.set_cons_zero] at hM
      gi_wp2_with (first | (refine wpListIn_of1 (fun _ e => by cases e) ?_; ((with_reducible refine wl_shape ?_); first | (apply wl_boxa; exact rfl; exact hM; exact rfl; exact rfl; clear hM; intro gg ww hM; simp only [putT, List.set_cons_succ, List.set_cons_zero]) | (apply wl_box1; exact rfl; exact hM; exact rfl; exact rfl; exact rfl; clear hM; intro gg ww hM; simp only [putT, List.set_cons_succ, List.set_cons_zero]) | (apply wl_alloc; exact rfl; exact hM; exact rfl; exact inferInstance; clear hM; intro gg ww hM; simp only [putT, List.set_cons_succ, List.set_cons_zero]) | (apply wl_ld; exact rfl; exact hM; exact rfl; exact rfl; exact inferInstance; exact inferInstance; simp only [putT, List.set_cons_succ, List.set_cons_zero]) | (apply wl_lda; exact rfl; exact hM; exact rfl; exact rfl; exact inferInstance; exact inferInstance; exact inferInstance; exact inferInstance; simp only [putT, List.set_cons_succ, List.set_cons_zero]) | (apply wl_ldr; exact rfl; exact hM; exact rfl; exact rfl; exact inferInstance; exact inferInstance; exact inferInstance; exact inferInstance; simp only [putT, List.set_cons_succ, List.set_cons_zero]) | (apply wl_st; exact rfl; exact hM; exact rfl; exact rfl; exact rfl; exact rfl; exact inferInstance; exact inferInstance; clear hM; intro ww hM; simp only [putT, List.set_cons_succ, List.set_cons_zero]) | (apply wl_sta; exact rfl; exact hM; exact rfl; exact rfl; exact rfl; exact all_oneCell_toArray One.out; exact inferInstance; exact inferInstance; exact inferInstance; clear hM; intro ww hM; simp only [putT, List.set_cons_succ, List.set_cons_zero]) | (apply wl_bs0; exact rfl; exact hM; exact rfl; exact inferInstance; clear hM; intro gg ww hM; simp only [putT, List.set_cons_succ, List.set_cons_zero]) | (apply wl_bs1a; exact rfl; exact hM; exact rfl; exact inferInstance; exact rfl; exact inferInstance; clear hM; intro gg ww hM; simp only [putT, List.set_cons_succ, List.set_cons_zero]) | (apply wl_bs11; exact rfl; exact hM; exact rfl; exact inferInstance; exact rfl; exact rfl; clear hM; intro gg ww hM; simp only [putT, List.set_cons_succ, List.set_cons_zero]) | (apply wl_conv; exact rfl; exact hM; exact rfl; exact rfl; exact inferInstance; exact inferInstance; simp only [putT, List.set_cons_succ, List.set_cons_zero])); refine wpListIn_end ?_))
      obtain ⟨w3, he, hM3⟩ := end_exit (P := Try.prog) 0 hM 3 rfl
      have hM4 := hM3.tail.tail
      first
        | exact ⟨_, w3, he, rfl, hM4⟩
        | exact ⟨_, w3, he, .inl ⟨HST, rfl, by rw [hz]; exact hM4⟩⟩
    · have HST : en ≤ (k : Int) ∨ most ≤ (out.length : Int) := .inr hmo
      have hd1 : decide (en ≤ (k : Int)) = false := decide_eq_false hen
      refine yield_round hM 2 rfl rfl ?_
      simp only [fold2', List.setIfInBounds_toArray, List.set_cons_succ, List.set_cons_zero]
      gi_wp2_with (first | (refine wpListIn_of1 (fun _ e => by cases e) ?_; ((with_reducible refine wl_shape ?_); first | (apply wl_boxa; exact rfl; exact hM; exact rfl; exact rfl; clear hM; intro gg ww hM; simp only [putT, List.set_cons_succ, List.set_cons_zero]) | (apply wl_box1; exact rfl; exact hM; exact rfl; exact rfl; exact rfl; clear hM; intro gg ww hM; simp only [putT, List.set_cons_succ, List.set_cons_zero]) | (apply wl_alloc; exact rfl; exact hM; exact rfl; exact inferInstance; clear hM; intro gg ww hM; simp only [putT, List.set_cons_succ, List.set_cons_zero]) | (apply wl_ld; exact rfl; exact hM; exact rfl; exact rfl; exact inferInstance; exact inferInstance; simp only [putT, List.set_cons_succ, List.set_cons_zero]) | (apply wl_lda; exact rfl; exact hM; exact rfl; exact rfl; exact inferInstance; exact inferInstance; exact inferInstance; exact inferInstance; simp only [putT, List.set_cons_succ, List.set_cons_zero]) | (apply wl_ldr; exact rfl; exact hM; exact rfl; exact rfl; exact inferInstance; exact inferInstance; exact inferInstance; exact inferInstance; simp only [putT, List.set_cons_succ, List.set_cons_zero]) | (apply wl_st; exact rfl; exact hM; exact rfl; exact rfl; exact rfl; exact rfl; exact inferInstance; exact inferInstance; clear hM; intro ww hM; simp only [putT, List.set_cons_succ, List.set_cons_zero]) | (apply wl_sta; exact rfl; exact hM; exact rfl; exact rfl; exact rfl; exact all_oneCell_toArray One.out; exact inferInstance; exact inferInstance; exact inferInstance; clear hM; intro ww hM; simp only [putT, List.set_cons_succ, List.set_cons_zero]) | (apply wl_bs0; exact rfl; exact hM; exact rfl; exact inferInstance; clear hM; intro gg ww hM; simp only [putT, List.set_cons_succ, List.set_cons_zero]) | (apply wl_bs1a; exact rfl; exact hM; exact rfl; exact inferInstance; exact rfl; exact inferInstance; clear hM; intro gg ww hM; simp only [putT, List.set_cons_succ, List.set_cons_zero]) | (apply wl_bs11; exact rfl; exact hM; exact rfl; exact inferInstance; exact rfl; exact rfl; clear hM; intro gg ww hM; simp only [putT, List.set_cons_succ, List.set_cons_zero]) | (apply wl_conv; exact rfl; exact hM; exact rfl; exact rfl; exact inferInstance; exact inferInstance; simp only [putT, List.set_cons_succ, List.set_cons_zero])); refine wpListIn_end ?_))
      obtain ⟨wb, hb, hM2⟩ := begin_mem (P := Try.prog) hM 3 rfl
      refine ⟨wb, hb, ?_⟩
      clear hM hb
      have hM := hM2
      clear hM2
      simp only [List.set_cons_succ, List.set_cons_zero] at hM
      gi_wp2_with (first | (refine wpListIn_of1 (fun _ e => by cases e) ?_; ((with_reducible refine wl_shape ?_); first | (apply wl_boxa; exact rfl; exact hM; exact rfl; exact rfl; clear hM; intro gg ww hM; simp only [putT, List.set_cons_succ, List.set_cons_zero]) | (apply wl_box1; exact rfl; exact hM; exact rfl; exact rfl; exact rfl; clear hM; intro gg ww hM; simp only [putT, List.set_cons_succ, List.set_cons_zero]) | (apply wl_alloc; exact rfl; exact hM; exact rfl; exact inferInstance; clear hM; intro gg ww hM; simp only [putT, List.set_cons_succ, List.set_cons_zero]) | (apply wl_ld; exact rfl; exact hM; exact rfl; exact rfl; exact inferInstance; exact inferInstance; simp only [putT, List.set_cons_succ, List.set_cons_zero]) | (apply wl_lda; exact rfl; exact hM; exact rfl; exact rfl; exact inferInstance; exact inferInstance; exact inferInstance; exact inferInstance; simp only [putT, List.set_cons_succ, List.set_cons_zero]) | (apply wl_ldr; exact rfl; exact hM; exact rfl; exact rfl; exact inferInstance; exact inferInstance; exact inferInstance; exact inferInstance; simp only [putT, List.set_cons_succ, List.set_cons_zero]) | (apply wl_st; exact rfl; exact hM; exact rfl; exact rfl; exact rfl; exact rfl; exact inferInstance; exact inferInstance; clear hM; intro ww hM; simp only [putT, List.set_cons_succ, List.set_cons_zero]) | (apply wl_sta; exact rfl; exact hM; exact rfl; exact rfl; exact rfl; exact all_oneCell_toArray One.out; exact inferInstance; exact inferInstance; exact inferInstance; clear hM; intro ww hM; simp only [putT, List.set_cons_succ, List.set_cons_zero]) | (apply wl_bs0; exact rfl; exact hM; exact rfl; exact inferInstance; clear hM; intro gg ww hM; simp only [putT, List.set_cons_succ, List.set_cons_zero]) | (apply wl_bs1a; exact rfl; exact hM; exact rfl; exact inferInstance; exact rfl; exact inferInstance; clear hM; intro gg ww hM; simp only [putT, List.set_cons_succ, List.set_cons_zero]) | (apply wl_bs11; exact rfl; exact hM; exact rfl; exact inferInstance; exact rfl; exact rfl; clear hM; intro gg ww hM; simp only [putT, List.set_cons_succ, List.set_cons_zero]) | (apply wl_conv; exact rfl; exact hM; exact rfl; exact rfl; exact inferInstance; exact inferInstance; simp only [putT, List.set_cons_succ, List.set_cons_zero])); refine wpListIn_end ?_) | (rw [hd1]))
      obtain ⟨w3, he, hM3⟩ := end_exit (P := Try.prog) 0 hM 3 rfl
      have hM4 := hM3.tail.tail
      first
        | exact ⟨_, w3, he, rfl, hM4⟩
        | exact ⟨_, w3, he, .inl ⟨HST, rfl, by rw [hz]; exact hM4⟩⟩
    · have HGO : ¬ (en ≤ (k : Int) ∨ most ≤ (out.length : Int)) := fun e => e.elim hen hmo
      have hd1 : decide (en ≤ (k : Int)) = false := decide_eq_false hen
      have hd2 : decide (most ≤ (out.length : Int)) = false := decide_eq_false hmo
      cases hmf : mf r
      · have HMr := fun w' X hX => HME r D' c w' X hX
        rw [hmf] at HMr
        refine yield_round hM 2 rfl rfl ?_
        simp only [fold2', List.setIfInBounds_toArray, List.set_cons_succ, List.set_cons_zero]
        gi_wp2_with (first | (refine wpListIn_of1 (fun _ e => by cases e) ?_; ((with_reducible refine wl_shape ?_); first | (apply wl_boxa; exact rfl; exact hM; exact rfl; exact rfl; clear hM; intro gg ww hM; simp only [putT, List.set_cons_succ, List.set_cons_zero]) | (apply wl_box1; exact rfl; exact hM; exact rfl; exact rfl; exact rfl; clear hM; intro gg ww hM; simp only [putT, List.set_cons_succ, List.set_cons_zero]) | (apply wl_alloc; exact rfl; exact hM; exact rfl; exact inferInstance; clear hM; intro gg ww hM; simp only [putT, List.set_cons_succ, List.set_cons_zero]) | (apply wl_ld; exact rfl; exact hM; exact rfl; exact rfl; exact inferInstance; exact inferInstance; simp only [putT, List.set_cons_succ, List.set_cons_zero]) | (apply wl_lda; exact rfl; exact hM; exact rfl; exact rfl; exact inferInstance; exact inferInstance; exact inferInstance; exact inferInstance; simp only [putT, List.set_cons_succ, List.set_cons_zero]) | (apply wl_ldr; exact rfl; exact hM; exact rfl; exact rfl; exact inferInstance; exact inferInstance; exact inferInstance; exact inferInstance; simp only [putT, List.set_cons_succ, List.set_cons_zero]) | (apply wl_st; exact rfl; exact hM; exact rfl; exact rfl; exact rfl; exact rfl; exact inferInstance; exact inferInstance; clear hM; intro ww hM; simp only [putT, List.set_cons_succ, List.set_cons_zero]) | (apply wl_sta; exact rfl; exact hM; exact rfl; exact rfl; exact rfl; exact all_oneCell_toArray One.out; exact inferInstance; exact inferInstance; exact inferInstance; clear hM; intro ww hM; simp only [putT, List.set_cons_succ, List.set_cons_zero]) | (apply wl_bs0; exact rfl; exact hM; exact rfl; exact inferInstance; clear hM; intro gg ww hM; simp only [putT, List.set_cons_succ, List.set_cons_zero]) | (apply wl_bs1a; exact rfl; exact hM; exact rfl; exact inferInstance; exact rfl; exact inferInstance; clear hM; intro gg ww hM; simp only [putT, List.set_cons_succ, List.set_cons_zero]) | (apply wl_bs11; exact rfl; exact hM; exact rfl; exact inferInstance; exact rfl; exact rfl; clear hM; intro gg ww hM; simp only [putT, List.set_cons_succ, List.set_cons_zero]) | (apply wl_conv; exact rfl; exact hM; exact rfl; exact rfl; exact inferInstance; exact inferInstance; simp only [putT, List.set_cons_succ, List.set_cons_zero])); refine wpListIn_end ?_))
        obtain ⟨wb, hb, hM2⟩ := begin_mem (P := Try.prog) hM 3 rfl
        refine ⟨wb, hb, ?_⟩
        clear hM hb
        have hM := hM2
        clear hM2
        simp only [List.set_cons_succ, List.set_cons_zero] at hM
        gi_wp2_with (first | (refine wpListIn_of1 (fun _ e => by cases e) ?_; ((with_reducible refine wl_shape ?_); first | (apply wl_boxa; exact rfl; exact hM; exact rfl; exact rfl; clear hM; intro gg ww hM; simp only [putT, List.set_cons_succ, List.set_cons_zero]) | (apply wl_box1; exact rfl; exact hM; exact rfl; exact rfl; exact rfl; clear hM; intro gg ww hM; simp only [putT, List.set_cons_succ, List.set_cons_zero]) | (apply wl_alloc; exact rfl; exact hM; exact rfl; exact inferInstance; clear hM; intro gg ww hM; simp only [putT, List.set_cons_succ, List.set_cons_zero]) | (apply wl_ld; exact rfl; exact hM; exact rfl; exact rfl; exact inferInstance; exact inferInstance; simp only [putT, List.set_cons_succ, List.set_cons_zero]) | (apply wl_lda; exact rfl; exact hM; exact rfl; exact rfl; exact inferInstance; exact inferInstance; exact inferInstance; exact inferInstance; simp only [putT, List.set_cons_succ, List.set_cons_zero]) | (apply wl_ldr; exact rfl; exact hM; exact rfl; exact rfl; exact inferInstance; exact inferInstance; exact inferInstance; exact inferInstance; simp only [putT, List.set_cons_succ, List.set_cons_zero]) | (apply wl_st; exact rfl; exact hM; exact rfl; exact rfl; exact rfl; exact rfl; exact inferInstance; exact inferInstance; clear hM; intro ww hM; simp only [putT, List.set_cons_succ, List.set_cons_zero]) | (apply wl_sta; exact rfl; exact hM; exact rfl; exact rfl; exact rfl; exact all_oneCell_toArray One.out; exact inferInstance; exact inferInstance; exact inferInstance; clear hM; intro ww hM; simp only [putT, List.set_cons_succ, List.set_cons_zero]) | (apply wl_bs0; exact rfl; exact hM; exact rfl; exact inferInstance; clear hM; intro gg ww hM; simp only [putT, List.set_cons_succ, List.set_cons_zero]) | (apply wl_bs1a; exact rfl; exact hM; exact rfl; exact inferInstance; exact rfl; exact inferInstance; clear hM; intro gg ww hM; simp only [putT, List.set_cons_succ, List.set_cons_zero]) | (apply wl_bs11; exact rfl; exact hM; exact rfl; exact inferInstance; exact rfl; exact rfl; clear hM; intro gg ww hM; simp only [putT, List.set_cons_succ, List.set_cons_zero]) | (apply wl_conv; exact rfl; exact hM; exact rfl; exact rfl; exact inferInstance; exact inferInstance; simp only [putT, List.set_cons_succ, List.set_cons_zero])); refine wpListIn_end ?_) | (rw [hd1]) | (rw [hd2]))
        refine ⟨trivial, rfl, ?_⟩
        refine (CallsIn.inRound l (callsIn_wide.2 (HMr _ _ (hM.perm (List.perm_append_comm_assoc [_, _, _, _, _, _, _, _, _, _] LM L'))))).mono ?_
        rintro e1 w1 ⟨rfl, hg⟩
        replace hM := hM.call hg
        clear hg
        gi_wp2_with (first | (refine wpListIn_of1 (fun _ e => by cases e) ?_; ((with_reducible refine wl_shape ?_); first | (apply wl_boxa; exact rfl; exact hM; exact rfl; exact rfl; clear hM; intro gg ww hM; simp only [putT, List.set_cons_succ, List.set_cons_zero]) | (apply wl_box1; exact rfl; exact hM; exact rfl; exact rfl; exact rfl; clear hM; intro gg ww hM; simp only [putT, List.set_cons_succ, List.set_cons_zero]) | (apply wl_alloc; exact rfl; exact hM; exact rfl; exact inferInstance; clear hM; intro gg ww hM; simp only [putT, List.set_cons_succ, List.set_cons_zero]) | (apply wl_ld; exact rfl; exact hM; exact rfl; exact rfl; exact inferInstance; exact inferInstance; simp only [putT, List.set_cons_succ, List.set_cons_zero]) | (apply wl_lda; exact rfl; exact hM; exact rfl; exact rfl; exact inferInstance; exact inferInstance; exact inferInstance; exact inferInstance; simp only [putT, List.set_cons_succ, List.set_cons_zero]) | (apply wl_ldr; exact rfl; exact hM; exact rfl; exact rfl; exact inferInstance; exact inferInstance; exact inferInstance; exact inferInstance; simp only [putT, List.set_cons_succ, List.set_cons_zero]) | (apply wl_st; exact rfl; exact hM; exact rfl; exact rfl; exact rfl; exact rfl; exact inferInstance; exact inferInstance; clear hM; intro ww hM; simp only [putT, List.set_cons_succ, List.set_cons_zero]) | (apply wl_sta; exact rfl; exact hM; exact rfl; exact rfl; exact rfl; exact all_oneCell_toArray One.out; exact inferInstance; exact inferInstance; exact inferInstance; clear hM; intro ww hM; simp only [putT, List.set_cons_succ, List.set_cons_zero]) | (apply wl_bs0; exact rfl; exact hM; exact rfl; exact inferInstance; clear hM; intro gg ww hM; simp only [putT, List.set_cons_succ, List.set_cons_zero]) | (apply wl_bs1a; exact rfl; exact hM; exact rfl; exact inferInstance; exact rfl; exact inferInstance; clear hM; intro gg ww hM; simp only [putT, List.set_cons_succ, List.set_cons_zero]) | (apply wl_bs11; exact rfl; exact hM; exact rfl; exact inferInstance; exact rfl; exact rfl; clear hM; intro gg ww hM; simp only [putT, List.set_cons_succ, List.set_cons_zero]) | (apply wl_conv; exact rfl; exact hM; exact rfl; exact rfl; exact inferInstance; exact inferInstance; simp only [putT, List.set_cons_succ, List.set_cons_zero])); refine wpListIn_end ?_))
        obtain ⟨w3, he, hM3⟩ := end_mem (P := Try.prog) hM 3 rfl
        have hM4 := hM3.tail.tail
        first
          | exact ⟨_, w3, he, rfl, hM4⟩
          | exact ⟨_, w3, he, .inr (.inr ⟨HGO, rfl, rfl, hM4⟩)⟩
      · have HMr := fun w' X hX => HME r D' c w' X hX
        rw [hmf] at HMr
        refine yield_round hM 2 rfl rfl ?_
        simp only [fold2', List.setIfInBounds_toArray, List.set_cons_succ, List.set_cons_zero]
        gi_wp2_with (first | (refine wpListIn_of1 (fun _ e => by cases e) ?_; ((with_reducible refine wl_shape ?_); first | (apply wl_boxa; exact rfl; exact hM; exact rfl; exact rfl; clear hM; intro gg ww hM; simp only [putT, List.set_cons_succ, List.set_cons_zero]) | (apply wl_box1; exact rfl; exact hM; exact rfl; exact rfl; exact rfl; clear hM; intro gg ww hM; simp only [putT, List.set_cons_succ, List.set_cons_zero]) | (apply wl_alloc; exact rfl; exact hM; exact rfl; exact inferInstance; clear hM; intro gg ww hM; simp only [putT, List.set_cons_succ, List.set_cons_zero]) | (apply wl_ld; exact rfl; exact hM; exact rfl; exact rfl; exact inferInstance; exact inferInstance; simp only [putT, List.set_cons_succ, List.set_cons_zero]) | (apply wl_lda; exact rfl; exact hM; exact rfl; exact rfl; exact inferInstance; exact inferInstance; exact inferInstance; exact inferInstance; simp only [putT, List.set_cons_succ, List.set_cons_zero]) | (apply wl_ldr; exact rfl; exact hM; exact rfl; exact rfl; exact inferInstance; exact inferInstance; exact inferInstance; exact inferInstance; simp only [putT, List.set_cons_succ, List.set_cons_zero]) | (apply wl_st; exact rfl; exact hM; exact rfl; exact rfl; exact rfl; exact rfl; exact inferInstance; exact inferInstance; clear hM; intro ww hM; simp only [putT, List.set_cons_succ, List.set_cons_zero]) | (apply wl_sta; exact rfl; exact hM; exact rfl; exact rfl; exact rfl; exact all_oneCell_toArray One.out; exact inferInstance; exact inferInstance; exact inferInstance; clear hM; intro ww hM; simp only [putT, List.set_cons_succ, List.set_cons_zero]) | (apply wl_bs0; exact rfl; exact hM; exact rfl; exact inferInstance; clear hM; intro gg ww hM; simp only [putT, List.set_cons_succ, List.set_cons_zero]) | (apply wl_bs1a; exact rfl; exact hM; exact rfl; exact inferInstance; exact rfl; exact inferInstance; clear hM; intro gg ww hM; simp only [putT, List.set_cons_succ, List.set_cons_zero]) | (apply wl_bs11; exact rfl; exact hM; exact rfl; exact inferInstance; exact rfl; exact rfl; clear hM; intro gg ww hM; simp only [putT, List.set_cons_succ, List.set_cons_zero]) | (apply wl_conv; exact rfl; exact hM; exact rfl; exact rfl; exact inferInstance; exact inferInstance; simp only [putT, List.set_cons_succ, List.set_cons_zero])); refine wpListIn_end ?_))
        obtain ⟨wb, hb, hM2⟩ := begin_mem (P := Try.prog) hM 3 rfl
        refine ⟨wb, hb, ?_⟩
        clear hM hb
        have hM := hM2
        clear hM2
        simp only [List.set_cons_succ, List.set_cons_zero] at hM
        gi_wp2_with (first | (refine wpListIn_of1 (fun _ e => by cases e) ?_; ((with_reducible refine wl_shape ?_); first | (apply wl_boxa; exact rfl; exact hM; exact rfl; exact rfl; clear hM; intro gg ww hM; simp only [putT, List.set_cons_succ, List.set_cons_zero]) | (apply wl_box1; exact rfl; exact hM; exact rfl; exact rfl; exact rfl; clear hM; intro gg ww hM; simp only [putT, List.set_cons_succ, List.set_cons_zero]) | (apply wl_alloc; exact rfl; exact hM; exact rfl; exact inferInstance; clear hM; intro gg ww hM; simp only [putT, List.set_cons_succ, List.set_cons_zero]) | (apply wl_ld; exact rfl; exact hM; exact rfl; exact rfl; exact inferInstance; exact inferInstance; simp only [putT, List.set_cons_succ, List.set_cons_zero]) | (apply wl_lda; exact rfl; exact hM; exact rfl; exact rfl; exact inferInstance; exact inferInstance; exact inferInstance; exact inferInstance; simp only [putT, List.set_cons_succ, List.set_cons_zero]) | (apply wl_ldr; exact rfl; exact hM; exact rfl; exact rfl; exact inferInstance; exact inferInstance; exact inferInstance; exact inferInstance; simp only [putT, List.set_cons_succ, List.set_cons_zero]) | (apply wl_st; exact rfl; exact hM; exact rfl; exact rfl; exact rfl; exact rfl; exact inferInstance; exact inferInstance; clear hM; intro ww hM; simp only [putT, List.set_cons_succ, List.set_cons_zero]) | (apply wl_sta; exact rfl; exact hM; exact rfl; exact rfl; exact rfl; exact all_oneCell_toArray One.out; exact inferInstance; exact inferInstance; exact inferInstance; clear hM; intro ww hM; simp only [putT, List.set_cons_succ, List.set_cons_zero]) | (apply wl_bs0; exact rfl; exact hM; exact rfl; exact inferInstance; clear hM; intro gg ww hM; simp only [putT, List.set_cons_succ, List.set_cons_zero]) | (apply wl_bs1a; exact rfl; exact hM; exact rfl; exact inferInstance; exact rfl; exact inferInstance; clear hM; intro gg ww hM; simp only [putT, List.set_cons_succ, List.set_cons_zero]) | (apply wl_bs11; exact rfl; exact hM; exact rfl; exact inferInstance; exact rfl; exact rfl; clear hM; intro gg ww hM; simp only [putT, List.set_cons_succ, List.set_cons_zero]) | (apply wl_conv; exact rfl; exact hM; exact rfl; exact rfl; exact inferInstance; exact inferInstance; simp only [putT, List.set_cons_succ, List.set_cons_zero])); refine wpListIn_end ?_) | (rw [hd1]) | (rw [hd2]))
        refine ⟨trivial, rfl, ?_⟩
        refine (CallsIn.inRound l (callsIn_wide.2 (HMr _ _ (hM.perm (List.perm_append_comm_assoc [_, _, _, _, _, _, _, _, _, _] LM L'))))).mono ?_
        rintro e1 w1 ⟨rfl, hg⟩
        replace hM := hM.call hg
        clear hg
        gi_wp2_with (first | (refine wpListIn_of1 (fun _ e => by cases e) ?_; ((with_reducible refine wl_shape ?_); first | (apply wl_boxa; exact rfl; exact hM; exact rfl; exact rfl; clear hM; intro gg ww hM; simp only [putT, List.set_cons_succ, List.set_cons_zero]) | (apply wl_box1; exact rfl; exact hM; exact rfl; exact rfl; exact rfl; clear hM; intro gg ww hM; simp only [putT, List.set_cons_succ, List.set_cons_zero]) | (apply wl_alloc; exact rfl; exact hM; exact rfl; exact inferInstance; clear hM; intro gg ww hM; simp only [putT, List.set_cons_succ, List.set_cons_zero]) | (apply wl_ld; exact rfl; exact hM; exact rfl; exact rfl; exact inferInstance; exact inferInstance; simp only [putT, List.set_cons_succ, List.set_cons_zero]) | (apply wl_lda; exact rfl; exact hM; exact rfl; exact rfl; exact inferInstance; exact inferInstance; exact inferInstance; exact inferInstance; simp only [putT, List.set_cons_succ, List.set_cons_zero]) | (apply wl_ldr; exact rfl; exact hM; exact rfl; exact rfl; exact inferInstance; exact inferInstance; exact inferInstance; exact inferInstance; simp only [putT, List.set_cons_succ, List.set_cons_zero]) | (apply wl_st; exact rfl; exact hM; exact rfl; exact rfl; exact rfl; exact rfl; exact inferInstance; exact inferInstance; clear hM; intro ww hM; simp only [putT, List.set_cons_succ, List.set_cons_zero]) | (apply wl_sta; exact rfl; exact hM; exact rfl; exact rfl; exact rfl; exact all_oneCell_toArray One.out; exact inferInstance; exact inferInstance; exact inferInstance; clear hM; intro ww hM; simp only [putT, List.set_cons_succ, List.set_cons_zero]) | (apply wl_bs0; exact rfl; exact hM; exact rfl; exact inferInstance; clear hM; intro gg ww hM; simp only [putT, List.set_cons_succ, List.set_cons_zero]) | (apply wl_bs1a; exact rfl; exact hM; exact rfl; exact inferInstance; exact rfl; exact inferInstance; clear hM; intro gg ww hM; simp only [putT, List.set_cons_succ, List.set_cons_zero]) | (apply wl_bs11; exact rfl; exact hM; exact rfl; exact inferInstance; exact rfl; exact rfl; clear hM; intro gg ww hM; simp only [putT, List.set_cons_succ, List.set_cons_zero]) | (apply wl_conv; exact rfl; exact hM; exact rfl; exact rfl; exact inferInstance; exact inferInstance; simp only [putT, List.set_cons_succ, List.set_cons_zero])); refine wpListIn_end ?_) | (refine wpListIn_of1 (fun _ e => by cases e) ?_; (apply wl_app; exact rfl; exact hM; exact rfl; exact inferInstance; exact rfl; exact rfl; exact inferInstance; exact One.out; exact inferInstance; (unfold maxLen; omega); omega; exact rfl; exact rfl; clear hM; intro A4 c4 ww hM; simp only [List.set_cons_succ, List.set_cons_zero] at hM; simp only [putT, List.set_cons_succ, List.set_cons_zero]); refine wpListIn_end ?_))
        obtain ⟨w3, he, hM3⟩ := end_mem (P := Try.prog) hM 4 rfl
        have hM4 := hM3.tail.tail
        first
          | exact ⟨_, w3, he, rfl, A4, c4, hM4⟩
          | exact ⟨_, w3, he, .inr (.inl ⟨HGO, rfl, rfl, A4, c4, hM4⟩)⟩
  · intro v A c out vs i W2 q hq hs hv hM2
    clear hM1 HIT HME eg hrs ha
    unfold readT at hM2
    simp only [List.cons_append] at hM2
    refine ⟨⟨v, rfl⟩, ?_⟩
    rcases hq with rfl | rfl
    · refine .inl ⟨_, hM2.perm (List.Perm.swap _ _ _), fun W3 hM3 => ?_⟩
      clear hM2
      have hM := hM3
      clear hM3 hz
      gi_wp2_with (first | (refine wpListIn_of1 (fun _ e => by cases e) ?_; ((with_reducible refine wl_shape ?_); first | (apply wl_boxa; exact rfl; exact hM; exact rfl; exact rfl; clear hM; intro gg ww hM; simp only [putT, List.set_cons_succ, List.set_cons_zero]) | (apply wl_box1; exact rfl; exact hM; exact rfl; exact rfl; exact rfl; clear hM; intro gg ww hM; simp only [putT, List.set_cons_succ, List.set_cons_zero]) | (apply wl_alloc; exact rfl; exact hM; exact rfl; exact inferInstance; clear hM; intro gg ww hM; simp only [putT, List.set_cons_succ, List.set_cons_zero]) | (apply wl_ld; exact rfl; exact hM; exact rfl; exact rfl; exact inferInstance; exact inferInstance; simp only [putT, List.set_cons_succ, List.set_cons_zero]) | (apply wl_lda; exact rfl; exact hM; exact rfl; exact rfl; exact inferInstance; exact inferInstance; exact inferInstance; exact inferInstance; simp only [putT, List.set_cons_succ, List.set_cons_zero]) | (apply wl_ldr; exact rfl; exact hM; exact rfl; exact rfl; exact inferInstance; exact inferInstance; exact inferInstance; exact inferInstance; simp only [putT, List.set_cons_succ, List.set_cons_zero]) | (apply wl_st; exact rfl; exact hM; exact rfl; exact rfl; exact rfl; exact rfl; exact inferInstance; exact inferInstance; clear hM; intro ww hM; simp only [putT, List.set_cons_succ, List.set_cons_zero]) | (apply wl_sta; exact rfl; exact hM; exact rfl; exact rfl; exact rfl; exact all_oneCell_toArray One.out; exact inferInstance; exact inferInstance; exact inferInstance; clear hM; intro ww hM; simp only [putT, List.set_cons_succ, List.set_cons_zero]) | (apply wl_bs0; exact rfl; exact hM; exact rfl; exact inferInstance; clear hM; intro gg ww hM; simp only [putT, List.set_cons_succ, List.set_cons_zero]) | (apply wl_bs1a; exact rfl; exact hM; exact rfl; exact inferInstance; exact rfl; exact inferInstance; clear hM; intro gg ww hM; simp only [putT, List.set_cons_succ, List.set_cons_zero]) | (apply wl_bs11; exact rfl; exact hM; exact rfl; exact inferInstance; exact rfl; exact rfl; clear hM; intro gg ww hM; simp only [putT, List.set_cons_succ, List.set_cons_zero]) | (apply wl_conv; exact rfl; exact hM; exact rfl; exact rfl; exact inferInstance; exact inferInstance; simp only [putT, List.set_cons_succ, List.set_cons_zero])); refine wpListIn_end ?_))
      refine wpIn_wide.2 ?_
      refine wp_region_mem [] [] [] hM (by kernel_rfl) (by kernel_rfl) (by kernel_rfl) (by kernel_rfl) ?_; simp only [initS, Act.put, List.setIfInBounds_toArray, List.set_cons_succ, List.set_cons_zero, List.map_cons, List.map_nil]
      repeat (first | (apply gl_move; (first | exact .inl rfl | exact .inr rfl); exact rfl; exact rfl; simp only [setD, List.set_cons_succ, List.set_cons_zero]) | (apply gl_ld; exact rfl; exact rfl; exact rfl; exact inferInstance; exact inferInstance; simp only [setD, List.set_cons_succ, List.set_cons_zero]) | (apply gl_lda; exact rfl; exact rfl; exact rfl; exact inferInstance; exact inferInstance; exact inferInstance; exact inferInstance; simp only [setD, List.set_cons_succ, List.set_cons_zero]) | (apply gl_ldr; exact rfl; exact rfl; exact rfl; exact inferInstance; exact inferInstance; exact inferInstance; exact inferInstance; simp only [setD, List.set_cons_succ, List.set_cons_zero]) | (apply gl_cmp true; exact rfl; exact rfl; exact rfl; exact rfl; (simp only [cmpB, Option.some.injEq, decide_eq_true_eq, ne_eq]; omega); simp only [setD, List.set_cons_succ, List.set_cons_zero]) | (apply gl_cmp false; exact rfl; exact rfl; exact rfl; exact rfl; (simp only [cmpB, Option.some.injEq, decide_eq_false_iff_not, ne_eq]; omega); simp only [setD, List.set_cons_succ, List.set_cons_zero]) | (apply gl_pick; exact rfl; exact rfl; exact rfl; exact rfl; exact rfl; simp only [setD, List.set_cons_succ, List.set_cons_zero, cond_true, cond_false]) | (apply gl_conv; exact rfl; exact rfl; exact rfl; exact inferInstance; exact inferInstance; simp only [setD, List.set_cons_succ, List.set_cons_zero]) | (apply gl_skip; exact rfl; simp only [setD, List.set_cons_succ, List.set_cons_zero]) | (apply gl_pure; exact rfl; intro K hK; go_simp; refine hK _ ?_; clear hK K; simp only [setD, List.set_cons_succ, List.set_cons_zero]))
      refine gw_nil ?_; intro γ w4 hC' hk'; simp only [slAct, slVals, Slot.get]
      replace hM := hC'.1
      clear hC' hk'
      gi_wp2
      refine leave_marked rfl (hM.perm (List.Perm.swap _ _ _)) (fun w' => results_tmp2 rfl _ _ _) (fun w' hM' => ⟨A, c, out, vs, i, rfl, hv, hs, ?_⟩)
      exact perm_read2 _ _ _ _ _ _ _ _ _ _ _ hM'
    · rw [hz] at hM2
      refine .inr ⟨_, _, hM2.perm (List.Perm.swap _ _ _), fun W3 hM3 => ?_⟩
      clear hM2
      have hM := hM3
      clear hM3 hz
      gi_wp2_with (first | (refine wpListIn_of1 (fun _ e => by cases e) ?_; ((with_reducible refine wl_shape ?_); first | (apply wl_boxa; exact rfl; exact hM; exact rfl; exact rfl; clear hM; intro gg ww hM; simp only [putT, List.set_cons_succ, List.set_cons_zero]) | (apply wl_box1; exact rfl; exact hM; exact rfl; exact rfl; exact rfl; clear hM; intro gg ww hM; simp only [putT, List.set_cons_succ, List.set_cons_zero]) | (apply wl_alloc; exact rfl; exact hM; exact rfl; exact inferInstance; clear hM; intro gg ww hM; simp only [putT, List.set_cons_succ, List.set_cons_zero]) | (apply wl_ld; exact rfl; exact hM; exact rfl; exact rfl; exact inferInstance; exact inferInstance; simp only [putT, List.set_cons_succ, List.set_cons_zero]) | (apply wl_lda; exact rfl; exact hM; exact rfl; exact rfl; exact inferInstance; exact inferInstance; exact inferInstance; exact inferInstance; simp only [putT, List.set_cons_succ, List.set_cons_zero]) | (apply wl_ldr; exact rfl; exact hM; exact rfl; exact rfl; exact inferInstance; exact inferInstance; exact inferInstance; exact inferInstance; simp only [putT, List.set_cons_succ, List.set_cons_zero]) | (apply wl_st; exact rfl; exact hM; exact rfl; exact rfl; exact rfl; exact rfl; exact inferInstance; exact inferInstance; clear hM; intro ww hM; simp only [putT, List.set_cons_succ, List.set_cons_zero]) | (apply wl_sta; exact rfl; exact hM; exact rfl; exact rfl; exact rfl; exact all_oneCell_toArray One.out; exact inferInstance; exact inferInstance; exact inferInstance; clear hM; intro ww hM; simp only [putT, List.set_cons_succ, List.set_cons_zero]) | (apply wl_bs0; exact rfl; exact hM; exact rfl; exact inferInstance; clear hM; intro gg ww hM; simp only [putT, List.set_cons_succ, List.set_cons_zero]) | (apply wl_bs1a; exact rfl; exact hM; exact rfl; exact inferInstance; exact rfl; exact inferInstance; clear hM; intro gg ww hM; simp only [putT, List.set_cons_succ, List.set_cons_zero]) | (apply wl_bs11; exact rfl; exact hM; exact rfl; exact inferInstance; exact rfl; exact rfl; clear hM; intro gg ww hM; simp only [putT, List.set_cons_succ, List.set_cons_zero]) | (apply wl_conv; exact rfl; exact hM; exact rfl; exact rfl; exact inferInstance; exact inferInstance; simp only [putT, List.set_cons_succ, List.set_cons_zero])); refine wpListIn_end ?_))
      refine wpIn_wide.2 ?_
      refine wp_region_mem [] [] [] hM (by kernel_rfl) (by kernel_rfl) (by kernel_rfl) (by kernel_rfl) ?_; simp only [initS, Act.put, List.setIfInBounds_toArray, List.set_cons_succ, List.set_cons_zero, List.map_cons, List.map_nil]
      repeat (first | (apply gl_move; (first | exact .inl rfl | exact .inr rfl); exact rfl; exact rfl; simp only [setD, List.set_cons_succ, List.set_cons_zero]) | (apply gl_ld; exact rfl; exact rfl; exact rfl; exact inferInstance; exact inferInstance; simp only [setD, List.set_cons_succ, List.set_cons_zero]) | (apply gl_lda; exact rfl; exact rfl; exact rfl; exact inferInstance; exact inferInstance; exact inferInstance; exact inferInstance; simp only [setD, List.set_cons_succ, List.set_cons_zero]) | (apply gl_ldr; exact rfl; exact rfl; exact rfl; exact inferInstance; exact inferInstance; exact inferInstance; exact inferInstance; simp only [setD, List.set_cons_succ, List.set_cons_zero]) | (apply gl_cmp true; exact rfl; exact rfl; exact rfl; exact rfl; (simp only [cmpB, Option.some.injEq, decide_eq_true_eq, ne_eq]; omega); simp only [setD, List.set_cons_succ, List.set_cons_zero]) | (apply gl_cmp false; exact rfl; exact rfl; exact rfl; exact rfl; (simp only [cmpB, Option.some.injEq, decide_eq_false_iff_not, ne_eq]; omega); simp only [setD, List.set_cons_succ, List.set_cons_zero]) | (apply gl_pick; exact rfl; exact rfl; exact rfl; exact rfl; exact rfl; simp only [setD, List.set_cons_succ, List.set_cons_zero, cond_true, cond_false]) | (apply gl_conv; exact rfl; exact rfl; exact rfl; exact inferInstance; exact inferInstance; simp only [setD, List.set_cons_succ, List.set_cons_zero]) | (apply gl_skip; exact rfl; simp only [setD, List.set_cons_succ, List.set_cons_zero]) | (apply gl_pure; exact rfl; intro K hK; go_simp; refine hK _ ?_; clear hK K; simp only [setD, List.set_cons_succ, List.set_cons_zero]))
      refine gw_nil ?_; intro γ w4 hC' hk'; simp only [slAct, slVals, Slot.get]
      replace hM := hC'.1
      clear hC' hk'
      gi_wp2
      refine leave_marked rfl (hM.perm (List.Perm.swap _ _ _)) (fun w' => results_tmp2 rfl _ _ _) (fun w' hM' => ⟨A, c, out, vs, i, rfl, hv, hs, ?_⟩)
      exact perm_read2 _ _ _ _ _ _ _ _ _ _ _ hM'
end
end Go.Proofs.Ytechglhkcjgodaa
