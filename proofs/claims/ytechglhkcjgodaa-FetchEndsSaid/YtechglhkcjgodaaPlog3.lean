/- plog: what a log is in memory; the closures; where a record stands. -/
import Derived.Test.YtechglhkcjgodaaPlog2
namespace Go.Proofs.Ytechglhkcjgodaa
open Go.RowKit
set_option linter.unusedSimpArgs false

/-- The records and transactions of a log, as they lie. -/
structure Rows (w : World) (A B : Option Addr) (m : PL) (vs : List Value) : Prop where
  vl : vs.length = m.recs.length
  recs : Reads w w.heap.size 5 A m.recs.length (recCells m.recs vs)
  spans : Reads w w.heap.size 5 B m.spans.length (spnCells m.spans)
  vals : ∀ i (h : i < m.recs.length), ValOf w (vs[i]'(by omega)) m.recs[i].v
theorem ValOf.grow {w w' : World} {v : Value} {l : List (BitVec 8)} (h : ValOf w v l) (hg : Grow w noOwn w') : ValOf w' v l := by
  obtain ⟨A, n, c, e, hc, hb⟩ := h
  exact ⟨A, n, c, e, hc, Reads.more (Reads.grow hb hg (Nat.le_refl _)) hg.size⟩
theorem Rows.grow {w w' : World} {A B : Option Addr} {m : PL} {vs : List Value} (h : Rows w A B m vs) (hg : Grow w noOwn w') : Rows w' A B m vs :=
  ⟨h.vl, (h.recs.grow hg (Nat.le_refl _)).more hg.size, (h.spans.grow hg (Nat.le_refl _)).more hg.size, fun i hi => (h.vals i hi).grow hg⟩
/-- The epochs, as the map has them. -/
def epf (m : PL) (p : Int) : Option Value := if 0 ≤ p ∧ 0 ≤ m.ep p then some (.int .i64 (m.ep p)) else none
structure LogR (w : World) (g gm : Nat) (A B : Option Addr) (ca cb : Nat) (m : PL) (vs : List Value) : Prop extends Rows w A B m vs where
  blk : Blk w g 82 #[.slice A m.recs.length ca, .slice B m.spans.length cb, .map (some gm)]
  map : ∃ o, w.heap[gm]? = some o ∧ IsMap (epf m) o
theorem LogR.grow {w w' : World} {g gm : Nat} {A B : Option Addr} {ca cb : Nat} {m : PL} {vs : List Value} (h : LogR w g gm A B ca cb m vs) (hg : Grow w noOwn w') : LogR w' g gm A B ca cb m vs :=
  ⟨h.toRows.grow hg, hg.blk h.blk (fun e => e), by
    obtain ⟨o, ho, hf⟩ := h.map
    exact ⟨o, (hg.block gm (Array.getElem?_eq_some_iff.1 ho).1 (fun e => e)).trans ho, hf⟩⟩

set_option maxRecDepth 100000 in
set_option maxHeartbeats 600000 in
theorem span1_any (w : World) (s : Spn) (p e t : Int) (b1 b2 b3 : Nat) (h1 : w.cell? ⟨b1, 0, none⟩ = some (.int .i64 p)) (h2 : w.cell? ⟨b2, 0, none⟩ = some (.int .i64 e)) (h3 : w.cell? ⟨b3, 0, none⟩ = some (.int .i64 t)) (l1 : b1 < w.heap.size) (l2 : b2 < w.heap.size) (l3 : b3 < w.heap.size) :
    Calls Try.prog 62 (#[.agg (spnVals s).toArray] ++ #[.pointer (some ⟨b1, 0, none⟩), .pointer (some ⟨b2, 0, none⟩), .pointer (some ⟨b3, 0, none⟩)]) w fun x w' => x = .returned (.bool (decide (s.p = p) && decide (s.e = e) && decide (s.t = t))) ∧ Grow w noOwn w' := by
  have hM := Mem.nil w noOwn
  obtain ⟨sp, se, st, sf, sk⟩ := s
  rcases (if e1 : sp = p then if e2 : se = e then .inr (.inr ⟨e1, e2⟩) else .inr (.inl ⟨e1, e2⟩) else .inl e1 : ¬ sp = p ∨ (sp = p ∧ ¬ se = e) ∨ sp = p ∧ se = e) with e1 | ⟨e1, e2⟩ | ⟨e1, e2⟩
  all_goals
    simp only [e1, decide_true, decide_false, Bool.false_and, Bool.true_and]
    try simp only [e2, Bool.true_and, decide_true, decide_false, Bool.and_true, Bool.and_false, Bool.false_and]
    simp only [spnVals]
    go_enter Try.func62, Try.ntmps62
    go_wp2_with (first
      | (refine wpList_box_mem hM rfl 39 _ rfl (.agg #[.int .i64 _, .int .i64 _, .int .i64 _, .int .i64 sf, .int .i64 sk]) rfl _ rfl ?_; clear hM; intro g1 w1 hM; have c0 := hM.cell 0 rfl 0; have c1 := hM.cell 0 rfl 1; have c2 := hM.cell 0 rfl 2; have k1 := (hM.grow.keep (p := ⟨b1, 0, none⟩) l1 (fun e => e)).trans h1; have k2 := (hM.grow.keep (p := ⟨b2, 0, none⟩) l2 (fun e => e)).trans h2; have k3 := (hM.grow.keep (p := ⟨b3, 0, none⟩) l3 (fun e => e)).trans h3))
    go_ret
    first | exact ⟨congrArg (fun b => Ending.returned (.bool b)) (beq_eq_decide ..), hM.grow⟩ | exact ⟨rfl, hM.grow⟩
/-- The kinds of a record. -/
theorem recbox (r : Rec) (v : Value) : (Value.agg (recVals r v).toArray) = .agg #[.int .i64 r.p, .int .i64 r.e, .int .i64 r.t, .int .i64 r.s, v] := rfl
set_option maxRecDepth 100000 in
set_option maxHeartbeats 600000 in
theorem again1_any (w : World) (x r : Rec) (n c : Nat) (A : Option Addr) (u : Value) (b : Nat) (hb : Blk w b 42 (recVals r u).toArray) :
    Calls Try.prog 57 (#[.agg (recVals x (.slice A n c)).toArray] ++ #[.pointer (some ⟨b, 0, none⟩)]) w fun y w' => y = .returned (.bool (decide (x.p = r.p) && decide (x.e = r.e) && decide (x.s = r.s))) ∧ Grow w noOwn w' := by
  have hM := Mem.nil w noOwn
  obtain ⟨sp, se, st, ss, sv⟩ := x
  obtain ⟨p, e, t, q, rv⟩ := r
  have l1 := hb.lt
  have h0 : w.cell? ⟨b, 0, none⟩ = some (.int .i64 p) := hb.cell 0
  have h1 : w.cell? ⟨b, 1, none⟩ = some (.int .i64 e) := hb.cell 1
  have h3 : w.cell? ⟨b, 3, none⟩ = some (.int .i64 q) := hb.cell 3
  rcases (if e1 : sp = p then if e2 : se = e then .inr (.inr ⟨e1, e2⟩) else .inr (.inl ⟨e1, e2⟩) else .inl e1 : ¬ sp = p ∨ (sp = p ∧ ¬ se = e) ∨ sp = p ∧ se = e) with e1 | ⟨e1, e2⟩ | ⟨e1, e2⟩
  all_goals
    simp only [e1, decide_true, decide_false, Bool.false_and, Bool.true_and]
    try simp only [e2, Bool.true_and, decide_true, decide_false, Bool.and_true, Bool.and_false, Bool.false_and]
    simp only [recVals]
    go_enter Try.func57, Try.ntmps57
    go_wp2_with (first
      | (refine wpList_box_mem hM rfl 42 _ rfl (.agg #[.int .i64 _, .int .i64 _, .int .i64 _, .int .i64 _, .slice A n c]) rfl _ rfl ?_; clear hM; intro g1 w1 hM; have c0 := hM.cell 0 rfl 0; have c1 := hM.cell 0 rfl 1; have c3 := hM.cell 0 rfl 3; have k0 := (hM.grow.keep (p := ⟨b, 0, none⟩) l1 (fun e => e)).trans h0; have k1 := (hM.grow.keep (p := ⟨b, 1, none⟩) l1 (fun e => e)).trans h1; have k3 := (hM.grow.keep (p := ⟨b, 3, none⟩) l1 (fun e => e)).trans h3))
    go_ret
    first | exact ⟨congrArg (fun b => Ending.returned (.bool b)) (beq_eq_decide ..), hM.grow⟩ | exact ⟨rfl, hM.grow⟩
set_option maxRecDepth 100000 in
set_option maxHeartbeats 600000 in
theorem fits1_any (w : World) (s : Spn) (r : Rec) (u : Value) (b : Nat) (hb : Blk w b 42 (recVals r u).toArray) :
    Calls Try.prog 59 (#[.agg (spnVals s).toArray] ++ #[.pointer (some ⟨b, 0, none⟩)]) w fun y w' => y = .returned (.bool (decide (s.p = r.p) && decide (s.e = r.e) && (decide (s.t = r.t) == decide (s.k ≠ 0)))) ∧ Grow w noOwn w' := by
  have hM := Mem.nil w noOwn
  have tok : True := trivial
  obtain ⟨sp, se, st, sf, sk⟩ := s
  obtain ⟨p, e, t, q, rv⟩ := r
  have l1 := hb.lt
  have h0 : w.cell? ⟨b, 0, none⟩ = some (.int .i64 p) := hb.cell 0
  have h1 : w.cell? ⟨b, 1, none⟩ = some (.int .i64 e) := hb.cell 1
  have h2 : w.cell? ⟨b, 2, none⟩ = some (.int .i64 t) := hb.cell 2
  rcases (if e1 : sp = p then if e2 : se = e then .inr (.inr ⟨e1, e2⟩) else .inr (.inl ⟨e1, e2⟩) else .inl e1 : ¬ sp = p ∨ (sp = p ∧ ¬ se = e) ∨ sp = p ∧ se = e) with e1 | ⟨e1, e2⟩ | ⟨e1, e2⟩
  all_goals
    simp only [e1, decide_true, decide_false, Bool.false_and, Bool.true_and]
    try simp only [e2, decide_true, decide_false, Bool.and_true, Bool.and_false, Bool.false_and, Bool.true_and]
    obtain ⟨ans, hans⟩ : ∃ b : Bool, Hid ((decide (st = t) == decide (sk ≠ 0)) = b) := ⟨_, hide rfl⟩
    try rw [unhide hans]
    simp only [spnVals]
    go_enter Try.func59, Try.ntmps59
    go_wp2_with (first
      | (have _t := tok; refine wpList_box_mem hM rfl 39 _ rfl (.agg #[.int .i64 _, .int .i64 _, .int .i64 _, .int .i64 sf, .int .i64 _]) rfl _ rfl ?_; clear tok hM; intro g1 w1 hM; have c0 := hM.cell 0 rfl 0; have c1 := hM.cell 0 rfl 1; have c2 := hM.cell 0 rfl 2; have c4 := hM.cell 0 rfl 4; have k0 := (hM.grow.keep (p := ⟨b, 0, none⟩) l1 (fun e => e)).trans h0; have k1 := (hM.grow.keep (p := ⟨b, 1, none⟩) l1 (fun e => e)).trans h1; have k2 := (hM.grow.keep (p := ⟨b, 2, none⟩) l1 (fun e => e)).trans h2))
    go_ret
    first | exact ⟨rfl, hM.grow⟩ | exact ⟨congrArg (fun b => Ending.returned (.bool b)) ((show ((st == t) == (sk != 0)) = (decide (st = t) == decide (sk ≠ 0)) from by rw [show (st == t) = decide (st = t) from rfl, show (sk != 0) = decide (sk ≠ 0) from by cases h : sk == 0 <;> simp_all [bne]]).trans (unhide hans)), hM.grow⟩
end Go.Proofs.Ytechglhkcjgodaa
