/- plog: a log as an object of its own. -/
import Derived.Test.YtechglhkcjgodaaPlog7
namespace Go.Proofs.Ytechglhkcjgodaa
open Go.RowKit Go.MapKept
set_option linter.unusedSimpArgs false

theorem Mem.perm {w0 w : World} {own : Nat → Prop} {L L' : List Item} (h : Mem w0 own w L) (hp : L.Perm L') : Mem w0 own w L' :=
  ⟨h.grow, fun x hx => h.has x (hp.mem_iff.2 hx), (hp.pairwise_iff (fun hab g hb ha => hab g ha hb)).1 h.apart, fun x hx => h.mine x (hp.mem_iff.2 hx)⟩
/-- The blocks of what is at hand. -/
def blocks (L : List Item) (i : Nat) : Prop := ∃ x ∈ L, x.foot i
theorem Mem.self {w0 w : World} {own : Nat → Prop} {L : List Item} (h : Mem w0 own w L) : Mem w (blocks L) w L :=
  ⟨Grow.refl _ _, h.has, h.apart, fun x hx _ e => .inl ⟨x, hx, e⟩⟩
theorem Mem.blocks_old {w0 w : World} {own : Nat → Prop} {L : List Item} (h : Mem w0 own w L) {i : Nat} (hi : blocks L i) : own i ∨ w0.heap.size ≤ i := by
  obtain ⟨x, hx, e⟩ := hi
  exact h.mine x hx i e
theorem Mem.blocks_lt {w0 w : World} {own : Nat → Prop} {L : List Item} (h : Mem w0 own w L) {i : Nat} (hi : blocks L i) : i < w.heap.size := by
  obtain ⟨x, hx, e⟩ := hi
  exact Item.at_lt (h.has x hx) i e

def logItems (g gm : Nat) (A B : Option Addr) (ca cb : Nat) (m : PL) (vs : List Value) : List Item :=
  [.row (.slice A m.recs.length ca) 42 5 m.recs.length (recCells m.recs vs), .row (.slice B m.spans.length cb) 39 5 m.spans.length (spnCells m.spans),
   .blk g 82 #[.slice A m.recs.length ca, .slice B m.spans.length cb, .map (some gm)], .obj gm (IsMap (epf m))]
/-- A log, in blocks S of its own; its values' bytes lie in blocks V. -/
structure LogHas (w : World) (g gm : Nat) (A B : Option Addr) (ca cb : Nat) (m : PL) (vs : List Value) (S V : Nat → Prop) : Prop where
  vl : vs.length = m.recs.length
  mem : Mem w S w (logItems g gm A B ca cb m vs)
  low : ∀ i, S i ∨ V i → i < w.heap.size
  apart : ∀ i, V i → ¬ S i
  vals : ∀ i (h : i < m.recs.length), ∃ D n c, vs[i]'(by omega) = .slice D n c ∧ n ≤ c ∧ Bytes w w.heap.size D n m.recs[i].v ∧ ∀ ad, D = some ad → V ad.block
def LogAt (w : World) (g : Nat) (m : PL) (S V : Nat → Prop) : Prop := ∃ gm A B ca cb vs, LogHas w g gm A B ca cb m vs S V
section
variable {w w' : World} {g gm : Nat} {A B : Option Addr} {ca cb : Nat} {m : PL} {vs : List Value} {S V : Nat → Prop}
theorem LogHas.read (h : LogHas w g gm A B ca cb m vs S V) : LogR w g gm A B ca cb m vs :=
  ⟨⟨h.vl, Reads.of_own (h.mem.row 0 rfl), Reads.of_own (h.mem.row 1 rfl), fun i hi => by
    obtain ⟨D, n, c, e, hc, hb, _⟩ := h.vals i hi
    exact ⟨D, n, c, e, hc, hb⟩⟩, h.mem.blk 2 rfl, h.mem.at_ 3 rfl⟩
theorem Bytes.stay {B B' n : Nat} {D : Option Addr} {l : List (BitVec 8)} (h : Bytes w B D n l) (hB : B ≤ B') (hk : ∀ ad, D = some ad → w'.heap[ad.block]? = w.heap[ad.block]?) : Bytes w' B' D n l :=
  ⟨h.1, fun hn => by
    obtain ⟨ad, e, hb, hc⟩ := h.2 hn
    exact ⟨ad, e, by omega, fun j u hu => (World.cell?_of_block (by rw [block_of_add]; exact hk ad e)).trans (hc j u hu)⟩⟩
theorem LogHas.keep (h : LogHas w g gm A B ca cb m vs S V) (hs : w.heap.size ≤ w'.heap.size) (hk : ∀ i, S i ∨ V i → w'.heap[i]? = w.heap[i]?) : LogHas w' g gm A B ca cb m vs S V :=
  ⟨h.vl, ⟨Grow.refl _ _, fun x hx => Item.keep (h.mem.has x hx) (fun i e => hk i (.inl ((h.mem.mine x hx i e).resolve_right (by have := Item.at_lt (h.mem.has x hx) i e; omega)))), h.mem.apart, fun x hx i e => .inl ((h.mem.mine x hx i e).resolve_right (by have := Item.at_lt (h.mem.has x hx) i e; omega))⟩,
   fun i hi => by have := h.low i hi; omega, h.apart, fun i hi => by
    obtain ⟨D, n, c, e, hc, hb, hv⟩ := h.vals i hi
    exact ⟨D, n, c, e, hc, hb.stay hs (fun ad e2 => hk _ (.inr (hv ad e2))), hv⟩⟩
theorem LogAt.keep (h : LogAt w g m S V) (hs : w.heap.size ≤ w'.heap.size) (hk : ∀ i, S i ∨ V i → w'.heap[i]? = w.heap[i]?) : LogAt w' g m S V := by
  obtain ⟨gm, A, B, ca, cb, vs, h⟩ := h
  exact ⟨gm, A, B, ca, cb, vs, h.keep hs hk⟩
theorem LogAt.low (h : LogAt w g m S V) : ∀ i, S i ∨ V i → i < w.heap.size := by
  obtain ⟨gm, A, B, ca, cb, vs, h⟩ := h
  exact h.low
theorem LogAt.grow {own : Nat → Prop} (h : LogAt w g m S V) (hg : Grow w own w') (ho : ∀ i, S i ∨ V i → ¬ own i) : LogAt w' g m S V :=
  h.keep hg.size fun i hi => hg.block i (h.low i hi) (ho i hi)
/-- What a step that may write S leaves. -/
theorem LogHas.after (h : LogHas w g gm A B ca cb m vs S V) {m' : PL} {A' B' : Option Addr} {ca' cb' : Nat} {vs' : List Value} {V' : Nat → Prop} (hM : Mem w S w' (logItems g gm A' B' ca' cb' m' vs')) (hl : vs'.length = m'.recs.length)
    (hV : ∀ i, V' i → V i ∨ (w.heap.size ≤ i ∧ i < w'.heap.size ∧ ¬ blocks (logItems g gm A' B' ca' cb' m' vs') i))
    (hv : ∀ i (hi : i < m'.recs.length), ∃ D n c, vs'[i]'(by omega) = .slice D n c ∧ n ≤ c ∧ Bytes w' w'.heap.size D n m'.recs[i].v ∧ ∀ ad, D = some ad → V' ad.block) :
    ∃ S' V', LogAt w' g m' S' V' ∧ Grow w S w' ∧ (∀ i, S' i → S i ∨ w.heap.size ≤ i) ∧ ∀ i, V' i → V i ∨ w.heap.size ≤ i :=
  ⟨blocks (logItems g gm A' B' ca' cb' m' vs'), V', ⟨gm, A', B', ca', cb', vs', hl, hM.self, fun i hi => by
      rcases hi with hi | hi
      · exact hM.blocks_lt hi
      · rcases hV i hi with h1 | ⟨_, h2, _⟩
        · have := h.low i (.inr h1); have := hM.grow.size; omega
        · exact h2, fun i hi hb => by
      rcases hV i hi with h1 | ⟨_, _, h2⟩
      · rcases hM.blocks_old hb with h3 | h3
        · exact h.apart i h1 h3
        · have := h.low i (.inr h1); omega
      · exact h2 hb, hv⟩, hM.grow, fun i hi => hM.blocks_old hi, fun i hi => by
      rcases hV i hi with h1 | ⟨h1, _⟩
      · exact .inl h1
      · exact .inr h1⟩
end

theorem epf_empty : epf PL.empty = fun _ => none := by
  funext p
  unfold epf PL.ep PL.empty
  rw [if_neg]
  rintro ⟨_, h⟩
  have h2 : (List.replicate 8 (-1 : Int)).getD p.toNat (-1) = -1 := by
    rw [List.getD_eq_getElem?_getD, List.getElem?_replicate]
    split <;> rfl
  have h3 : 0 ≤ (List.replicate 8 (-1 : Int)).getD p.toNat (-1) := h
  omega
theorem New_any (w : World) : Calls Try.prog 26 #[] w fun e w' => ∃ g S V, e = .returned (.pointer (some ⟨g, 0, none⟩)) ∧ LogAt w' g PL.empty S V ∧ Grow w noOwn w' ∧ (∀ i, S i → w.heap.size ≤ i) ∧ ∀ i, V i → w.heap.size ≤ i := by
  have hM := Mem.nil w noOwn
  go_enter Try.func26, Try.ntmps26
  go_wp2_with (first
    | (refine wpList_makeMap_mem rfl 80 rfl hM ?_; clear hM; intro gm w1 hM)
    | (refine wpList_box_mem hM rfl 82 _ rfl (.agg #[.slice none 0 0, .slice none 0 0, .map (some gm)]) rfl _ rfl ?_; clear hM; intro g w2 hM))
  go_ret
  have hM2 := (hM.pushNil 39 5).pushNil 42 5
  have hM3 : Mem w noOwn w2 (logItems g gm none none 0 0 PL.empty []) := by
    unfold logItems
    rw [epf_empty]
    exact hM2
  refine ⟨g, blocks (logItems g gm none none 0 0 PL.empty []), noOwn, rfl, ⟨gm, none, none, 0, 0, [], rfl, hM3.self, fun i hi => ?_, fun i hi => hi.elim, fun i hi => by simp [PL.empty] at hi⟩, hM.grow, fun i hi => (hM3.blocks_old hi).resolve_left (fun e => e), fun i hi => hi.elim⟩
  exact hM3.blocks_lt (hi.resolve_right (fun e => e))

theorem Len_any (w : World) (g gm : Nat) (A B : Option Addr) (ca cb : Nat) (m : PL) (vs : List Value) (h : LogR w g gm A B ca cb m vs) :
    Calls Try.prog 30 #[.pointer (some ⟨g, 0, none⟩)] w fun x w' => x = .returned (.int .i64 m.recs.length) ∧ w = w' := by
  have c0 := h.blk.cell 0
  go_enter Try.func30, Try.ntmps30
  go_wp2
  go_ret
  exact ⟨rfl, rfl⟩
theorem Spans_any (w : World) (g gm : Nat) (A B : Option Addr) (ca cb : Nat) (m : PL) (vs : List Value) (h : LogR w g gm A B ca cb m vs) (hs : m.spans.length ≤ 2000000000000) :
    Calls Try.prog 18 #[.pointer (some ⟨g, 0, none⟩)] w fun x w' => (∃ A' c', x = .returned (.slice A' m.spans.length c') ∧ m.spans.length ≤ c' ∧ Reads w' w'.heap.size 5 A' m.spans.length (spnCells m.spans)) ∧ Grow w noOwn w' := by
  have c0 := h.blk.cell 1
  go_enter Try.func18, Try.ntmps18
  go_wp2_with (go_at_call 41; refine (CloneS_any w _ cb B _ (spnCells_length _) h.spans (oneCells_spn _) hs).mono ?_; rintro e w1 ⟨⟨A1, c1, rfl, hc, hr⟩, hg⟩)
  go_ret
  exact ⟨⟨A1, c1, rfl, hc, hr⟩, hg⟩
end Go.Proofs.Ytechglhkcjgodaa
