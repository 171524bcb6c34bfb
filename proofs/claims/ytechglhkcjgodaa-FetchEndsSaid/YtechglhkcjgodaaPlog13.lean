/- plog: Append that lays nothing. -/
import Derived.Test.YtechglhkcjgodaaPlog12
namespace Go.Proofs.Ytechglhkcjgodaa
open Go.RowKit Go.MapKept
set_option linter.unusedSimpArgs false

theorem Mem.join {w w' : World} {S : Nat → Prop} {L L' : List Item} (hM : Mem w S w L) (hB : Mem w noOwn w' L') : Mem w S w' (L' ++ L) := by
  have hk : ∀ x ∈ L, ∀ g, x.foot g → w'.heap[g]? = w.heap[g]? := fun x hx g e => hB.grow.block g (Item.at_lt (hM.has x hx) g e) (fun e => e)
  refine ⟨hB.grow.any S, fun x hx => ?_, List.pairwise_append.2 ⟨hB.apart, hM.apart, fun x hx y hy g e e2 => ?_⟩, fun x hx g e => ?_⟩
  · rcases List.mem_append.1 hx with hx | hx
    · exact hB.has x hx
    · exact Item.keep (hM.has x hx) (hk x hx)
  · have h1 := (hB.mine x hx g e).resolve_left (fun e => e)
    have h2 := Item.at_lt (hM.has y hy) g e2
    omega
  · rcases List.mem_append.1 hx with hx | hx
    · exact .inr ((hB.mine x hx g e).resolve_left (fun e => e))
    · exact hM.mine x hx g e

def sameRec (r : Rec) (x : Rec) : Bool := decide (x.p = r.p) && decide (x.e = r.e) && decide (x.s = r.s)
theorem append_new (m : PL) (r : Rec) (h1 : PL.isRec r = true) (h2 : 0 ≤ m.ep r.p) (h3 : r.e = m.ep r.p) (h4 : m.recs.findIdx? (sameRec r) = none) :
    m.append r = if m.fits r = 0 then ({ m with recs := m.recs ++ [r], spans := if m.spanAt r.p r.e r.t < 0 then m.spans ++ [⟨r.p, r.e, r.t, m.recs.length, 0⟩] else m.spans }, (m.recs.length : Int), 0) else (m, 0, m.fits r) := by
  unfold PL.append
  have h4' : m.recs.findIdx? (fun x => decide (x.p = r.p) && decide (x.e = r.e) && decide (x.s = r.s)) = none := h4
  rw [if_neg (by rw [h1]; simp), if_neg (by omega), if_neg (by omega), if_neg (by omega), h4']
  unfold PL.fits
  by_cases a1 : r.s ≠ m.nextSeq r.p r.e
  · simp [a1]
  · by_cases a2 : m.barred r.p r.e r.t = true
    · simp [a1, a2]
    · by_cases a3 : 128 ≤ m.recs.length
      · simp [a1, a2, a3]
      · simp [a1, a2, a3]
theorem append_old (m : PL) (r : Rec) (i : Nat) (h1 : PL.isRec r = true) (h2 : 0 ≤ m.ep r.p) (h3 : r.e = m.ep r.p) (h4 : m.recs.findIdx? (sameRec r) = some i) :
    m.append r = if (m.recs.getD i r).t = r.t ∧ (m.recs.getD i r).v = r.v then (m, (i : Int), 0) else (m, 0, 1) := by
  unfold PL.append
  have h4' : m.recs.findIdx? (fun x => decide (x.p = r.p) && decide (x.e = r.e) && decide (x.s = r.s)) = some i := h4
  rw [if_neg (by rw [h1]; simp), if_neg (by omega), if_neg (by omega), if_neg (by omega), h4']

set_option maxRecDepth 100000 in
set_option maxHeartbeats 4000000 in
theorem Append_bad (w : World) (g gm : Nat) (A B : Option Addr) (ca cb : Nat) (m : PL) (vs : List Value) (S V : Nat → Prop) (h : LogHas w g gm A B ca cb m vs S V) (r : Rec) (n c : Nat) (D : Option Addr) (hl : r.v.length = n) (hr : PL.isRec r = false) :
    Calls Try.prog 28 #[.pointer (some ⟨g, 0, none⟩), .agg #[.int .i64 r.p, .int .i64 r.e, .int .i64 r.t, .int .i64 r.s, .slice D n c]] w fun x w' => x = .returned (.tuple #[.int .i64 (m.append r).2.1, .int .i64 (m.append r).2.2]) ∧ Step w g (m.append r).1 S V w' := by
  have hl : m.append r = (m, 0, 1) := by unfold PL.append; rw [if_pos hr]
  rw [hl]
  have HI : ∀ w1, Calls Try.prog 45 #[.agg #[.int .i64 r.p, .int .i64 r.e, .int .i64 r.t, .int .i64 r.s, .slice D n c]] w1 fun x w' => x = .returned (.bool false) ∧ Grow w1 noOwn w' := fun w1 => by
    have := isRecord_any r.p r.e r.t r.s n c D r.v (by assumption) w1
    rwa [hr] at this
  clear hl hr
  have hM := Mem.nil w noOwn
  have tok : True := trivial
  go_enter Try.func28, Try.ntmps28
  go_wp2_with (first
    | (have _t := tok; refine wpList_box_mem hM rfl 42 _ rfl (.agg #[.int .i64 r.p, .int .i64 r.e, .int .i64 r.t, .int .i64 r.s, .slice D n c]) rfl _ rfl ?_; clear tok hM; intro g1 w1 hM)
    | (refine BigFrame.wpList_want rfl fun _ hK => wp_load_blk 42 _ rfl hM 0 g1 _ _ rfl rfl _ Try.underlying42 rfl (by kernel_rfl) (hK _ _ ?_))
    | (go_at_call 45; refine (HI w1).mono ?_; rintro e1 w2 ⟨rfl, hg⟩))
  go_ret2
  exact ⟨rfl, Step.same ⟨gm, A, B, ca, cb, vs, h⟩ (hM.grow.then_ hg)⟩
end Go.Proofs.Ytechglhkcjgodaa
