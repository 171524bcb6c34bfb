/- plog: End. -/
import Derived.Test.YtechglhkcjgodaaPlog10
namespace Go.Proofs.Ytechglhkcjgodaa
open Go.RowKit Go.MapKept
set_option linter.unusedSimpArgs false

def kindOf (c : Bool) : Int := if c then 2 else 3
theorem PL.spanAt_none {m : PL} {p e t : Int} (h : m.spans.findIdx? (fun s => decide (s.p = p) && decide (s.e = e) && decide (s.t = t)) = none) : m.spanAt p e t = -1 := by
  unfold PL.spanAt; rw [h]
theorem PL.spanAt_some {m : PL} {p e t : Int} {i : Nat} (h : m.spans.findIdx? (fun s => decide (s.p = p) && decide (s.e = e) && decide (s.t = t)) = some i) : m.spanAt p e t = i := by
  unfold PL.spanAt; rw [h]
theorem spn_last (l : List Spn) (p e t k : Int) : (spnCells (l ++ [⟨p, e, t, -1, 0⟩])).set (l.length * 5 + 4) (.int .i64 k) = spnCells (l ++ [⟨p, e, t, -1, k⟩]) := by
  rw [spnCells_set]
  congr 1
  induction l with
  | nil => rfl
  | cons s l ih => simp only [List.cons_append, List.length_cons, List.modify_succ_cons, ih]
theorem spn0 (p e t f k : Int) : (Value.agg #[.int .i64 p, .int .i64 e, .int .i64 t, .int .i64 f, .int .i64 k]).cells.toList = spnVals ⟨p, e, t, f, k⟩ := rfl

set_option maxRecDepth 100000 in
set_option maxHeartbeats 4000000 in
theorem End_err (w : World) (g gm : Nat) (A B : Option Addr) (ca cb : Nat) (m : PL) (vs : List Value) (S V : Nat → Prop) (h : LogHas w g gm A B ca cb m vs S V) (p e t : Int) (c : Bool) (hp : (PL.isProd p e && PL.isTxn t) = false) :
    Calls Try.prog 29 #[.pointer (some ⟨g, 0, none⟩), .int .i64 p, .int .i64 e, .int .i64 t, .bool c] w fun x w' => x = .returned (.int .i64 (m.endd p e t c).2) ∧ Step w g (m.endd p e t c).1 S V w' := by
  have hl : m.endd p e t c = (m, 1) := by unfold PL.endd; rw [if_pos hp]
  rw [hl]
  cases h1 : PL.isProd p e
  · have H1 := hide h1
    clear hp hl h1
    go_enter Try.func29, Try.ntmps29
    go_wp2_with (first
      | (go_at_call 44; refine (isProducer_any _ _ _).mono ?_; rintro e1 w2 ⟨rfl, rfl⟩; rw [unhide H1]))
    go_ret
    exact ⟨rfl, Step.same ⟨gm, A, B, ca, cb, vs, h⟩ (Grow.refl _ _)⟩
  · have h2 : PL.isTxn t = false := by rw [h1] at hp; simpa using hp
    have H1 := hide h1
    have H2 := hide h2
    clear hp hl h1 h2
    go_enter Try.func29, Try.ntmps29
    go_wp2_with (first
      | (go_at_call 44; refine (isProducer_any _ _ _).mono ?_; rintro e1 w2 ⟨rfl, rfl⟩; rw [unhide H1])
      | (go_at_call 51; refine (isTxn_any _ _).mono ?_; rintro e1 w2 ⟨rfl, rfl⟩; rw [unhide H2]))
    go_ret
    exact ⟨rfl, Step.same ⟨gm, A, B, ca, cb, vs, h⟩ (Grow.refl _ _)⟩

set_option maxRecDepth 100000 in
set_option maxHeartbeats 4000000 in
theorem End_none (w : World) (g gm : Nat) (A B : Option Addr) (ca cb : Nat) (m : PL) (vs : List Value) (S V : Nat → Prop) (h : LogHas w g gm A B ca cb m vs S V) (p e t : Int) (c : Bool) (hs : m.spans.length ≤ 1000000) (hp : (PL.isProd p e && PL.isTxn t) = true) (hi : m.spans.findIdx? (fun s => decide (s.p = p) && decide (s.e = e) && decide (s.t = t)) = none) :
    Calls Try.prog 29 #[.pointer (some ⟨g, 0, none⟩), .int .i64 p, .int .i64 e, .int .i64 t, .bool c] w fun x w' => x = .returned (.int .i64 (m.endd p e t c).2) ∧ Step w g (m.endd p e t c).1 S V w' := by
  have hl : m.endd p e t c = ({ m with spans := m.spans ++ [⟨p, e, t, -1, kindOf c⟩] }, 0) := by
    unfold PL.endd
    rw [if_neg (by rw [hp]; simp), hi]
    rfl
  rw [hl]
  have h1 : PL.isProd p e = true := by revert hp; cases PL.isProd p e <;> simp
  have h2 : PL.isTxn t = true := by revert hp; cases PL.isTxn t <;> simp
  have H1 := hide h1
  have H2 := hide h2
  have HS : ∀ w1, Grow w noOwn w1 → Calls Try.prog 49 #[.pointer (some ⟨g, 0, none⟩), .int .i64 p, .int .i64 e, .int .i64 t] w1 fun x w' => x = .returned (.int .i64 (-1)) ∧ Grow w1 noOwn w' := fun w1 hg => by
    have := span_any w1 g gm A B ca cb m vs (h.read.grow hg) (by omega) p e t
    rwa [PL.spanAt_none hi] at this
  clear hp hl h1 h2 hi
  have hM := h.mem
  have tok : True := trivial
  cases c
  all_goals
    go_enter Try.func29, Try.ntmps29
    go_wp2_with (first
      | (go_at_call 44; refine (isProducer_any _ _ _).mono ?_; rintro e1 w2 ⟨rfl, rfl⟩; rw [unhide H1])
      | (go_at_call 51; refine (isTxn_any _ _).mono ?_; rintro e1 w2 ⟨rfl, rfl⟩; rw [unhide H2])
      | (go_at_call 49; refine (HS _ (Grow.refl _ _)).mono ?_; rintro e1 w2 ⟨rfl, hg⟩; replace hM := hM.call hg; have c1 : w2.cell? ⟨g, 1, none⟩ = some (.slice B m.spans.length cb) := hM.cell 2 rfl 1)
      | (refine wpList_buildSlice_one rfl 36 _ rfl hM 39 Try.underlying36 _ 5 40 spnrow (by decide) (by decide) (.agg #[.int .i64 p, .int .i64 e, .int .i64 t, .int .i64 (-1), .int .i64 0]) rfl (spnVals ⟨p, e, t, -1, 0⟩) rfl rfl ?_; clear hM; intro g3 w3 hM)
      | (have _t := tok; refine wpList_append_row rfl _ _ 36 rfl hM 2 _ 39 5 m.spans.length (spnCells m.spans) rfl rfl Try.underlying36 _ 40 spnrow rfl (by decide) _ _ 1 1 (spnVals ⟨p, e, t, -1, 0⟩) rfl (Reads.of_own (hM.row 0 rfl)) (fun u hu => by simp [spnVals] at hu; rcases hu with rfl | rfl | rfl | rfl | rfl <;> rfl) (by unfold maxLen; omega) (by omega) (m.spans.length + 1) rfl (spnCells (m.spans ++ [⟨p, e, t, -1, 0⟩])) (by rw [spnCells_append]; simp [spnCells]) ?_; clear tok hM; intro A4 c4 w4 hM)
      | (refine wpList_store1 rfl 36 _ _ rfl hM 3 g 1 _ _ rfl (by simp) rfl _ rfl rfl (by kernel_rfl) ?_; clear hM; intro w5 hM; obtain ⟨gr, rfl, hk⟩ := row_spn hM 2 rfl (by simp) m.spans.length (by omega); have hk' : w5.cell? ⟨gr, m.spans.length * 5 + 4, none⟩ = some (.int .i64 0) := by simpa using hk
         clear hk
         have c5 : w5.cell? ⟨g, 1, none⟩ = some (.slice (some ⟨gr, 0, none⟩) (m.spans.length + 1) c4) := hM.cell 3 rfl 1)
      | (refine wpList_store_rowcell rfl 3 _ _ rfl hM 2 gr (m.spans.length + 1) c4 5 (m.spans.length * 5 + 4) _ _ rfl (by rw [spnCells_length]; simp; omega) rfl _ rfl rfl (by kernel_rfl) ?_; clear hM; intro w6 hM))
    go_ret
    refine ⟨rfl, ?_⟩
    first
      | (have hM6 : Mem w S w6 (logItems g gm A (some ⟨gr, 0, none⟩) ca c4 { m with spans := m.spans ++ [⟨p, e, t, -1, kindOf false⟩] } vs) := (by
           have h9 := hM.tail
           unfold logItems
           rw [← spn_last m.spans p e t (kindOf false), show (m.spans ++ [(⟨p, e, t, -1, kindOf false⟩ : Spn)]).length = m.spans.length + 1 from by simp]
           exact h9)
         exact h.after hM6 h.vl (V' := V) (fun i hi => .inl hi) (h.vals_same rfl hM6.grow))
      | (have hM6 : Mem w S w6 (logItems g gm A (some ⟨gr, 0, none⟩) ca c4 { m with spans := m.spans ++ [⟨p, e, t, -1, kindOf true⟩] } vs) := (by
           have h9 := hM.tail
           unfold logItems
           rw [← spn_last m.spans p e t (kindOf true), show (m.spans ++ [(⟨p, e, t, -1, kindOf true⟩ : Spn)]).length = m.spans.length + 1 from by simp]
           exact h9)
         exact h.after hM6 h.vl (V' := V) (fun i hi => .inl hi) (h.vals_same rfl hM6.grow))
end Go.Proofs.Ytechglhkcjgodaa
