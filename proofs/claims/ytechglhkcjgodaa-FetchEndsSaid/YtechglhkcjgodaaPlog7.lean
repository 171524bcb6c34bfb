/- plog: where a record stands; why it does not fit. -/
import Derived.Test.YtechglhkcjgodaaPlog6
namespace Go.Proofs.Ytechglhkcjgodaa
open Go.RowKit
set_option linter.unusedSimpArgs false
set_option maxRecDepth 100000 in
theorem again_any (w : World) (g gm : Nat) (A B : Option Addr) (ca cb : Nat) (m : PL) (vs : List Value) (h : LogR w g gm A B ca cb m vs) (hs : m.recs.length ≤ 1000000000) (r : Rec) (n c : Nat) (D : Option Addr) :
    Calls Try.prog 46 #[.pointer (some ⟨g, 0, none⟩), .agg #[.int .i64 r.p, .int .i64 r.e, .int .i64 r.t, .int .i64 r.s, .slice D n c]] w fun x w' => x = .returned (.int .i64 (m.againAt r)) ∧ Grow w noOwn w' := by
  have hM := Mem.nil w noOwn
  have t1 : True := trivial
  have HI : ∀ g1 w1, Mem w noOwn w1 [.blk g1 42 (recVals r (.slice D n c)).toArray] → Calls Try.prog 56 #[.slice A m.recs.length ca, .func (.func 57) #[] #[.pointer (some ⟨g1, 0, none⟩)]] w1 fun e w' => e = .returned (.int .i64 (m.againAt r)) ∧ Grow w1 noOwn w' := fun g1 w1 hM =>
    IndexR_any w1 _ ca _ A _ m.recs vs (h.grow hM.grow).vl (fun x => decide (x.p = r.p) && decide (x.e = r.e) && decide (x.s = r.s)) rfl hs (h.grow hM.grow).recs (enters Try.func57 rfl rfl) (fun w' i hi hg => by
      obtain ⟨A1, n1, c1, e1, _, _⟩ := h.vals i hi
      rw [e1]
      exact again1_any w' m.recs[i] r n1 c1 A1 (.slice D n c) g1 ((hM.call hg).blk 0 rfl))
  go_enter Try.func46, Try.ntmps46
  go_wp2_with (first
    | (have _t := t1; refine wpList_box_mem hM rfl 42 _ rfl (.agg #[.int .i64 r.p, .int .i64 r.e, .int .i64 r.t, .int .i64 r.s, .slice D n c]) rfl _ rfl ?_; clear t1 hM; intro g1 w1 hM; have h3 := h.grow hM.grow; have c0 := h3.blk.cell 0)
    | (go_at_call 56; refine (HI g1 w1 hM).mono ?_; rintro e w4 ⟨rfl, hg⟩))
  go_ret
  exact ⟨rfl, hM.grow.then_ hg⟩

/-- Why a record does not fit. -/
def PL.fits (m : PL) (r : Rec) : Int := if r.s ≠ m.nextSeq r.p r.e then 8 else if m.barred r.p r.e r.t then 6 else if 128 ≤ m.recs.length then 3 else 0
set_option maxRecDepth 100000 in
set_option maxHeartbeats 4000000 in
theorem fits_at (w : World) (g gm : Nat) (A B : Option Addr) (ca cb : Nat) (m : PL) (vs : List Value) (h : LogR w g gm A B ca cb m vs) (hr : m.recs.length ≤ 1000) (hs : m.spans.length ≤ 1000000000) (r : Rec) (n c : Nat) (D : Option Addr) (x la nx : Int) (hx : x = m.fits r) (hla : Hid (m.lastAt r.p r.e = la)) (hnx : Hid (nx = m.nextSeq r.p r.e))
    (hcase : (la = -1 ∧ nx = 0) ∨ ∃ (k : Nat) (b off : Nat) (q : Int), la = k ∧ k < m.recs.length ∧ 0 ≤ q ∧ q ≤ 1048576 ∧ nx = q + 1 ∧ A = some ⟨b, off, none⟩ ∧ b < w.heap.size ∧ w.cell? ⟨b, off + k * 5 + 3, none⟩ = some (.int .i64 q)) :
    Calls Try.prog 48 #[.pointer (some ⟨g, 0, none⟩), .agg #[.int .i64 r.p, .int .i64 r.e, .int .i64 r.t, .int .i64 r.s, .slice D n c]] w fun y w' => y = .returned (.int .i64 x) ∧ Grow w noOwn w' := by
  have hM := Mem.nil w noOwn
  have t1 : True := trivial
  have hfit : Hid (x = if r.s ≠ nx then 8 else if m.barred r.p r.e r.t then 6 else if 128 ≤ m.recs.length then 3 else 0) := hide (by rw [hx, unhide hnx]; rfl)
  clear hx
  have HI : ∀ g1 w1, Mem w noOwn w1 [.blk g1 42 (recVals r (.slice D n c)).toArray] → Calls Try.prog 60 #[.slice B m.spans.length cb, .func (.func 59) #[] #[.pointer (some ⟨g1, 0, none⟩)]] w1 fun e w' => e = .returned (.bool (m.barred r.p r.e r.t)) ∧ Grow w1 noOwn w' := fun g1 w1 hM =>
    ContainsS_any w1 _ cb _ B _ m.spans (fun s => decide (s.p = r.p) && decide (s.e = r.e) && (decide (s.t = r.t) == decide (s.k ≠ 0))) rfl hs (h.grow hM.grow).spans (enters Try.func59 rfl rfl) (fun w' s hg _ => fits1_any w' s r (.slice D n c) g1 ((hM.call hg).blk 0 rfl))
  have HL : ∀ w1, LogR w1 g gm A B ca cb m vs → Calls Try.prog 58 #[.pointer (some ⟨g, 0, none⟩), .int .i64 r.p, .int .i64 r.e] w1 fun y w' => y = .returned (.int .i64 la) ∧ w1 = w' := fun w1 h1 => by
    have := last_any w1 g gm A B ca cb m vs h1 hr r.p r.e
    rwa [unhide hla] at this
  rcases hcase with ⟨rfl, rfl⟩ | ⟨k, b, off, q, rfl, hk, q0, q1, rfl, rfl, hb, hq⟩
  · by_cases h1 : r.s = 0
    · cases h2 : m.barred r.p r.e r.t
      · have H2 := hide h2
        clear h2
        by_cases h3 : 128 ≤ m.recs.length
        · have hx : Hid (x = 3) := hide (by rw [unhide hfit, if_neg (show ¬ (r.s ≠ 0) from fun h => h h1), if_neg (by rw [unhide H2]; exact Bool.false_ne_true), if_pos h3])
          clear hfit
          go_enter Try.func48, Try.ntmps48
          go_wp2_with (first
            | (have _t := t1; refine wpList_box_mem hM rfl 42 _ rfl (.agg #[.int .i64 r.p, .int .i64 r.e, .int .i64 r.t, .int .i64 r.s, .slice D n c]) rfl _ rfl ?_; clear t1 hM; intro g1 w1 hM; have h3 := h.grow hM.grow; have c0 := h3.blk.cell 0; have c1 := h3.blk.cell 1; have d0 : w1.cell? ⟨g1, 0, none⟩ = some (.int .i64 r.p) := hM.cell 0 rfl 0; have d1 : w1.cell? ⟨g1, 1, none⟩ = some (.int .i64 r.e) := hM.cell 0 rfl 1; have d3 : w1.cell? ⟨g1, 3, none⟩ = some (.int .i64 r.s) := hM.cell 0 rfl 3)
            | (go_at_call 58; refine (HL w1 h3).mono ?_; rintro e w4 ⟨rfl, rfl⟩)
            | (go_at_call 60; refine (HI g1 w1 hM).mono ?_; rintro e w4 ⟨rfl, hg⟩; rw [unhide H2]; have c5 := (h3.grow hg).blk.cell 0))
          go_ret
          exact ⟨congrArg (fun b => Ending.returned (.int .i64 b)) (unhide hx).symm, (hM.grow.then_ hg)⟩
        · have hx : Hid (x = 0) := hide (by rw [unhide hfit, if_neg (show ¬ (r.s ≠ 0) from fun h => h h1), if_neg (by rw [unhide H2]; exact Bool.false_ne_true), if_neg h3])
          clear hfit
          go_enter Try.func48, Try.ntmps48
          go_wp2_with (first
            | (have _t := t1; refine wpList_box_mem hM rfl 42 _ rfl (.agg #[.int .i64 r.p, .int .i64 r.e, .int .i64 r.t, .int .i64 r.s, .slice D n c]) rfl _ rfl ?_; clear t1 hM; intro g1 w1 hM; have h3 := h.grow hM.grow; have c0 := h3.blk.cell 0; have c1 := h3.blk.cell 1; have d0 : w1.cell? ⟨g1, 0, none⟩ = some (.int .i64 r.p) := hM.cell 0 rfl 0; have d1 : w1.cell? ⟨g1, 1, none⟩ = some (.int .i64 r.e) := hM.cell 0 rfl 1; have d3 : w1.cell? ⟨g1, 3, none⟩ = some (.int .i64 r.s) := hM.cell 0 rfl 3)
            | (go_at_call 58; refine (HL w1 h3).mono ?_; rintro e w4 ⟨rfl, rfl⟩)
            | (go_at_call 60; refine (HI g1 w1 hM).mono ?_; rintro e w4 ⟨rfl, hg⟩; rw [unhide H2]; have c5 := (h3.grow hg).blk.cell 0))
          go_ret
          exact ⟨congrArg (fun b => Ending.returned (.int .i64 b)) (unhide hx).symm, (hM.grow.then_ hg)⟩
      · have H2 := hide h2
        have hx : Hid (x = 6) := hide (by rw [unhide hfit, if_neg (show ¬ (r.s ≠ 0) from fun h => h h1), if_pos h2])
        clear h2 hfit
        go_enter Try.func48, Try.ntmps48
        go_wp2_with (first
          | (have _t := t1; refine wpList_box_mem hM rfl 42 _ rfl (.agg #[.int .i64 r.p, .int .i64 r.e, .int .i64 r.t, .int .i64 r.s, .slice D n c]) rfl _ rfl ?_; clear t1 hM; intro g1 w1 hM; have h3 := h.grow hM.grow; have c0 := h3.blk.cell 0; have c1 := h3.blk.cell 1; have d0 : w1.cell? ⟨g1, 0, none⟩ = some (.int .i64 r.p) := hM.cell 0 rfl 0; have d1 : w1.cell? ⟨g1, 1, none⟩ = some (.int .i64 r.e) := hM.cell 0 rfl 1; have d3 : w1.cell? ⟨g1, 3, none⟩ = some (.int .i64 r.s) := hM.cell 0 rfl 3)
          | (go_at_call 58; refine (HL w1 h3).mono ?_; rintro e w4 ⟨rfl, rfl⟩)
          | (go_at_call 60; refine (HI g1 w1 hM).mono ?_; rintro e w4 ⟨rfl, hg⟩; rw [unhide H2]; have c5 := (h3.grow hg).blk.cell 0))
        go_ret
        exact ⟨congrArg (fun b => Ending.returned (.int .i64 b)) (unhide hx).symm, (hM.grow.then_ hg)⟩
    · have hx : Hid (x = 8) := hide (by rw [unhide hfit, if_pos h1])
      clear hfit
      go_enter Try.func48, Try.ntmps48
      go_wp2_with (first
        | (have _t := t1; refine wpList_box_mem hM rfl 42 _ rfl (.agg #[.int .i64 r.p, .int .i64 r.e, .int .i64 r.t, .int .i64 r.s, .slice D n c]) rfl _ rfl ?_; clear t1 hM; intro g1 w1 hM; have h3 := h.grow hM.grow; have c0 := h3.blk.cell 0; have c1 := h3.blk.cell 1; have d0 : w1.cell? ⟨g1, 0, none⟩ = some (.int .i64 r.p) := hM.cell 0 rfl 0; have d1 : w1.cell? ⟨g1, 1, none⟩ = some (.int .i64 r.e) := hM.cell 0 rfl 1; have d3 : w1.cell? ⟨g1, 3, none⟩ = some (.int .i64 r.s) := hM.cell 0 rfl 3)
        | (go_at_call 58; refine (HL w1 h3).mono ?_; rintro e w4 ⟨rfl, rfl⟩))
      go_ret
      exact ⟨congrArg (fun b => Ending.returned (.int .i64 b)) (unhide hx).symm, hM.grow⟩
  · by_cases h1 : r.s = q + 1
    · cases h2 : m.barred r.p r.e r.t
      · have H2 := hide h2
        clear h2
        by_cases h3 : 128 ≤ m.recs.length
        · have hx : Hid (x = 3) := hide (by rw [unhide hfit, if_neg (show ¬ (r.s ≠ q + 1) from fun h => h h1), if_neg (by rw [unhide H2]; exact Bool.false_ne_true), if_pos h3])
          clear hfit
          go_enter Try.func48, Try.ntmps48
          go_wp2_with (first
            | (have _t := t1; refine wpList_box_mem hM rfl 42 _ rfl (.agg #[.int .i64 r.p, .int .i64 r.e, .int .i64 r.t, .int .i64 r.s, .slice D n c]) rfl _ rfl ?_; clear t1 hM; intro g1 w1 hM; have h3 := h.grow hM.grow; have c0 := h3.blk.cell 0; have c1 := h3.blk.cell 1; have d0 : w1.cell? ⟨g1, 0, none⟩ = some (.int .i64 r.p) := hM.cell 0 rfl 0; have d1 : w1.cell? ⟨g1, 1, none⟩ = some (.int .i64 r.e) := hM.cell 0 rfl 1; have d3 : w1.cell? ⟨g1, 3, none⟩ = some (.int .i64 r.s) := hM.cell 0 rfl 3; have k3 := (hM.grow.keep (p := ⟨b, off + k * 5 + 3, none⟩) hb (fun e => e)).trans hq)
            | (go_at_call 58; refine (HL w1 h3).mono ?_; rintro e w4 ⟨rfl, rfl⟩)
            | (go_at_call 60; refine (HI g1 w1 hM).mono ?_; rintro e w4 ⟨rfl, hg⟩; rw [unhide H2]; have c5 := (h3.grow hg).blk.cell 0))
          go_ret
          exact ⟨congrArg (fun b => Ending.returned (.int .i64 b)) (unhide hx).symm, (hM.grow.then_ hg)⟩
        · have hx : Hid (x = 0) := hide (by rw [unhide hfit, if_neg (show ¬ (r.s ≠ q + 1) from fun h => h h1), if_neg (by rw [unhide H2]; exact Bool.false_ne_true), if_neg h3])
          clear hfit
          go_enter Try.func48, Try.ntmps48
          go_wp2_with (first
            | (have _t := t1; refine wpList_box_mem hM rfl 42 _ rfl (.agg #[.int .i64 r.p, .int .i64 r.e, .int .i64 r.t, .int .i64 r.s, .slice D n c]) rfl _ rfl ?_; clear t1 hM; intro g1 w1 hM; have h3 := h.grow hM.grow; have c0 := h3.blk.cell 0; have c1 := h3.blk.cell 1; have d0 : w1.cell? ⟨g1, 0, none⟩ = some (.int .i64 r.p) := hM.cell 0 rfl 0; have d1 : w1.cell? ⟨g1, 1, none⟩ = some (.int .i64 r.e) := hM.cell 0 rfl 1; have d3 : w1.cell? ⟨g1, 3, none⟩ = some (.int .i64 r.s) := hM.cell 0 rfl 3; have k3 := (hM.grow.keep (p := ⟨b, off + k * 5 + 3, none⟩) hb (fun e => e)).trans hq)
            | (go_at_call 58; refine (HL w1 h3).mono ?_; rintro e w4 ⟨rfl, rfl⟩)
            | (go_at_call 60; refine (HI g1 w1 hM).mono ?_; rintro e w4 ⟨rfl, hg⟩; rw [unhide H2]; have c5 := (h3.grow hg).blk.cell 0))
          go_ret
          exact ⟨congrArg (fun b => Ending.returned (.int .i64 b)) (unhide hx).symm, (hM.grow.then_ hg)⟩
      · have H2 := hide h2
        have hx : Hid (x = 6) := hide (by rw [unhide hfit, if_neg (show ¬ (r.s ≠ q + 1) from fun h => h h1), if_pos h2])
        clear h2 hfit
        go_enter Try.func48, Try.ntmps48
        go_wp2_with (first
          | (have _t := t1; refine wpList_box_mem hM rfl 42 _ rfl (.agg #[.int .i64 r.p, .int .i64 r.e, .int .i64 r.t, .int .i64 r.s, .slice D n c]) rfl _ rfl ?_; clear t1 hM; intro g1 w1 hM; have h3 := h.grow hM.grow; have c0 := h3.blk.cell 0; have c1 := h3.blk.cell 1; have d0 : w1.cell? ⟨g1, 0, none⟩ = some (.int .i64 r.p) := hM.cell 0 rfl 0; have d1 : w1.cell? ⟨g1, 1, none⟩ = some (.int .i64 r.e) := hM.cell 0 rfl 1; have d3 : w1.cell? ⟨g1, 3, none⟩ = some (.int .i64 r.s) := hM.cell 0 rfl 3; have k3 := (hM.grow.keep (p := ⟨b, off + k * 5 + 3, none⟩) hb (fun e => e)).trans hq)
          | (go_at_call 58; refine (HL w1 h3).mono ?_; rintro e w4 ⟨rfl, rfl⟩)
          | (go_at_call 60; refine (HI g1 w1 hM).mono ?_; rintro e w4 ⟨rfl, hg⟩; rw [unhide H2]; have c5 := (h3.grow hg).blk.cell 0))
        go_ret
        exact ⟨congrArg (fun b => Ending.returned (.int .i64 b)) (unhide hx).symm, (hM.grow.then_ hg)⟩
    · have hx : Hid (x = 8) := hide (by rw [unhide hfit, if_pos h1])
      clear hfit
      go_enter Try.func48, Try.ntmps48
      go_wp2_with (first
        | (have _t := t1; refine wpList_box_mem hM rfl 42 _ rfl (.agg #[.int .i64 r.p, .int .i64 r.e, .int .i64 r.t, .int .i64 r.s, .slice D n c]) rfl _ rfl ?_; clear t1 hM; intro g1 w1 hM; have h3 := h.grow hM.grow; have c0 := h3.blk.cell 0; have c1 := h3.blk.cell 1; have d0 : w1.cell? ⟨g1, 0, none⟩ = some (.int .i64 r.p) := hM.cell 0 rfl 0; have d1 : w1.cell? ⟨g1, 1, none⟩ = some (.int .i64 r.e) := hM.cell 0 rfl 1; have d3 : w1.cell? ⟨g1, 3, none⟩ = some (.int .i64 r.s) := hM.cell 0 rfl 3; have k3 := (hM.grow.keep (p := ⟨b, off + k * 5 + 3, none⟩) hb (fun e => e)).trans hq)
        | (go_at_call 58; refine (HL w1 h3).mono ?_; rintro e w4 ⟨rfl, rfl⟩))
      go_ret
      exact ⟨congrArg (fun b => Ending.returned (.int .i64 b)) (unhide hx).symm, hM.grow⟩
theorem fits_any (w : World) (g gm : Nat) (A B : Option Addr) (ca cb : Nat) (m : PL) (vs : List Value) (h : LogR w g gm A B ca cb m vs) (hin : ∀ x ∈ m.recs, PL.isRec x = true) (hr : m.recs.length ≤ 1000) (hs : m.spans.length ≤ 1000000000) (r : Rec) (n c : Nat) (D : Option Addr) :
    Calls Try.prog 48 #[.pointer (some ⟨g, 0, none⟩), .agg #[.int .i64 r.p, .int .i64 r.e, .int .i64 r.t, .int .i64 r.s, .slice D n c]] w fun y w' => y = .returned (.int .i64 (m.fits r)) ∧ Grow w noOwn w' := by
  refine fits_at w g gm A B ca cb m vs h hr hs r n c D _ (m.lastAt r.p r.e) (m.nextSeq r.p r.e) rfl (hide rfl) (hide rfl) ?_
  rw [m.nextSeq_last]
  have h1 := lastUp_lt m.recs (meant r.p r.e) m.recs.length
  have h2 := lastUp_ge m.recs (meant r.p r.e) m.recs.length
  change m.lastAt r.p r.e < _ at h1
  change -1 ≤ m.lastAt r.p r.e at h2
  by_cases h0 : 0 ≤ m.lastAt r.p r.e
  · right
    obtain ⟨k, hk⟩ : ∃ k : Nat, m.lastAt r.p r.e = k := ⟨(m.lastAt r.p r.e).toNat, by omega⟩
    have hkl : k < m.recs.length := by omega
    obtain ⟨b, off, e, hb, _, _, _, hc, _⟩ := rec_cells h.recs h.vl rfl k hkl
    have hx := hin _ (List.getElem_mem hkl)
    simp only [PL.isRec, Bool.and_eq_true, decide_eq_true_eq] at hx
    refine ⟨k, b, off, m.recs[k].s, hk, hkl, by omega, by omega, ?_, e, hb, hc⟩
    rw [if_pos h0, hk]
    simp [hkl]
  · left
    exact ⟨by omega, by rw [if_neg h0]⟩
end Go.Proofs.Ytechglhkcjgodaa
