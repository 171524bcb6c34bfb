/- plog: End of a transaction that is there. -/
import Derived.Test.YtechglhkcjgodaaPlog11
namespace Go.Proofs.Ytechglhkcjgodaa
open Go.RowKit Go.MapKept
set_option linter.unusedSimpArgs false

set_option maxRecDepth 100000 in
set_option maxHeartbeats 8000000 in
theorem End_some (w : World) (g gm : Nat) (A B : Option Addr) (ca cb : Nat) (m : PL) (vs : List Value) (S V : Nat → Prop) (h : LogHas w g gm A B ca cb m vs S V) (p e t : Int) (c : Bool) (hs : m.spans.length ≤ 1000000) (hp : (PL.isProd p e && PL.isTxn t) = true) (i : Nat) (hi : m.spans.findIdx? (fun s => decide (s.p = p) && decide (s.e = e) && decide (s.t = t)) = some i) :
    Calls Try.prog 29 #[.pointer (some ⟨g, 0, none⟩), .int .i64 p, .int .i64 e, .int .i64 t, .bool c] w fun x w' => x = .returned (.int .i64 (m.endd p e t c).2) ∧ Step w g (m.endd p e t c).1 S V w' := by
  have h1 : PL.isProd p e = true := by revert hp; cases PL.isProd p e <;> simp
  have h2 : PL.isTxn t = true := by revert hp; cases PL.isTxn t <;> simp
  have H1 := hide h1
  have H2 := hide h2
  have HS : ∀ w1, Grow w noOwn w1 → Calls Try.prog 49 #[.pointer (some ⟨g, 0, none⟩), .int .i64 p, .int .i64 e, .int .i64 t] w1 fun x w' => x = .returned (.int .i64 i) ∧ Grow w1 noOwn w' := fun w1 hg => by
    have := span_any w1 g gm A B ca cb m vs (h.read.grow hg) (by omega) p e t
    rwa [PL.spanAt_some hi] at this
  have hil : i < m.spans.length := by
    rw [List.findIdx?_eq_some_iff_getElem] at hi
    exact hi.1
  obtain ⟨K, hK⟩ : ∃ K, K = (m.spans.getD i ⟨0, 0, 0, 0, 0⟩).k := ⟨_, rfl⟩
  have hl : m.endd p e t c = if K ≠ 0 ∧ K ≠ kindOf c then (m, 6) else ({ m with spans := m.spans.modify i (fun s => { s with k := kindOf c }) }, 0) := by
    unfold PL.endd
    rw [if_neg (by rw [hp]; simp), hi, hK]
    rfl
  have hM := h.mem
  obtain ⟨gr, rfl, hk0⟩ := row_spn hM 1 rfl rfl i hil
  rw [← hK] at hk0
  clear hK hp h1 h2 hi
  have hnew : Hid (∀ w6, Mem w S w6 ((logItems g gm A (some ⟨gr, 0, none⟩) ca cb m vs).set 1 (.row (.slice (some ⟨gr, 0, none⟩) m.spans.length cb) 39 5 m.spans.length ((spnCells m.spans).set (i * 5 + 4) (.int .i64 (kindOf c))))) → Step w g { m with spans := m.spans.modify i (fun s => { s with k := kindOf c }) } S V w6) := hide (fun w6 hM => by
    have hM6 : Mem w S w6 (logItems g gm A (some ⟨gr, 0, none⟩) ca cb { m with spans := m.spans.modify i (fun s => { s with k := kindOf c }) } vs) := by
      unfold logItems
      rw [← spnCells_set, show (m.spans.modify i (fun s => { s with k := kindOf c })).length = m.spans.length from by simp]
      exact hM
    exact h.after hM6 h.vl (V' := V) (fun i hi => .inl hi) (h.vals_same rfl hM6.grow))
  by_cases hc : K ≠ 0 ∧ K ≠ kindOf c
  · rw [hl, if_pos hc]
    obtain ⟨hc1, hc2⟩ := hc
    have hsame : Hid (∀ w', Grow w noOwn w' → Step w g m S V w') := hide (fun w' hg => Step.same ⟨gm, A, _, ca, cb, vs, h⟩ hg)
    clear hl hnew h
    cases c
    all_goals
      simp only [kindOf, Bool.false_eq_true, if_false, if_true] at hc2
      have b1 : (K != 0) = true := by simpa using hc1
      have b2 := bne_iff_ne.2 hc2
      clear hc1 hc2
      go_enter Try.func29, Try.ntmps29
      go_wp2_with (first
        | (go_at_call 44; refine (isProducer_any _ _ _).mono ?_; rintro e1 w2 ⟨rfl, rfl⟩; rw [unhide H1])
        | (go_at_call 51; refine (isTxn_any _ _).mono ?_; rintro e1 w2 ⟨rfl, rfl⟩; rw [unhide H2])
        | (go_at_call 49; refine (HS _ (Grow.refl _ _)).mono ?_; rintro e1 w2 ⟨rfl, hg⟩; have hM2 := hM.call hg; have c1 : w2.cell? ⟨g, 1, none⟩ = some (.slice (some ⟨gr, 0, none⟩) m.spans.length cb) := hM2.cell 2 rfl 1; have k2 : w2.cell? ⟨gr, i * 5 + 4, none⟩ = some (.int .i64 K) := (hg.keep (p := ⟨gr, i * 5 + 4, none⟩) (hM.lt 1 rfl rfl) (fun e => e)).trans hk0))
      go_ret
      exact ⟨rfl, unhide hsame _ hg⟩
  · rw [hl, if_neg hc]
    have hc' : K = 0 ∨ (K ≠ 0 ∧ K = kindOf c) := by
      by_cases h0 : K = 0
      · exact .inl h0
      · exact .inr ⟨h0, Classical.byContradiction fun hh => hc ⟨h0, hh⟩⟩
    clear hl hc h
    rcases hc' with rfl | ⟨hc1, rfl⟩
    all_goals
      cases c
      all_goals
        try clear hc1
        try simp only [kindOf, Bool.false_eq_true, if_false, if_true] at hk0
        go_enter Try.func29, Try.ntmps29
        go_wp2_with (first
          | (go_at_call 44; refine (isProducer_any _ _ _).mono ?_; rintro e1 w2 ⟨rfl, rfl⟩; rw [unhide H1])
          | (go_at_call 51; refine (isTxn_any _ _).mono ?_; rintro e1 w2 ⟨rfl, rfl⟩; rw [unhide H2])
          | (go_at_call 49; refine (HS _ (Grow.refl _ _)).mono ?_; rintro e1 w2 ⟨rfl, hg⟩; have k2 : w2.cell? ⟨gr, i * 5 + 4, none⟩ = _ := (hg.keep (p := ⟨gr, i * 5 + 4, none⟩) (hM.lt 1 rfl rfl) (fun e => e)).trans hk0; replace hM := hM.call hg; have c1 : w2.cell? ⟨g, 1, none⟩ = some (.slice (some ⟨gr, 0, none⟩) m.spans.length cb) := hM.cell 2 rfl 1)
          | (refine wpList_store_rowcell rfl 3 _ _ rfl hM 1 gr m.spans.length cb 5 (i * 5 + 4) _ _ rfl (by rw [spnCells_length]; omega) rfl _ rfl rfl (by kernel_rfl) ?_; clear hM; intro w6 hM))
        go_ret
        exact ⟨rfl, unhide hnew _ hM⟩
theorem End_any (w : World) (g gm : Nat) (A B : Option Addr) (ca cb : Nat) (m : PL) (vs : List Value) (S V : Nat → Prop) (h : LogHas w g gm A B ca cb m vs S V) (p e t : Int) (c : Bool) (hs : m.spans.length ≤ 1000000) :
    Calls Try.prog 29 #[.pointer (some ⟨g, 0, none⟩), .int .i64 p, .int .i64 e, .int .i64 t, .bool c] w fun x w' => x = .returned (.int .i64 (m.endd p e t c).2) ∧ Step w g (m.endd p e t c).1 S V w' := by
  cases hp : (PL.isProd p e && PL.isTxn t)
  · exact End_err w g gm A B ca cb m vs S V h p e t c hp
  · cases hi : m.spans.findIdx? (fun s => decide (s.p = p) && decide (s.e = e) && decide (s.t = t)) with
    | none => exact End_none w g gm A B ca cb m vs S V h p e t c hs hp hi
    | some i => exact End_some w g gm A B ca cb m vs S V h p e t c hs hp i hi
end Go.Proofs.Ytechglhkcjgodaa
