/- plog: Append, of both. -/
import Derived.Test.YtechglhkcjgodaaPlogL
import Derived.Test.YtechglhkcjgodaaPlogR7
import Derived.Test.YtechglhkcjgodaaPlog18
namespace Go.Proofs.Ytechglhkcjgodaa
open Go.RowKit Go.MapKept

theorem Append_any (w : World) (g : Nat) (m : PL) (S V : Nat → Prop) (h : LogAt w g m S V) (ok : m.Ok) (hsl : m.spans.length ≤ 1000000) (r : Rec) (n c : Nat) (D : Option Addr) (hb : Bytes w w.heap.size D n r.v) (hnc : n ≤ c) (hD : 0 < n → ∀ ad, D = some ad → ¬ S ad.block) :
    Calls Try.prog 28 #[.pointer (some ⟨g, 0, none⟩), .agg #[.int .i64 r.p, .int .i64 r.e, .int .i64 r.t, .int .i64 r.s, .slice D n c]] w fun x w' => x = .returned (.tuple #[.int .i64 (m.append r).2.1, .int .i64 (m.append r).2.2]) ∧ Step w g (m.append r).1 S V w' := by
  obtain ⟨gm, A, B, ca, cb, vs, hh⟩ := h
  have hlen : m.recs.length ≤ 1000 := by have := ok.len; omega
  cases hr : PL.isRec r
  · exact Append_bad w g gm A B ca cb m vs S V hh r n c D hb.len hr
  · by_cases hep : 0 ≤ m.ep r.p ∧ r.e = m.ep r.p
    · cases hi : m.recs.findIdx? (sameRec r) with
      | some i => exact Append_old w g gm A B ca cb m vs S V hh r n c D hb hr hlen hep i hi
      | none =>
        by_cases hf : m.fits r = 0
        · cases hsp : m.spans.findIdx? (fun s => decide (s.p = r.p) && decide (s.e = r.e) && decide (s.t = r.t)) with
          | some k => exact Append_lay_old w g gm A B ca cb m vs S V hh r n c D hb hr hlen hep hsl ok.recs hi hf hD hnc k hsp
          | none => exact Append_lay_new w g gm A B ca cb m vs S V hh r n c D hb hr hlen hep hsl ok.recs hi hf hD hnc hsp
        · exact Append_nofit w g gm A B ca cb m vs S V hh r n c D hb hr hlen hep hsl ok.recs hi hf
    · exact Append_out w g gm A B ca cb m vs S V hh r n c D hb.len hr hep

theorem nextTwo_neg (m : PL) (p e q : Int) : (m.nextTwo p e q).2 < 0 ∨ ∃ j : Nat, j < m.recs.length ∧ (m.nextTwo p e q).2 = j := by
  have key : ∀ l : List Rec, (nextL p e q l).2 < 0 ∨ ∃ j : Nat, j < l.length ∧ (nextL p e q l).2 = j := by
    refine snoc_ind (by simp [nextL]) (fun l x ih => ?_)
    rw [nextL_snoc]
    unfold nextStep
    split
    · simp only
      split
      · exact .inr ⟨l.length, by simp, rfl⟩
      · rcases ih with h | ⟨j, h1, h2⟩
        · exact .inl h
        · exact .inr ⟨j, by simp; omega, h2⟩
    · rcases ih with h | ⟨j, h1, h2⟩
      · exact .inl h
      · exact .inr ⟨j, by simp; omega, h2⟩
  exact key m.recs
theorem AppendR_any (w : World) (g : Nat) (m : PL) (V : Nat → Prop) (h : RefAt w g m V) (ok : m.Ok) (hsl : m.spans.length ≤ 1000000) (r : Rec) (n c : Nat) (D : Option Addr) (hb : Bytes w w.heap.size D n r.v) (hD : 0 < n → ∀ ad, D = some ad → ad.block ≠ g) :
    Calls Try.prog 33 #[.pointer (some ⟨g, 0, none⟩), .agg #[.int .i64 r.p, .int .i64 r.e, .int .i64 r.t, .int .i64 r.s, .slice D n c]] w fun x w' => x = .returned (.tuple #[.int .i64 (m.append r).2.1, .int .i64 (m.append r).2.2]) ∧ StepR w g (m.append r).1 V w' := by
  rw [← appendR_eq ok r]
  have hlen : m.recs.length ≤ 1000 := by have := ok.len; omega
  obtain ⟨p, e, t, q, v⟩ := r
  unfold PL.appendR
  dsimp only at hb ⊢
  cases hr : PL.isRec ⟨p, e, t, q, v⟩
  · rw [if_pos rfl]
    exact AppendR_bad w g m V h p e t q v n c D hb.len hr
  rw [if_neg (by simp)]
  by_cases c2 : m.ep p < 0
  · rw [if_pos c2]
    exact AppendR_ep w g m V h p e t q v n c D hb.len hr 4 (.inl ⟨c2, rfl⟩)
  rw [if_neg c2]
  by_cases c3 : e < m.ep p
  · rw [if_pos c3]
    exact AppendR_ep w g m V h p e t q v n c D hb.len hr 5 (.inr (.inl ⟨by omega, c3, rfl⟩))
  rw [if_neg c3]
  by_cases c4 : e > m.ep p
  · rw [if_pos c4]
    exact AppendR_ep w g m V h p e t q v n c D hb.len hr 6 (.inr (.inr ⟨by omega, c4, rfl⟩))
  rw [if_neg c4]
  have hep : 0 ≤ m.ep p ∧ e = m.ep p := by omega
  rcases nextTwo_neg m p e q with hneg | ⟨j, hj, hje⟩
  · rw [if_neg (by omega)]
    by_cases c5 : q ≠ (m.nextTwo p e q).1
    · rw [if_pos c5]
      exact AppendR_no w g m V h p e t q v n c D hb hr hep ok.recs hlen hsl _ _ hneg rfl 8 (.inl ⟨c5, rfl⟩)
    rw [if_neg c5]
    have c5' : q = (m.nextTwo p e q).1 := Classical.byContradiction c5
    by_cases c6 : (0 ≤ m.spanAt p e t ∧ (m.spans.getD (m.spanAt p e t).toNat ⟨0, 0, 0, 0, 0⟩).k ≠ 0) ∨ m.spans.any (otherIs p e t) = true
    · rw [if_pos c6]
      exact AppendR_no w g m V h p e t q v n c D hb hr hep ok.recs hlen hsl _ _ hneg rfl 6 (.inr (.inl ⟨c5', rfl, c6⟩))
    rw [if_neg c6]
    by_cases c7 : 128 ≤ m.recs.length
    · rw [if_pos c7]
      exact AppendR_no w g m V h p e t q v n c D hb hr hep ok.recs hlen hsl _ _ hneg rfl 3 (.inr (.inr ⟨c5', rfl, c6, c7⟩))
    rw [if_neg c7]
    exact AppendR_lay w g m V h p e t q v n c D hb hD hr hep ok.recs (by omega) hsl _ hneg (Prod.ext c5'.symm rfl) c6
  · have h0 : 0 ≤ (m.nextTwo p e q).2 := by omega
    rw [if_pos h0]
    have hg : m.recs.getD (m.nextTwo p e q).2.toNat ⟨p, e, t, q, v⟩ = m.recs[j] := by
      rw [hje]
      simp [hj]
    rw [hg]
    refine (AppendR_old w g m V h p e t q v n c D hb hr hep ok.recs hlen j (m.nextTwo p e q).1 hj (Prod.ext rfl hje) _ rfl).mono ?_
    rintro x w' ⟨rfl, hst⟩
    rw [hje]
    split <;> exact ⟨rfl, hst⟩
end Go.Proofs.Ytechglhkcjgodaa
