/- plog's laws: PlogFull. -/
import Derived.Test.YtfecapcjocomkaaPlogV4
namespace Go.Proofs.Ytfecapcjocomkaa
open Go.RowKit Go.MapKept
set_option linter.unusedSimpArgs false
set_option linter.unusedVariables false

/-- A log of one transaction's records, the first n numbers. -/
def flRecs (n : Nat) : List Rec := (List.range n).map fun (j : Nat) => (⟨0, 0, 1, (j : Int), []⟩ : Rec)
def flEps : List Int := (List.replicate 8 (-1)).set 0 0
def fl (n : Nat) : PL := ⟨flRecs n, if n = 0 then [] else [⟨0, 0, 1, 0, 0⟩], flEps⟩
theorem fl_start : PL.empty.learn 0 0 = (fl 0, 0) := rfl
theorem flRecs_len (n : Nat) : (flRecs n).length = n := by simp [flRecs]
theorem flRecs_get (n i : Nat) (h : i < n) : (flRecs n)[i]'(by rw [flRecs_len]; exact h) = ⟨0, 0, 1, (i : Int), []⟩ := by simp [flRecs]
theorem flRecs_succ (n : Nat) : flRecs (n + 1) = flRecs n ++ [⟨0, 0, 1, (n : Int), []⟩] := by simp [flRecs, List.range_succ]
theorem fl_meant (n : Nat) : (flRecs n).filter (meant 0 0) = flRecs n := by
  rw [List.filter_eq_self]
  intro x hx
  simp only [flRecs, List.mem_map] at hx
  obtain ⟨j, _, rfl⟩ := hx
  rfl
theorem fl_barred (n : Nat) : (fl n).barred 0 0 1 = false := by
  unfold PL.barred fl
  simp only
  split <;> rfl
theorem fl_none (n : Nat) : (flRecs n).findIdx? (fun x => decide (x.p = 0) && decide (x.e = 0) && decide (x.s = (n : Int))) = none := by
  rw [List.findIdx?_eq_none_iff]
  intro x hx
  simp only [flRecs, List.mem_map, List.mem_range] at hx
  obtain ⟨j, hj, rfl⟩ := hx
  simp
  omega
theorem fl_ep (n : Nat) : (fl n).ep 0 = 0 := rfl
theorem fl_spanAt (n : Nat) : (fl n).spanAt 0 0 1 = if n = 0 then -1 else 0 := by
  unfold PL.spanAt fl
  by_cases h : n = 0 <;> simp [h]
/-- The append of the next number. -/
theorem fl_next (n : Nat) (h : (fl n).Ok) (hn : n ≤ 128) : (fl n).append ⟨0, 0, 1, (n : Int), []⟩ = if n < 128 then (fl (n + 1), (n : Int), 0) else (fl n, 0, 3) := by
  have hns : (fl n).nextSeq 0 0 = n := by
    rw [nextSeq_len (fl n) 0 0 (h.seqs 0 0)]
    show (((flRecs n).filter (meant 0 0)).length : Int) = n
    rw [fl_meant, flRecs_len]
  have hrec : PL.isRec ⟨0, 0, 1, (n : Int), []⟩ = true := by
    simp [PL.isRec, PL.isProd, PL.isTxn]
    omega
  have hf : (fl n).recs.findIdx? (fun x => decide (x.p = 0) && decide (x.e = 0) && decide (x.s = (n : Int))) = none := fl_none n
  have hl : (fl n).recs.length = n := flRecs_len n
  unfold PL.append
  rw [hrec]
  simp only [Bool.true_eq_false, Bool.false_eq_true, if_false, fl_ep, hf, hns, fl_barred, hl, ne_eq, not_true_eq_false]
  rw [if_neg (by decide), if_neg (by decide), if_neg (by decide)]
  by_cases h1 : n < 128
  · rw [if_neg (by omega), if_pos h1, fl_spanAt]
    congr 1
    unfold fl
    rw [flRecs_succ, if_neg (by omega : ¬ n + 1 = 0)]
    by_cases h0 : n = 0
    · subst h0; rfl
    · simp [h0]
  · rw [if_pos (by omega), if_neg h1]
theorem fl_ok : ∀ n, n ≤ 128 → (fl n).Ok
  | 0, _ => by
    have := ok_learn ok_empty 0 0
    rw [fl_start] at this
    exact this
  | n + 1, hn => by
    have h := fl_ok n (by omega)
    have := ok_append h ⟨0, 0, 1, (n : Int), []⟩
    rw [fl_next n h (by omega), if_pos (by omega)] at this
    exact this
theorem fl_again (n : Nat) (hn : 0 < n) : (fl n).append ⟨0, 0, 1, 0, []⟩ = (fl n, 0, 0) := by
  have hf : (fl n).recs.findIdx? (fun x => decide (x.p = 0) && decide (x.e = 0) && decide (x.s = 0)) = some 0 := by
    rw [List.findIdx?_eq_some_iff_getElem]
    have hl : 0 < (flRecs n).length := by rw [flRecs_len]; exact hn
    refine ⟨hl, ?_, fun j hj => by omega⟩
    have := flRecs_get n 0 hn
    show (decide (((flRecs n)[0]'hl).p = 0) && decide (((flRecs n)[0]'hl).e = 0) && decide (((flRecs n)[0]'hl).s = 0)) = true
    rw [this]
    rfl
  have hg : (fl n).recs.getD 0 ⟨0, 0, 1, 0, []⟩ = ⟨0, 0, 1, 0, []⟩ := by
    have := flRecs_get n 0 hn
    show (flRecs n).getD 0 ⟨0, 0, 1, 0, []⟩ = ⟨0, 0, 1, 0, []⟩
    rw [List.getD_eq_getElem?_getD, List.getElem?_eq_getElem (by rw [flRecs_len]; exact hn), this]
    rfl
  have hrec : PL.isRec ⟨0, 0, 1, 0, []⟩ = true := by decide
  unfold PL.append
  rw [hrec]
  simp only [Bool.true_eq_false, if_false, fl_ep, hf, hg]
  rfl
theorem fl_end (n : Nat) (c : Bool) : ∃ m, (fl n).endd 0 0 1 c = (m, 0) ∧ m.recs.length = n ∧ m.stable = n ∧ m.spans.length ≤ 1 := by
  by_cases h0 : n = 0
  · subst h0
    cases c <;> exact ⟨_, rfl, rfl, rfl, by decide⟩
  · have e : (fl n).spans = [⟨0, 0, 1, 0, 0⟩] := by unfold fl; simp [h0]
    refine ⟨{ fl n with spans := [⟨0, 0, 1, 0, if c then 2 else 3⟩] }, ?_, flRecs_len n, ?_, by simp⟩
    · unfold PL.endd
      rw [e]
      cases c <;> rfl
    · unfold PL.stable
      cases c
      · show (((flRecs n).length : Nat) : Int) = n
        rw [flRecs_len]
      · show (((flRecs n).length : Nat) : Int) = n
        rw [flRecs_len]
attribute [local irreducible] wpList Code.wp GW Calls
section
variable {w0 w : World} {own : Nat → Prop} {L : List Item} {g : Nat} {F : Nat → Prop} {m m' : PL}
theorem Append_to (i : Nat) (hM : Mem w0 own w L) (hi : L[i]? = some (.res F (LogP F g m))) (ok : m.Ok) (hsl : m.spans.length ≤ 1000000) {p e t s n er : Int} (h : m.append ⟨p, e, t, s, []⟩ = (m', n, er)) : Calls Try.prog 22 #[.pointer (some ⟨g, 0, none⟩), .agg #[.int .i64 p, .int .i64 e, .int .i64 t, .int .i64 s, .slice none 0 0]] w fun x w' => x = .returned (.tuple #[.int .i64 n, .int .i64 er]) ∧ ∃ F', Mem w0 own w' (L.set i (.res F' (LogP F' g m'))) := by
  have := Append_mem i hM hi ok hsl ⟨p, e, t, s, []⟩ 0 0 none Reads.none_ (Nat.le_refl _) (fun _ ad e => nomatch e)
  rw [h] at this
  exact this
theorem End_to (i : Nat) (hM : Mem w0 own w L) (hi : L[i]? = some (.res F (LogP F g m))) (hsl : m.spans.length ≤ 1000000) {p e t : Int} {c : Bool} {r : Int} (h : m.endd p e t c = (m', r)) : Calls Try.prog 21 #[.pointer (some ⟨g, 0, none⟩), .int .i64 p, .int .i64 e, .int .i64 t, .bool c] w fun x w' => x = .returned (.int .i64 r) ∧ ∃ F', Mem w0 own w' (L.set i (.res F' (LogP F' g m'))) := by
  have := End_mem i hM hi hsl p e t c
  rw [h] at this
  exact this
theorem Stable_to (i : Nat) (hM : Mem w0 own w L) (hi : L[i]? = some (.res F (LogP F g m))) (hsl : m.spans.length ≤ 1000000) {n : Int} (h : m.stable = n) : Calls Try.prog 17 #[.pointer (some ⟨g, 0, none⟩)] w fun x w' => x = .returned (.int .i64 n) ∧ Grow w noOwn w' := by
  have := Stable_mem i hM hi hsl
  rw [h] at this
  exact this
end
theorem fl_spans (n : Nat) : (fl n).spans.length ≤ 1000000 := by unfold fl; simp only; split <;> simp
set_option maxRecDepth 100000 in
set_option maxHeartbeats 8000000 in
theorem PlogFull_any (w : World) (n : Int) (c : Bool) : Calls Try.prog 7 #[.int .i64 n, .bool c] w fun e w' => e = .returned (.bool true) ∧ Grow w noOwn w' := by
  have hM := Mem.nil w noOwn
  by_cases h0 : n < 0
  · go_enter Try.func7, Try.ntmps7
    go_wp2_with (go_at_call 20; refine (known_any _).mono ?_; rintro e1 w1 ⟨rfl, hg⟩; replace hM := hM.call hg; clear hg)
    go_ret
    exact ⟨rfl, hM.grow⟩
  · by_cases h140 : 140 < n
    · go_enter Try.func7, Try.ntmps7
      go_wp2_with (go_at_call 20; refine (known_any _).mono ?_; rintro e1 w1 ⟨rfl, hg⟩; replace hM := hM.call hg; clear hg)
      go_ret
      exact ⟨rfl, hM.grow⟩
    · obtain ⟨N, rfl⟩ : ∃ N : Nat, n = N := ⟨n.toNat, by omega⟩
      have hN : N ≤ 140 := by omega
      clear h0 h140
      go_enter Try.func7, Try.ntmps7
      go_wp2_with (first | (go_at_call 14; refine (New_mem hM).mono ?_; rintro e1 w1 ⟨g, F, rfl, hM1⟩; clear hM; have hM := hM1; clear hM1; (try simp only [List.set_cons_succ, List.set_cons_zero] at hM)) | (go_at_call 24; refine (Learn_to 0 hM rfl ok_empty fl_start).mono ?_; rintro e1 w1 ⟨rfl, F1, hM1⟩; clear hM; have hM := hM1; clear hM1; (try simp only [List.set_cons_succ, List.set_cons_zero] at hM)))
      have HM := hide hM
      go_loopw [6] (fun v wr => ∃ (k : Nat) (F : Nat → Prop), k ≤ N ∧ v = .int .i64 k ∧ Mem w noOwn wr [.res F (LogP F g (fl (min k 128)))]) (fun v _ => N - (intOf v).toNat)
      case atStart => exact ⟨0, _, by omega, rfl, hM⟩
      case round =>
        obtain ⟨k, F, hk, rfl, hM⟩ := hrel
        by_cases hlt : k < N
        · by_cases h128 : k < 128
          · have q1 := fl_next k (fl_ok k (by omega)) (by omega)
            rw [if_pos h128] at q1
            rw [show min k 128 = k by omega] at hM
            have q2 : min (k : Int) 128 = k := by omega
            go_wp2_with (first | (go_at_call 22; refine (Append_to 0 hM rfl (fl_ok _ (by omega)) (fl_spans _) q1).mono ?_; rintro e1 w1 ⟨rfl, F1, hM1⟩; clear hM; have hM := hM1; clear hM1; (try simp only [List.set_cons_succ, List.set_cons_zero] at hM)) | (rw [q2]))
            go_roundw
            case rel => exact ⟨k + 1, F1, by omega, by go_num, by rw [show min (k + 1) 128 = k + 1 by omega]; exact hM⟩
            case measure => simp [intOf]; omega
          · have q1 := fl_next 128 (fl_ok 128 (by omega)) (by omega)
            rw [if_neg (by omega)] at q1
            rw [show min k 128 = 128 by omega] at hM
            have q2 : min (k : Int) 128 = 128 := by omega
            go_wp2_with (first | (go_at_call 22; refine (Append_to 0 hM rfl (fl_ok _ (by omega)) (fl_spans _) q1).mono ?_; rintro e1 w1 ⟨rfl, F1, hM1⟩; clear hM; have hM := hM1; clear hM1; (try simp only [List.set_cons_succ, List.set_cons_zero] at hM)) | (rw [q2]))
            go_roundw
            case rel => exact ⟨k + 1, F1, by omega, by go_num, by rw [show min (k + 1) 128 = 128 by omega]; exact hM⟩
            case measure => simp [intOf]; omega
        · obtain rfl : k = N := by omega
          obtain ⟨m, q1, q2, q3, q4⟩ := fl_end (min k 128) c
          by_cases hp : 0 < k
          · have q5 := fl_again (min k 128) (by omega)
            go_wp2_with (first | (go_at_call 22; refine (Append_to 0 hM rfl (fl_ok _ (by omega)) (fl_spans _) q5).mono ?_; rintro e1 w1 ⟨rfl, F1, hM1⟩; clear hM; have hM := hM1; clear hM1; (try simp only [List.set_cons_succ, List.set_cons_zero] at hM)) | (go_at_call 21; refine (End_to 0 hM rfl (fl_spans _) q1).mono ?_; rintro e1 w1 ⟨rfl, F1, hM1⟩; clear hM; have hM := hM1; clear hM1; (try simp only [List.set_cons_succ, List.set_cons_zero] at hM)) | (go_at_call 17; refine (Stable_to 0 hM rfl (by omega) q3).mono ?_; rintro e1 w1 ⟨rfl, hg⟩; replace hM := hM.call hg; clear hg) | (go_at_call 16; refine (Len_to 0 hM rfl q2).mono ?_; rintro e1 w1 ⟨rfl, hg⟩; replace hM := hM.call hg; clear hg) | (go_at_call 20; refine (known_any _).mono ?_; rintro e1 w1 ⟨rfl, hg⟩; replace hM := hM.call hg; clear hg))
            go_ret
            exact ⟨rfl, hM.grow⟩
          · go_wp2_with (first | (go_at_call 21; refine (End_to 0 hM rfl (fl_spans _) q1).mono ?_; rintro e1 w1 ⟨rfl, F1, hM1⟩; clear hM; have hM := hM1; clear hM1; (try simp only [List.set_cons_succ, List.set_cons_zero] at hM)) | (go_at_call 17; refine (Stable_to 0 hM rfl (by omega) q3).mono ?_; rintro e1 w1 ⟨rfl, hg⟩; replace hM := hM.call hg; clear hg) | (go_at_call 16; refine (Len_to 0 hM rfl q2).mono ?_; rintro e1 w1 ⟨rfl, hg⟩; replace hM := hM.call hg; clear hg) | (go_at_call 20; refine (known_any _).mono ?_; rintro e1 w1 ⟨rfl, hg⟩; replace hM := hM.call hg; clear hg))
            go_ret
            exact ⟨rfl, hM.grow⟩
end Go.Proofs.Ytfecapcjocomkaa
