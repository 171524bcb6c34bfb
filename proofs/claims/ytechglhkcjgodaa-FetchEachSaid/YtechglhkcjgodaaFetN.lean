/- fetch's laws: FetchEach. -/
import Derived.Test.YtechglhkcjgodaaFetK1
import Derived.Test.YtechglhkcjgodaaFetV
namespace Go.Proofs.Ytechglhkcjgodaa
open Go.RowKit Go.MapKept
set_option linter.unusedSimpArgs false
set_option linter.unusedVariables false
theorem scan_pre (mf : Rec → Bool) (en most : Int) : ∀ (rs : List Rec) (i : Nat) (out : List Rec), ∃ t, (scan mf en most rs i out).1 = out ++ t
  | [], i, out => ⟨[], by simp [scan]⟩
  | r :: rs, i, out => by
    unfold scan
    split
    · exact ⟨[], by simp⟩
    · obtain ⟨t, h⟩ := scan_pre mf en most rs (i + 1) (if mf r then out ++ [r] else out)
      rw [h]
      split
      · exact ⟨[r] ++ t, by simp⟩
      · exact ⟨t, rfl⟩
theorem scan_take (mf : Rec → Bool) (en : Int) (k M : Nat) : ∀ (rs : List Rec) (i : Nat) (out : List Rec), out.length ≤ k → out.length + rs.length ≤ M → (scan mf en k rs i out).1 = ((scan mf en M rs i out).1).take k
  | [], i, out, h1, _ => by simp [scan, List.take_of_length_le h1]
  | r :: rs, i, out, h1, h2 => by
    simp only [List.length_cons] at h2
    by_cases hen : en ≤ (i : Int)
    · rw [scan_stop (.inl hen), scan_stop (.inl hen), List.take_of_length_le h1]
    · have hM : ¬ (en ≤ (i : Int) ∨ (M : Int) ≤ (out.length : Int)) := by omega
      by_cases hk : out.length = k
      · rw [scan_stop (.inr (by omega))]
        obtain ⟨t, ht⟩ := scan_pre mf en M (r :: rs) i out
        rw [ht, List.take_append_of_le_length (by omega), List.take_of_length_le (by omega)]
      · rw [scan_go (by omega), scan_go hM]
        refine scan_take mf en k M rs (i + 1) _ ?_ ?_
        · split <;> (try simp) <;> omega
        · split <;> (try simp) <;> omega
theorem each_take (m : PL) (only : Bool) (k : Nat) : (eachF m only).take k = if only then (comF m 0 k).1 else (anyF m 0 k).1 := by
  unfold eachF comF anyF
  have h0 : offs 0 = 0 := rfl
  cases only
  · simp only [h0, List.drop_zero]
    exact (scan_take _ _ k _ m.recs 0 [] (Nat.zero_le _) (by simp)).symm
  · simp only [h0, List.drop_zero]
    exact (scan_take _ _ k _ m.recs 0 [] (Nat.zero_le _) (by simp)).symm
attribute [local irreducible] wpList Code.wp GW Calls
set_option maxRecDepth 100000 in
set_option maxHeartbeats 8000000 in
theorem FetchEach_any (w : World) (A : Option Addr) (n c : Nat) (most : Int) (cm : Bool) (l : List Doing) (vs : List Value) (h : DoR w A n l vs) (hn : n ≤ 2000000000000) : Calls Try.prog 8 #[.slice A n c, .int .i64 most, .bool cm] w fun e w' => e = .returned (.bool true) ∧ Grow w noOwn w' := by
  have hM := Mem.nil w noOwn
  rcases (by omega : most < 0 ∨ 200 < most ∨ (0 ≤ most ∧ most ≤ 200)) with hf | hf | ⟨hf0, hf1⟩
  · go_enter Try.func8, Try.ntmps8
    go_wp2_with (first | (go_at_call 10; refine (long_any w A n c l vs h hn).mono ?_; rintro e1 w1 ⟨b, rfl, rfl⟩; cases b))
    all_goals
      go_ret
      exact ⟨rfl, hM.grow⟩
  · go_enter Try.func8, Try.ntmps8
    go_wp2_with (first | (go_at_call 10; refine (long_any w A n c l vs h hn).mono ?_; rintro e1 w1 ⟨b, rfl, rfl⟩; cases b))
    all_goals
      go_ret
      exact ⟨rfl, hM.grow⟩
  obtain ⟨k, rfl⟩ : ∃ k : Nat, most = k := ⟨most.toNat, by omega⟩
  have HE := fun m => each_take m cm k
  cases cm
  · simp only [Bool.false_eq_true, if_false] at HE
    have HEQ := hide HE
    clear HE
    go_enter Try.func8, Try.ntmps8
    go_wp2_with (first
      | (go_at_call 10; refine (long_any w A n c l vs h hn).mono ?_; rintro e1 w1 ⟨b, rfl, rfl⟩; cases b)
      | (go_at_call 11; refine (laid_any hM A n c l vs h hn).mono ?_; rintro e1 w1 ⟨g, g2, m, F, F2, rfl, ok, hsl, hM1⟩; have hsl' : m.spans.length ≤ 1000000 := (by omega); replace hM1 := hM1.perm (List.Perm.swap _ _ _); obtain ⟨A2, B2, ca, cb, v2, V, hM2⟩ := hM1.openR; clear hM hM1; have hM := hM2.perm (List.Perm.swap _ _ _); clear hM2)
      | (go_at_call 14; refine (RefAny_any (hM.perm (List.Perm.swap _ _ _)) ok 0 k).mono ?_; rintro e1 w1 ⟨Af, cf, vf, rfl, hvf, hM1⟩; clear hM; have hM := hM1; clear hM1; (try simp only [List.set_cons_succ, List.set_cons_zero] at hM))
      | (go_at_call 23; refine (Each_mk hM _ false).mono ?_; rintro e1 w1 ⟨b1, b2, rfl, hM1⟩; clear hM; have hM := hM1; clear hM1; (try simp only [List.set_cons_succ, List.set_cons_zero] at hM))
      | (go_at_call 22; refine (told12_any (hM.perm (List.Perm.append_left [_, _] (List.perm_middle (l₁ := [_, _])))) 43 _ (eachF m false) k (Nat.le_trans (each_len m false) (by have := ok.len; omega)) (fun args w => run_callFunc Try.func43 (by kernel_rfl) rfl args w) (iter_each ok hsl')).mono ?_; rw [show (k : Int).toNat = k from rfl, unhide HEQ m]; rintro e1 w1 ⟨At, ct, vt, rfl, hvt, hM1⟩; replace hM1 := hM1.pack; simp only [List.cons_append, List.nil_append, List.append_nil] at hM1; clear hM; have hM := hM1; clear hM1; (try simp only [List.set_cons_succ, List.set_cons_zero] at hM))
      | (go_at_call 16; refine (records_same _ _ ct _ cf At Af _ vt vf (Nat.le_trans (any_len m 0 k) (by have := ok.len; omega)) (outX_recs hvt (hM.at_ 0 rfl).2.1) (hvf.recs (ref_has (F := F2) (g := g2) (A := A2) (B := B2) (ca := ca) (cb := cb) (m := m) (vs := v2) (V := V) inferInstance hM) (hM.row 4 rfl))).mono ?_; rintro e1 w1 ⟨rfl, hg⟩; replace hM := hM.call hg; clear hg)
      | (go_at_call 17; refine (known12_any _).mono ?_; rintro e1 w1 ⟨rfl, hg⟩; replace hM := hM.call hg; clear hg))
    all_goals
      go_ret
      exact ⟨rfl, hM.grow⟩
  · simp only [if_true] at HE
    have HEQ := hide HE
    clear HE
    go_enter Try.func8, Try.ntmps8
    go_wp2_with (first
      | (go_at_call 10; refine (long_any w A n c l vs h hn).mono ?_; rintro e1 w1 ⟨b, rfl, rfl⟩; cases b)
      | (go_at_call 11; refine (laid_any hM A n c l vs h hn).mono ?_; rintro e1 w1 ⟨g, g2, m, F, F2, rfl, ok, hsl, hM1⟩; have hsl' : m.spans.length ≤ 1000000 := (by omega); replace hM1 := hM1.perm (List.Perm.swap _ _ _); obtain ⟨A2, B2, ca, cb, v2, V, hM2⟩ := hM1.openR; clear hM hM1; have hM := hM2.perm (List.Perm.swap _ _ _); clear hM2)
      | (go_at_call 14; refine (RefAny_any (hM.perm (List.Perm.swap _ _ _)) ok 0 k).mono ?_; rintro e1 w1 ⟨Ae, ce, ve, rfl, hve, hM1⟩; clear hM; have hM := hM1; clear hM1; (try simp only [List.set_cons_succ, List.set_cons_zero] at hM))
      | (go_at_call 15; refine (RefCommitted_any (hM.perm (List.perm_middle (l₁ := [_]))) ok hsl' 0 k).mono ?_; rintro e1 w1 ⟨Af, cf, vf, rfl, hvf, hM1⟩; clear hM; have hM := hM1; clear hM1; (try simp only [List.set_cons_succ, List.set_cons_zero] at hM))
      | (go_at_call 23; refine (Each_mk hM _ true).mono ?_; rintro e1 w1 ⟨b1, b2, rfl, hM1⟩; clear hM; have hM := hM1; clear hM1; (try simp only [List.set_cons_succ, List.set_cons_zero] at hM))
      | (go_at_call 22; refine (told12_any (hM.perm (List.Perm.append_left [_, _] (List.perm_middle (l₁ := [_, _, _])))) 43 _ (eachF m true) k (Nat.le_trans (each_len m true) (by have := ok.len; omega)) (fun args w => run_callFunc Try.func43 (by kernel_rfl) rfl args w) (iter_each ok hsl')).mono ?_; rw [show (k : Int).toNat = k from rfl, unhide HEQ m]; rintro e1 w1 ⟨At, ct, vt, rfl, hvt, hM1⟩; replace hM1 := hM1.pack; simp only [List.cons_append, List.nil_append, List.append_nil] at hM1; clear hM; have hM := hM1; clear hM1; (try simp only [List.set_cons_succ, List.set_cons_zero] at hM))
      | (go_at_call 16; refine (records_same _ _ ct _ cf At Af _ vt vf (Nat.le_trans (com_len m 0 k) (by have := ok.len; omega)) (outX_recs hvt (hM.at_ 0 rfl).2.1) (hvf.recs (ref_has (F := F2) (g := g2) (A := A2) (B := B2) (ca := ca) (cb := cb) (m := m) (vs := v2) (V := V) inferInstance hM) (hM.row 4 rfl))).mono ?_; rintro e1 w1 ⟨rfl, hg⟩; replace hM := hM.call hg; clear hg)
      | (go_at_call 17; refine (known12_any _).mono ?_; rintro e1 w1 ⟨rfl, hg⟩; replace hM := hM.call hg; clear hg))
    all_goals
      go_ret
      exact ⟨rfl, hM.grow⟩
end Go.Proofs.Ytechglhkcjgodaa
