/- fetch's laws: known; FetchTells. -/
import Derived.Test.YtechglhkcjgodaaFetJ3
import Derived.Test.YtechglhkcjgodaaFetJ4
namespace Go.Proofs.Ytechglhkcjgodaa
open Go.RowKit Go.MapKept
set_option linter.unusedSimpArgs false
set_option linter.unusedVariables false
theorem kn_com : comF kn2 0 5 = ([], 0) := by decide
theorem kn_any : anyF kn2 0 5 = ([⟨0, 0, 1, 0, []⟩], 1) := by decide
theorem scan_len (mf : Rec → Bool) (en most : Int) : ∀ (rs : List Rec) (i : Nat) (out : List Rec), (scan mf en most rs i out).1.length ≤ out.length + rs.length
  | [], i, out => Nat.le_refl _
  | r :: rs, i, out => by
    unfold scan
    split
    · simp
    · refine Nat.le_trans (scan_len mf en most rs (i + 1) _) ?_
      split <;> simp <;> omega
theorem com_len (m : PL) (fr most : Int) : (comF m fr most).1.length ≤ m.recs.length := by
  refine Nat.le_trans (scan_len _ _ _ _ _ _) ?_
  simp
theorem any_len (m : PL) (fr most : Int) : (anyF m fr most).1.length ≤ m.recs.length := by
  refine Nat.le_trans (scan_len _ _ _ _ _ _) ?_
  simp
theorem ab_len (m : PL) (fr to : Int) : (aborted m fr to).length ≤ m.spans.length := List.length_filter_le _ _
theorem records_same (w : World) (n1 c1 n2 c2 : Nat) (A1 A2 : Option Addr) (l : List Rec) (v1 v2 : List Value) (hn : n1 ≤ 1000000000) (h1 : RecsR w A1 n1 l v1) (h2 : RecsR w A2 n2 l v2) :
    Calls Try.prog 16 #[.slice A1 n1 c1, .slice A2 n2 c2] w fun x w' => x = .returned (.bool true) ∧ Grow w noOwn w' := by
  have := RecordsEq_any w n1 c1 n2 c2 A1 A2 l l v1 v2 hn h1 h2
  simpa using this
theorem spans_same (w : World) (n1 c1 n2 c2 : Nat) (A1 A2 : Option Addr) (l : List Spn) (z1 : l.length = n1) (z2 : l.length = n2) (hn : n1 ≤ 1000000000) (h1 : Reads w w.heap.size 5 A1 n1 (spnCells l)) (h2 : Reads w w.heap.size 5 A2 n2 (spnCells l)) :
    Calls Try.prog 24 #[.slice A1 n1 c1, .slice A2 n2 c2] w fun x w' => x = .returned (.bool true) ∧ Grow w noOwn w' := by
  have := SpansEq_any w n1 c1 n2 c2 A1 A2 l l z1 z2 hn h1 h2
  simpa using this
attribute [local irreducible] wpList Code.wp GW Calls
set_option maxRecDepth 100000 in
set_option maxHeartbeats 4000000 in
theorem known12_any (w : World) : Calls Try.prog 17 #[] w fun e w' => e = .returned (.bool true) ∧ Grow w noOwn w' := by
  have hM := Mem.nil w noOwn
  have HC : ∀ {w' F g L}, Mem w noOwn w' (.res F (LogP F g kn2) :: L) → Calls Try.prog 12 #[.pointer (some ⟨g, 0, none⟩), .int .i64 0, .int .i64 5] w' fun e w'' => ∃ A c X, e = .returned (.tuple #[.slice A 0 c, .int .i64 0]) ∧ Mem w noOwn w'' (X ++ (.res F (LogP F g kn2) :: L)) := fun hM => by
    have := Committed_any hM kn_ok2 (by have := kn_7; omega) 0 5
    rw [kn_com] at this
    exact this.mono fun e w'' ⟨A, c, vs, he, _, hm⟩ => ⟨A, c, _, he, hm⟩
  have HA : ∀ {w' F g L}, Mem w noOwn w' (.res F (LogP F g kn2) :: L) → Calls Try.prog 13 #[.pointer (some ⟨g, 0, none⟩), .int .i64 0, .int .i64 5] w' fun e w'' => ∃ A c X, e = .returned (.tuple #[.slice A 1 c, .int .i64 1]) ∧ Mem w noOwn w'' (X ++ (.res F (LogP F g kn2) :: L)) := fun hM => by
    have := Any_any hM kn_ok2 0 5
    rw [kn_any] at this
    exact this.mono fun e w'' ⟨A, c, vs, he, _, hm⟩ => ⟨A, c, _, he, hm⟩
  go_enter Try.func17, Try.ntmps17
  go_wp2_with (first
    | (go_at_call 26; refine (New_mem hM).mono ?_; rintro e1 w1 ⟨g, F, rfl, hM1⟩; clear hM; have hM := hM1; clear hM1; (try simp only [List.set_cons_succ, List.set_cons_zero] at hM))
    | (go_at_call 27; refine (kn_c1 hM).mono ?_; rintro e1 w2 ⟨rfl, F2, hM1⟩; clear hM; have hM := hM1; clear hM1; (try simp only [List.set_cons_succ, List.set_cons_zero] at hM))
    | (go_at_call 28; refine (kn_c2 hM).mono ?_; rintro e1 w3 ⟨rfl, F3, hM1⟩; clear hM; have hM := hM1; clear hM1; (try simp only [List.set_cons_succ, List.set_cons_zero] at hM))
    | (go_at_call 12; refine (HC hM).mono ?_; rintro e1 w4 ⟨A4, c4, X4, rfl, hM1⟩; replace hM1 := hM1.sub (List.sublist_append_right _ _); clear hM; have hM := hM1; clear hM1; (try simp only [List.set_cons_succ, List.set_cons_zero] at hM))
    | (go_at_call 13; refine (HA hM).mono ?_; rintro e1 w4 ⟨A5, c5, X5, rfl, hM1⟩; replace hM1 := hM1.sub (List.sublist_append_right _ _); clear hM; have hM := hM1; clear hM1; (try simp only [List.set_cons_succ, List.set_cons_zero] at hM)))
  go_ret
  exact ⟨rfl, hM.grow⟩
set_option maxRecDepth 100000 in
set_option maxHeartbeats 8000000 in
theorem FetchTells_any (w : World) (A : Option Addr) (n c : Nat) (fr most to : Int) (l : List Doing) (vs : List Value) (h : DoR w A n l vs) (hn : n ≤ 2000000000000) : Calls Try.prog 6 #[.slice A n c, .int .i64 fr, .int .i64 most, .int .i64 to] w fun e w' => e = .returned (.bool true) ∧ Grow w noOwn w' := by
  have hM := Mem.nil w noOwn
  go_enter Try.func6, Try.ntmps6
  go_wp2_with (first
    | (go_at_call 10; refine (long_any w A n c l vs h hn).mono ?_; rintro e1 w1 ⟨b, rfl, rfl⟩; cases b)
    | (go_at_call 11; refine (laid_any hM A n c l vs h hn).mono ?_; rintro e1 w1 ⟨g, g2, m, F, F2, rfl, ok, hsl, hM1⟩; have hsl' : m.spans.length ≤ 1000000 := (by omega); replace hM1 := hM1.perm (List.Perm.swap _ _ _); obtain ⟨A2, B2, ca, cb, v2, V, hM2⟩ := hM1.openR; clear hM hM1; have hM := hM2.perm (List.Perm.swap _ _ _); clear hM2)
    | (go_at_call 12; refine (Committed_any hM ok hsl' fr most).mono ?_; rintro e1 w1 ⟨Ac, cc, vc, rfl, hvc, hM1⟩; replace hM1 := hM1.pack; clear hM; have hM := hM1; clear hM1; (try simp only [List.set_cons_succ, List.set_cons_zero] at hM))
    | (go_at_call 15; refine (RefCommitted_any (hM.perm (List.perm_middle (l₁ := [_, _]))) ok hsl' fr most).mono ?_; rintro e1 w1 ⟨Ad, cd, vd, rfl, hvd, hM1⟩; clear hM; have hM := hM1; clear hM1; (try simp only [List.set_cons_succ, List.set_cons_zero] at hM))
    | (go_at_call 13; refine (Any_any (hM.perm (List.perm_middle (l₁ := [_, _, _]))) ok fr most).mono ?_; rintro e1 w1 ⟨Ae, ce, ve, rfl, hve, hM1⟩; replace hM1 := hM1.pack; clear hM; have hM := hM1; clear hM1; (try simp only [List.set_cons_succ, List.set_cons_zero] at hM))
    | (go_at_call 14; refine (RefAny_any (hM.perm (List.perm_middle (l₁ := [_, _, _]))) ok fr most).mono ?_; rintro e1 w1 ⟨Af, cf, vf, rfl, hvf, hM1⟩; clear hM; have hM := hM1; clear hM1; (try simp only [List.set_cons_succ, List.set_cons_zero] at hM))
    | (go_at_call 16; refine (records_same _ _ cc _ cd Ac Ad _ vc vd (Nat.le_trans (com_len m fr most) (by have := ok.len; omega)) (outX_recs hvc (hM.at_ 5 rfl).2.1) (hvd.recs (ref_has (F := F2) (g := g2) (A := A2) (B := B2) (ca := ca) (cb := cb) (m := m) (vs := v2) (V := V) inferInstance hM) (hM.row 4 rfl))).mono ?_; rintro e1 w1 ⟨rfl, hg⟩; replace hM := hM.call hg; clear hg)
    | (go_at_call 16; refine (records_same _ _ ce _ cf Ae Af _ ve vf (Nat.le_trans (any_len m fr most) (by have := ok.len; omega)) (outX_recs hve (hM.at_ 2 rfl).2.1) (hvf.recs (ref_has (F := F2) (g := g2) (A := A2) (B := B2) (ca := ca) (cb := cb) (m := m) (vs := v2) (V := V) inferInstance hM) (hM.row 0 rfl))).mono ?_; rintro e1 w1 ⟨rfl, hg⟩; replace hM := hM.call hg; clear hg)
    | (go_at_call 21; refine (Aborted_any (hM.perm (List.perm_middle (l₁ := [_, _, _]))) hsl' fr to).mono ?_; rintro e1 w1 ⟨Ag, cg, rfl, hM1⟩; clear hM; have hM := hM1; clear hM1; (try simp only [List.set_cons_succ, List.set_cons_zero] at hM))
    | (go_at_call 25; refine (RefAborted_any (hM.perm (List.perm_middle (l₁ := [_, _, _]))) hsl' fr to).mono ?_; rintro e1 w1 ⟨Ah, ch, rfl, hM1⟩; clear hM; have hM := hM1; clear hM1; (try simp only [List.set_cons_succ, List.set_cons_zero] at hM))
    | (go_at_call 24; refine (spans_same _ _ cg _ ch Ag Ah _ rfl rfl (Nat.le_trans (ab_len m fr to) (by omega)) (Reads.of_own (hM.row 2 rfl)) (Reads.of_own (hM.row 0 rfl))).mono ?_; rintro e1 w1 ⟨rfl, hg⟩; replace hM := hM.call hg; clear hg)
    | (go_at_call 17; refine (known12_any _).mono ?_; rintro e1 w1 ⟨rfl, hg⟩; replace hM := hM.call hg; clear hg))
  · go_ret
    exact ⟨rfl, hM.grow⟩
  · go_ret
    exact ⟨rfl, hM.grow⟩
end Go.Proofs.Ytechglhkcjgodaa
