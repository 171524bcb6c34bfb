/- plog's laws: PlogErrs. -/
import Derived.Test.YtfecapcjocomkaaPlogU
namespace Go.Proofs.Ytfecapcjocomkaa
open Go.RowKit Go.MapKept
set_option linter.unusedSimpArgs false
set_option linter.unusedVariables false
attribute [local irreducible] wpList Code.wp GW Calls

theorem doing_err (m : PL) (a : Doing) (h : (m.doing a).2 ≠ 0) : (m.doing a).1 = m := by
  unfold PL.doing at h ⊢
  split
  · rename_i h1
    rw [if_pos h1] at h
    unfold PL.learn at h ⊢
    split
    · rename_i h2; rw [if_pos h2] at h; exact absurd rfl h
    · rfl
  · rename_i h1
    rw [if_neg h1] at h
    split
    · rename_i h2
      rw [if_pos h2] at h
      revert h
      simp only
      unfold PL.append
      repeat' split
      all_goals (intro h; first | rfl | exact absurd rfl h)
    · rename_i h2
      rw [if_neg h2] at h
      revert h
      unfold PL.endd
      generalize (if a.c = true then (2 : Int) else 3) = kk
      repeat' split
      all_goals (intro h; first | rfl | exact absurd rfl h)
/-- What a script is at one place. -/
theorem DoR.one {w : World} {A : Option Addr} {n : Nat} {l : List Doing} {vs : List Value} (h : DoR w A n l vs) (k : Nat) (hk : k < n) :
    ∃ (a : Doing) (b off : Nat) (D : Option Addr) (q c : Nat), A = some ⟨b, off, none⟩ ∧ OldR w noOwn b (off + k * 7) (doVals a (.slice D q c)) ∧ q ≤ c ∧ Bytes w w.heap.size D q a.r.v ∧ l[k]? = some a := by
  have hkl : k < l.length := by rw [h.len]; exact hk
  obtain ⟨b, off, e, hb, hr⟩ := h.at_ k hkl
  obtain ⟨D, q, c, e1, h1, _, h2⟩ := h.vals k hkl
  rw [e1] at hr
  exact ⟨l[k], b, off, D, q, c, e, oldR_no hr hb, h1, h2, by simp [hkl]⟩
set_option maxRecDepth 100000 in
set_option maxHeartbeats 8000000 in
theorem PlogErrs_any (w : World) (A : Option Addr) (n c : Nat) (l : List Doing) (vs : List Value) (h : DoR w A n l vs) (hn : n ≤ 2000000000000) : Calls Try.prog 3 #[.slice A n c] w fun e w' => e = .returned (.bool true) ∧ Grow w noOwn w' := by
  have hM := Mem.nil w noOwn
  go_enter Try.func3, Try.ntmps3
  go_wp2_with (first
    | (go_at_call 13; refine (long_any w A n c l vs h hn).mono ?_; rintro e1 w1 ⟨b, rfl, rfl⟩; cases b)
    | (go_at_call 14; refine (New_mem hM).mono ?_; rintro e1 w1 ⟨g, F, rfl, hM1⟩; clear hM; have hM := hM1; clear hM1; (try simp only [List.set_cons_succ, List.set_cons_zero] at hM))
    | (go_at_call 15; refine (NewR_mem hM).mono ?_; rintro e1 w1 ⟨g2, F2, rfl, hM1⟩; clear hM; have hM := hM1; clear hM1; (try simp only [List.set_cons_succ, List.set_cons_zero] at hM)))
  · have HM := hide hM
    go_loopw [5] (fun v wr => ∃ (k : Nat) (m : PL) (F F2 : Nat → Prop), k ≤ n ∧ k ≤ 80 ∧ v = .int .i64 k ∧ Mem w noOwn wr [.res F (LogP F g m), .res F2 (RefP F2 g2 m)] ∧ m.Ok ∧ m.spans.length ≤ k) (fun v _ => n - (intOf v).toNat)
    case atStart => exact ⟨0, PL.empty, F, F2, by omega, by omega, rfl, hM.perm (List.Perm.swap _ _ _), ok_empty, by simp [PL.empty]⟩
    case round =>
      obtain ⟨k, m, F, F2, hk, hk80, rfl, hM, ok, hsl⟩ := hrel
      have hsl' : m.spans.length ≤ 1000000 := by omega
      by_cases hlt : k < n ∧ k < 80
      · obtain ⟨hlt, h80⟩ := hlt
        obtain ⟨a, b, off, D, q, cq, rfl, hO, hqc, hbq, _⟩ := h.one k hlt
        have okm := ok_doing ok a
        have hsm := spans_doing m a
        have herr := doing_err m a
        obtain ⟨m', hm'⟩ : ∃ m', m' = (m.doing a).1 := ⟨_, rfl⟩
        obtain ⟨er, her⟩ : ∃ er, er = (m.doing a).2 := ⟨_, rfl⟩
        rw [← hm'] at okm hsm herr
        rw [← her] at herr
        have hsm' : m'.spans.length ≤ 1000000 := by omega
        have H1 := hide hm'
        have H2 := hide her
        clear hm' her
        rcases (by by_cases h0 : er = 0; exact .inl h0; exact .inr ⟨h0, herr h0⟩ : er = 0 ∨ (er ≠ 0 ∧ m' = m)) with rfl | ⟨h0, rfl⟩
        · clear herr
          go_wp2_with (first
            | ((with_reducible refine wl_shape ?_); first | (apply wl_boxa; exact rfl; exact hM; exact rfl; exact rfl; clear hM; intro gg ww hM; simp only [putT, List.set_cons_succ, List.set_cons_zero]) | (apply wl_box1; exact rfl; exact hM; exact rfl; exact rfl; exact rfl; clear hM; intro gg ww hM; simp only [putT, List.set_cons_succ, List.set_cons_zero]) | (apply wl_alloc; exact rfl; exact hM; exact rfl; exact inferInstance; clear hM; intro gg ww hM; simp only [putT, List.set_cons_succ, List.set_cons_zero]) | (apply wl_ld; exact rfl; exact hM; exact rfl; exact rfl; exact inferInstance; exact inferInstance; simp only [putT, List.set_cons_succ, List.set_cons_zero]) | (apply wl_lda; exact rfl; exact hM; exact rfl; exact rfl; exact inferInstance; exact inferInstance; exact inferInstance; exact inferInstance; simp only [putT, List.set_cons_succ, List.set_cons_zero]) | (apply wl_ldr; exact rfl; exact hM; exact rfl; exact rfl; exact inferInstance; exact inferInstance; exact inferInstance; exact inferInstance; simp only [putT, List.set_cons_succ, List.set_cons_zero]) | (apply wl_st; exact rfl; exact hM; exact rfl; exact rfl; exact rfl; exact rfl; exact inferInstance; exact inferInstance; clear hM; intro ww hM; simp only [putT, List.set_cons_succ, List.set_cons_zero]) | (apply wl_sta; exact rfl; exact hM; exact rfl; exact rfl; exact rfl; exact all_oneCell_toArray One.out; exact inferInstance; exact inferInstance; exact inferInstance; clear hM; intro ww hM; simp only [putT, List.set_cons_succ, List.set_cons_zero]) | (apply wl_bs0; exact rfl; exact hM; exact rfl; exact inferInstance; clear hM; intro gg ww hM; simp only [putT, List.set_cons_succ, List.set_cons_zero]) | (apply wl_bs1a; exact rfl; exact hM; exact rfl; exact inferInstance; exact rfl; exact inferInstance; clear hM; intro gg ww hM; simp only [putT, List.set_cons_succ, List.set_cons_zero]) | (apply wl_bs11; exact rfl; exact hM; exact rfl; exact inferInstance; exact rfl; exact rfl; clear hM; intro gg ww hM; simp only [putT, List.set_cons_succ, List.set_cons_zero]) | (apply wl_conv; exact rfl; exact hM; exact rfl; exact rfl; exact inferInstance; exact inferInstance; simp only [putT, List.set_cons_succ, List.set_cons_zero]))
            | (go_at_call 16; refine (Len_mem 0 hM rfl).mono ?_; rintro e1 w1 ⟨rfl, hg⟩; replace hM := hM.call hg; clear hg)
            | (go_at_call 17; refine (Stable_mem 0 hM rfl hsl').mono ?_; rintro e1 w1 ⟨rfl, hg⟩; replace hM := hM.call hg; clear hg)
            | (go_at_call 18; refine (Spans_mem 0 hM rfl hsl').mono ?_; rintro e1 w1 ⟨As, cs, rfl, hg, hrs⟩; replace hM := hM.call hg; clear hg)
            | (go_at_call 19; refine (act_any w _ noOwn [] _ _ g g2 m hM ok (by omega) a D q cq hqc hbq (fun _ _ _ e => e)).mono ?_; rintro e1 w1 ⟨rfl, F3, F4, hM1⟩; clear hM; have hM := hM1; clear hM1; (try simp only [List.set_cons_succ, List.set_cons_zero] at hM); rw [← unhide H1] at hM; rw [← unhide H2]))
          go_roundw
          case rel => exact ⟨k + 1, m', F3, F4, by omega, by omega, by go_num, hM, okm, by omega⟩
          case measure => simp [intOf]; omega
        · have b1 := bne_iff_ne.2 h0
          clear herr
          go_wp2_with (first
            | ((with_reducible refine wl_shape ?_); first | (apply wl_boxa; exact rfl; exact hM; exact rfl; exact rfl; clear hM; intro gg ww hM; simp only [putT, List.set_cons_succ, List.set_cons_zero]) | (apply wl_box1; exact rfl; exact hM; exact rfl; exact rfl; exact rfl; clear hM; intro gg ww hM; simp only [putT, List.set_cons_succ, List.set_cons_zero]) | (apply wl_alloc; exact rfl; exact hM; exact rfl; exact inferInstance; clear hM; intro gg ww hM; simp only [putT, List.set_cons_succ, List.set_cons_zero]) | (apply wl_ld; exact rfl; exact hM; exact rfl; exact rfl; exact inferInstance; exact inferInstance; simp only [putT, List.set_cons_succ, List.set_cons_zero]) | (apply wl_lda; exact rfl; exact hM; exact rfl; exact rfl; exact inferInstance; exact inferInstance; exact inferInstance; exact inferInstance; simp only [putT, List.set_cons_succ, List.set_cons_zero]) | (apply wl_ldr; exact rfl; exact hM; exact rfl; exact rfl; exact inferInstance; exact inferInstance; exact inferInstance; exact inferInstance; simp only [putT, List.set_cons_succ, List.set_cons_zero]) | (apply wl_st; exact rfl; exact hM; exact rfl; exact rfl; exact rfl; exact rfl; exact inferInstance; exact inferInstance; clear hM; intro ww hM; simp only [putT, List.set_cons_succ, List.set_cons_zero]) | (apply wl_sta; exact rfl; exact hM; exact rfl; exact rfl; exact rfl; exact all_oneCell_toArray One.out; exact inferInstance; exact inferInstance; exact inferInstance; clear hM; intro ww hM; simp only [putT, List.set_cons_succ, List.set_cons_zero]) | (apply wl_bs0; exact rfl; exact hM; exact rfl; exact inferInstance; clear hM; intro gg ww hM; simp only [putT, List.set_cons_succ, List.set_cons_zero]) | (apply wl_bs1a; exact rfl; exact hM; exact rfl; exact inferInstance; exact rfl; exact inferInstance; clear hM; intro gg ww hM; simp only [putT, List.set_cons_succ, List.set_cons_zero]) | (apply wl_bs11; exact rfl; exact hM; exact rfl; exact inferInstance; exact rfl; exact rfl; clear hM; intro gg ww hM; simp only [putT, List.set_cons_succ, List.set_cons_zero]) | (apply wl_conv; exact rfl; exact hM; exact rfl; exact rfl; exact inferInstance; exact inferInstance; simp only [putT, List.set_cons_succ, List.set_cons_zero]))
            | (go_at_call 16; refine (Len_mem 0 hM rfl).mono ?_; rintro e1 w1 ⟨rfl, hg⟩; replace hM := hM.call hg; clear hg)
            | (go_at_call 17; refine (Stable_mem 0 hM rfl hsl').mono ?_; rintro e1 w1 ⟨rfl, hg⟩; replace hM := hM.call hg; clear hg)
            | (go_at_call 18; refine (Spans_mem 0 hM rfl hsl').mono ?_; rintro e1 w1 ⟨As, cs, rfl, hg, hrs⟩; replace hM := hM.call hg; clear hg)
            | (go_at_call 19; refine (act_any w _ noOwn [] _ _ g g2 m' hM ok (by omega) a D q cq hqc hbq (fun _ _ _ e => e)).mono ?_; rintro e1 w1 ⟨rfl, F3, F4, hM1⟩; clear hM; have hM := hM1; clear hM1; (try simp only [List.set_cons_succ, List.set_cons_zero] at hM); rw [← unhide H1] at hM; rw [← unhide H2]))
          go_roundw
          case rel => exact ⟨k + 1, m', F3, F4, by omega, by omega, by go_num, hM, okm, by omega⟩
          case measure => simp [intOf]; omega
      · have hor : n ≤ k ∨ (k < n ∧ 80 ≤ k) := by omega
        clear hlt
        rcases hor with hge | ⟨h1, hge⟩
        all_goals
          go_wp2_with (first | (go_at_call 20; refine (known_any _).mono ?_; rintro e1 w1 ⟨rfl, hg⟩; replace hM := hM.call hg; clear hg))
          go_ret
          exact ⟨rfl, hM.grow⟩
  · go_ret
    exact ⟨rfl, hM.grow⟩
end Go.Proofs.Ytfecapcjocomkaa
