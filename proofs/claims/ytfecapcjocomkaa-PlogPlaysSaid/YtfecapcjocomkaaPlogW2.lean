/- plog's laws: PlogPlays, PlogFrom. -/
import Derived.Test.YtfecapcjocomkaaPlogW1
import Derived.Test.YtfecapcjocomkaaPlogV1
namespace Go.Proofs.Ytfecapcjocomkaa
open Go.RowKit Go.MapKept
set_option linter.unusedSimpArgs false
set_option linter.unusedVariables false
attribute [local irreducible] wpList Code.wp GW Calls
set_option maxRecDepth 100000 in
set_option maxHeartbeats 8000000 in
theorem PlogPlays_any (w : World) (A : Option Addr) (n c : Nat) (l : List Doing) (vs : List Value) (h : DoR w A n l vs) (hn : n ≤ 2000000000000) : Calls Try.prog 10 #[.slice A n c] w fun e w' => e = .returned (.bool true) ∧ Grow w noOwn w' := by
  have hM := Mem.nil w noOwn
  go_enter Try.func10, Try.ntmps10
  go_wp2_with (first
    | (go_at_call 13; refine (long_any w A n c l vs h hn).mono ?_; rintro e1 w1 ⟨b, rfl, rfl⟩; cases b)
    | (go_at_call 14; refine (New_mem hM).mono ?_; rintro e1 w1 ⟨g, F, rfl, hM1⟩; clear hM; have hM := hM1; clear hM1; (try simp only [List.set_cons_succ, List.set_cons_zero] at hM))
    | (go_at_call 15; refine (NewR_mem hM).mono ?_; rintro e1 w1 ⟨g2, F2, rfl, hM1⟩; clear hM; have hM := hM1; clear hM1; (try simp only [List.set_cons_succ, List.set_cons_zero] at hM)))
  · have HM := hide hM
    go_loopw [5] (fun v wr => ∃ (k : Nat) (m : PL) (F F2 : Nat → Prop), k ≤ n ∧ k ≤ 80 ∧ v = .int .i64 k ∧ Mem w noOwn wr [.res F (LogP F g m), .res F2 (RefP F2 g2 m)] ∧ m.Ok ∧ m.spans.length ≤ k) (fun v _ => n - (intOf v).toNat)
    case atStart => exact ⟨0, PL.empty, F, F2, by omega, by omega, rfl, hM.perm (List.Perm.swap _ _ _), ok_empty, by simp [PL.empty]⟩
    case round =>
      obtain ⟨k, m, F, F2, hk, hk80, rfl, hM, ok, hsl⟩ := hrel
      have hsl' : m.spans.length ≤ 1000000 := by omega
      by_cases hlt : k < n ∧ k < 80
      · obtain ⟨hlt, h80⟩ := hlt
        obtain ⟨a, b, off, D, q, cq, rfl, hO, hqc, hbq, _⟩ := h.one k hlt
        have okm := ok_doing ok a
        have hsm := spans_doing m a
        go_wp2_with (first
          | ((with_reducible refine wl_shape ?_); first | (apply wl_boxa; exact rfl; exact hM; exact rfl; exact rfl; clear hM; intro gg ww hM; simp only [putT, List.set_cons_succ, List.set_cons_zero]) | (apply wl_box1; exact rfl; exact hM; exact rfl; exact rfl; exact rfl; clear hM; intro gg ww hM; simp only [putT, List.set_cons_succ, List.set_cons_zero]) | (apply wl_alloc; exact rfl; exact hM; exact rfl; exact inferInstance; clear hM; intro gg ww hM; simp only [putT, List.set_cons_succ, List.set_cons_zero]) | (apply wl_ld; exact rfl; exact hM; exact rfl; exact rfl; exact inferInstance; exact inferInstance; simp only [putT, List.set_cons_succ, List.set_cons_zero]) | (apply wl_lda; exact rfl; exact hM; exact rfl; exact rfl; exact inferInstance; exact inferInstance; exact inferInstance; exact inferInstance; simp only [putT, List.set_cons_succ, List.set_cons_zero]) | (apply wl_ldr; exact rfl; exact hM; exact rfl; exact rfl; exact inferInstance; exact inferInstance; exact inferInstance; exact inferInstance; simp only [putT, List.set_cons_succ, List.set_cons_zero]) | (apply wl_st; exact rfl; exact hM; exact rfl; exact rfl; exact rfl; exact rfl; exact inferInstance; exact inferInstance; clear hM; intro ww hM; simp only [putT, List.set_cons_succ, List.set_cons_zero]) | (apply wl_sta; exact rfl; exact hM; exact rfl; exact rfl; exact rfl; exact all_oneCell_toArray One.out; exact inferInstance; exact inferInstance; exact inferInstance; clear hM; intro ww hM; simp only [putT, List.set_cons_succ, List.set_cons_zero]) | (apply wl_bs0; exact rfl; exact hM; exact rfl; exact inferInstance; clear hM; intro gg ww hM; simp only [putT, List.set_cons_succ, List.set_cons_zero]) | (apply wl_bs1a; exact rfl; exact hM; exact rfl; exact inferInstance; exact rfl; exact inferInstance; clear hM; intro gg ww hM; simp only [putT, List.set_cons_succ, List.set_cons_zero]) | (apply wl_bs11; exact rfl; exact hM; exact rfl; exact inferInstance; exact rfl; exact rfl; clear hM; intro gg ww hM; simp only [putT, List.set_cons_succ, List.set_cons_zero]) | (apply wl_conv; exact rfl; exact hM; exact rfl; exact rfl; exact inferInstance; exact inferInstance; simp only [putT, List.set_cons_succ, List.set_cons_zero]))
          | (go_at_call 19; refine (act_any w _ noOwn [] _ _ g g2 m hM ok (by omega) a D q cq hqc hbq (fun _ _ _ e => e)).mono ?_; rintro e1 w1 ⟨rfl, F3, F4, hM1⟩; clear hM; have hM := hM1; clear hM1; (try simp only [List.set_cons_succ, List.set_cons_zero] at hM))
          | (go_at_call 29; refine (alike_any hM okm (by omega)).mono ?_; rintro e1 w1 ⟨rfl, hM1⟩; clear hM; have hM := hM1; clear hM1; (try simp only [List.set_cons_succ, List.set_cons_zero] at hM)))
        go_roundw
        case rel => exact ⟨k + 1, (m.doing a).1, F3, F4, by omega, by omega, by go_num, hM, okm, by omega⟩
        case measure => simp [intOf]; omega
      · have hor : n ≤ k ∨ (k < n ∧ 80 ≤ k) := by omega
        clear hlt
        rcases hor with hge | ⟨h1, hge⟩
        all_goals
          go_wp2_with (first | (go_at_call 20; refine (known_any _).mono ?_; rintro e1 w1 ⟨rfl, hg⟩; replace hM := hM.call hg; clear hg))
          go_ret
          exact ⟨rfl, hM.grow⟩
  · go_ret
    exact ⟨rfl, hM.grow⟩
end Go.Proofs.Ytfecapcjocomkaa
