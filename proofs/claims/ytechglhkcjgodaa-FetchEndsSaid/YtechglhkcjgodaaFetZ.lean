/- fetch's laws: FetchEnds, the walk. -/
import Derived.Test.YtechglhkcjgodaaFetY
namespace Go.Proofs.Ytechglhkcjgodaa
open Go.RowKit Go.MapKept
set_option linter.unusedSimpArgs false
set_option linter.unusedVariables false
attribute [local irreducible] wpList Code.wp GW Calls
theorem first_learn : (PL.empty.learn 0 0).1 = ⟨[], [], [0, -1, -1, -1, -1, -1, -1, -1]⟩ := by decide +kernel
theorem first_ok : PL.Ok ⟨[], [], [0, -1, -1, -1, -1, -1, -1, -1]⟩ := by rw [← first_learn]; exact ok_learn ok_empty _ _
theorem next_learn : (PL.learn ⟨[], [], [0, -1, -1, -1, -1, -1, -1, -1]⟩ 1 0).1 = en 0 false := by decide +kernel
theorem other_app : ((en 0 false).append ⟨1, 0, 1, 0, []⟩).1 = ⟨[⟨1, 0, 1, 0, []⟩], [⟨1, 0, 1, 0, 0⟩], [0, 0, -1, -1, -1, -1, -1, -1]⟩ := by decide +kernel
theorem other_end : (PL.endd ⟨[⟨1, 0, 1, 0, []⟩], [⟨1, 0, 1, 0, 0⟩], [0, 0, -1, -1, -1, -1, -1, -1]⟩ 1 0 1 true).1 = en 0 true := by decide +kernel
theorem row_at3 {w : World} {g c : Nat} {p e t f k : Int} (h : w.ownsRow 0 39 5 (.slice (some ⟨g, 0, none⟩) 1 c) 1 (spnCells [⟨p, e, t, f, k⟩])) : w.cell? ⟨g, 3, none⟩ = some (.int .i64 f) := by
  obtain ⟨b, off, e1, _, hc⟩ := (Reads.of_own h).form (by decide) (by decide)
  injection e1 with e1
  injection e1 with e1 e2 _
  subst e1
  subst e2
  have := hc 3 (.int .i64 f) rfl
  rwa [Nat.zero_add] at this
set_option maxRecDepth 100000 in
set_option maxHeartbeats 8000000 in
theorem FetchEnds_any (w : World) (n kd : Int) (o : Bool) : Calls Try.prog 7 #[.int .i64 n, .int .i64 kd, .bool o] w fun e w' => e = .returned (.bool true) ∧ Grow w noOwn w' := by
  have hM := Mem.nil w noOwn
  by_cases hin : 1 ≤ n ∧ n ≤ 30 ∧ 0 ≤ kd ∧ kd ≤ 2
  · obtain ⟨h1, h2, h3, h4⟩ := hin
    obtain ⟨N, rfl⟩ : ∃ N : Nat, n = N := ⟨n.toNat, by omega⟩
    obtain ⟨K, rfl⟩ : ∃ K : Nat, kd = K := ⟨kd.toNat, by omega⟩
    have hN1 : 1 ≤ N := by omega
    have hN2 : N ≤ 30 := by omega
    have hK : K ≤ 2 := by omega
    clear h1 h2 h3 h4
    obtain ⟨kk, hkk⟩ : ∃ kk, kk = enK o := ⟨_, rfl⟩
    obtain ⟨e1, e2, e3, e4⟩ := en_all K N o hN1 hN2 hK
    have hk0 : (en 0 o).recs.length = kk := by rw [en_recs 0 o, hkk]; rfl
    rw [← hkk] at e1 e2 e3 e4
    have hk1 : kk ≤ 1 := by rw [hkk]; unfold enK; split <;> omega
    replace e1 := hide e1
    replace e2 := hide e2
    replace e3 := hide e3
    replace e4 := hide e4
    clear hkk
    have main : ∀ o2, o2 = o → Calls Try.prog 7 #[.int .i64 N, .int .i64 K, .bool o2] w fun e w' => e = .returned (.bool true) ∧ Grow w noOwn w' := by
      intro o2 ho
      cases o2
      all_goals
        rw [← ho] at hk0
        have HO := hide ho
        clear ho
        go_enter Try.func7, Try.ntmps7
        go_wp2_with (first
          | ((with_reducible refine wl_shape ?_); first | (apply wl_boxa; exact rfl; exact hM; exact rfl; exact rfl; clear hM; intro gg ww hM; simp only [putT, List.set_cons_succ, List.set_cons_zero]) | (apply wl_box1; exact rfl; exact hM; exact rfl; exact rfl; exact rfl; clear hM; intro gg ww hM; simp only [putT, List.set_cons_succ, List.set_cons_zero]) | (apply wl_alloc; exact rfl; exact hM; exact rfl; exact inferInstance; clear hM; intro gg ww hM; simp only [putT, List.set_cons_succ, List.set_cons_zero]) | (apply wl_ld; exact rfl; exact hM; exact rfl; exact rfl; exact inferInstance; exact inferInstance; simp only [putT, List.set_cons_succ, List.set_cons_zero]) | (apply wl_lda; exact rfl; exact hM; exact rfl; exact rfl; exact inferInstance; exact inferInstance; exact inferInstance; exact inferInstance; simp only [putT, List.set_cons_succ, List.set_cons_zero]) | (apply wl_ldr; exact rfl; exact hM; exact rfl; exact rfl; exact inferInstance; exact inferInstance; exact inferInstance; exact inferInstance; simp only [putT, List.set_cons_succ, List.set_cons_zero]) | (apply wl_st; exact rfl; exact hM; exact rfl; exact rfl; exact rfl; exact rfl; exact inferInstance; exact inferInstance; clear hM; intro ww hM; simp only [putT, List.set_cons_succ, List.set_cons_zero]) | (apply wl_sta; exact rfl; exact hM; exact rfl; exact rfl; exact rfl; exact all_oneCell_toArray One.out; exact inferInstance; exact inferInstance; exact inferInstance; clear hM; intro ww hM; simp only [putT, List.set_cons_succ, List.set_cons_zero]) | (apply wl_bs0; exact rfl; exact hM; exact rfl; exact inferInstance; clear hM; intro gg ww hM; simp only [putT, List.set_cons_succ, List.set_cons_zero]) | (apply wl_bs1a; exact rfl; exact hM; exact rfl; exact inferInstance; exact rfl; exact inferInstance; clear hM; intro gg ww hM; simp only [putT, List.set_cons_succ, List.set_cons_zero]) | (apply wl_bs11; exact rfl; exact hM; exact rfl; exact inferInstance; exact rfl; exact rfl; clear hM; intro gg ww hM; simp only [putT, List.set_cons_succ, List.set_cons_zero]) | (apply wl_conv; exact rfl; exact hM; exact rfl; exact rfl; exact inferInstance; exact inferInstance; simp only [putT, List.set_cons_succ, List.set_cons_zero]))
          | (go_at_call 26; refine (New_mem hM).mono ?_; rintro e1 w1 ⟨g, F, rfl, hM1⟩; clear hM; have hM := hM1; clear hM1; (try simp only [List.set_cons_succ, List.set_cons_zero] at hM))
          | (go_at_call 27; refine (Learn_to hM ok_empty first_learn).mono ?_; rintro e1 w1 ⟨⟨z1, rfl⟩, F1, hM1⟩; clear hM; have hM := hM1; clear hM1; (try simp only [List.set_cons_succ, List.set_cons_zero] at hM))
          | (go_at_call 27; refine (Learn_to hM first_ok next_learn).mono ?_; rintro e1 w1 ⟨⟨z1, rfl⟩, F1, hM1⟩; clear hM; have hM := hM1; clear hM1; (try simp only [List.set_cons_succ, List.set_cons_zero] at hM))
          | (go_at_call 28; refine (Append_none hM (en_ok false 0 (by decide)) (Nat.le_trans (en_spans 0 false) (by decide)) other_app).mono ?_; rintro e5 w1 ⟨⟨y1, z1, rfl⟩, F1, hM1⟩; clear hM; have hM := hM1; clear hM1; (try simp only [List.set_cons_succ, List.set_cons_zero] at hM))
          | (go_at_call 29; refine (End_to hM (by decide) other_end).mono ?_; rintro e1 w1 ⟨⟨z1, rfl⟩, F1, hM1⟩; clear hM; have hM := hM1; clear hM1; (try simp only [List.set_cons_succ, List.set_cons_zero] at hM))
          | (go_at_call 30; refine (Len_to 0 hM rfl hk0).mono ?_; rintro e1 w1 ⟨rfl, hg⟩; replace hM := hM.call hg; clear hg))
        rw [unhide HO] at hM
        clear hk0 HO
        have HM := hide hM
        go_loopw [9] (fun ui wr => ∃ (i : Nat) (F : Nat → Prop), i ≤ N ∧ ui = .int .i64 i ∧ Mem w noOwn wr [.res F (LogP F g (en i o))]) (fun ui _ => N - (intOf ui).toNat)
        case atStart => exact ⟨0, _, Nat.zero_le _, rfl, hM⟩
        case round =>
          clear hM HM
          obtain ⟨i, F, hi, rfl, hM⟩ := hrel
          by_cases hlt : i < N
          · have oki := en_ok o i (by omega)
            have osp : (en i o).spans.length ≤ 1000000 := Nat.le_trans (en_spans i o) (by decide)
            have onx := hide (en_next i (by omega) o)
            go_wp2_with (first
              | ((with_reducible refine wl_shape ?_); first | (apply wl_boxa; exact rfl; exact hM; exact rfl; exact rfl; clear hM; intro gg ww hM; simp only [putT, List.set_cons_succ, List.set_cons_zero]) | (apply wl_box1; exact rfl; exact hM; exact rfl; exact rfl; exact rfl; clear hM; intro gg ww hM; simp only [putT, List.set_cons_succ, List.set_cons_zero]) | (apply wl_alloc; exact rfl; exact hM; exact rfl; exact inferInstance; clear hM; intro gg ww hM; simp only [putT, List.set_cons_succ, List.set_cons_zero]) | (apply wl_ld; exact rfl; exact hM; exact rfl; exact rfl; exact inferInstance; exact inferInstance; simp only [putT, List.set_cons_succ, List.set_cons_zero]) | (apply wl_lda; exact rfl; exact hM; exact rfl; exact rfl; exact inferInstance; exact inferInstance; exact inferInstance; exact inferInstance; simp only [putT, List.set_cons_succ, List.set_cons_zero]) | (apply wl_ldr; exact rfl; exact hM; exact rfl; exact rfl; exact inferInstance; exact inferInstance; exact inferInstance; exact inferInstance; simp only [putT, List.set_cons_succ, List.set_cons_zero]) | (apply wl_st; exact rfl; exact hM; exact rfl; exact rfl; exact rfl; exact rfl; exact inferInstance; exact inferInstance; clear hM; intro ww hM; simp only [putT, List.set_cons_succ, List.set_cons_zero]) | (apply wl_sta; exact rfl; exact hM; exact rfl; exact rfl; exact rfl; exact all_oneCell_toArray One.out; exact inferInstance; exact inferInstance; exact inferInstance; clear hM; intro ww hM; simp only [putT, List.set_cons_succ, List.set_cons_zero]) | (apply wl_bs0; exact rfl; exact hM; exact rfl; exact inferInstance; clear hM; intro gg ww hM; simp only [putT, List.set_cons_succ, List.set_cons_zero]) | (apply wl_bs1a; exact rfl; exact hM; exact rfl; exact inferInstance; exact rfl; exact inferInstance; clear hM; intro gg ww hM; simp only [putT, List.set_cons_succ, List.set_cons_zero]) | (apply wl_bs11; exact rfl; exact hM; exact rfl; exact inferInstance; exact rfl; exact rfl; clear hM; intro gg ww hM; simp only [putT, List.set_cons_succ, List.set_cons_zero]) | (apply wl_conv; exact rfl; exact hM; exact rfl; exact rfl; exact inferInstance; exact inferInstance; simp only [putT, List.set_cons_succ, List.set_cons_zero]))
              | (go_at_call 28; refine (Append_row1 (n := i) hM oki osp (by omega) (unhide onx)).mono ?_; rintro e5 w1 ⟨⟨y1, z1, rfl⟩, F1, hM1⟩; clear hM; have hM := hM1; clear hM1; (try simp only [List.set_cons_succ, List.set_cons_zero] at hM)))
            go_roundw
            case rel => exact ⟨i + 1, F1, by omega, by go_num, hM⟩
            case measure => simp [intOf]; omega
          · have e : N = i := by omega
            subst e
            rcases (by omega : K = 0 ∨ K = 1 ∨ K = 2) with rfl | rfl | rfl
            · have hM2 : Mem w noOwn _ [.res F (LogP F g (enF 0 N o))] := hM
              clear hM
              have hM := hM2
              clear hM2
              replace e1 := hide ((unhide e1).trans (if_neg (by decide)))
              replace e2 := hide ((unhide e2).trans (if_pos (by decide)))
              replace e3 := hide ((unhide e3).trans (if_neg (by decide)))
              go_wp2_with (first
                | ((with_reducible refine wl_shape ?_); first | (apply wl_boxa; exact rfl; exact hM; exact rfl; exact rfl; clear hM; intro gg ww hM; simp only [putT, List.set_cons_succ, List.set_cons_zero]) | (apply wl_box1; exact rfl; exact hM; exact rfl; exact rfl; exact rfl; clear hM; intro gg ww hM; simp only [putT, List.set_cons_succ, List.set_cons_zero]) | (apply wl_alloc; exact rfl; exact hM; exact rfl; exact inferInstance; clear hM; intro gg ww hM; simp only [putT, List.set_cons_succ, List.set_cons_zero]) | (apply wl_ld; exact rfl; exact hM; exact rfl; exact rfl; exact inferInstance; exact inferInstance; simp only [putT, List.set_cons_succ, List.set_cons_zero]) | (apply wl_lda; exact rfl; exact hM; exact rfl; exact rfl; exact inferInstance; exact inferInstance; exact inferInstance; exact inferInstance; simp only [putT, List.set_cons_succ, List.set_cons_zero]) | (apply wl_ldr; exact rfl; exact hM; exact rfl; exact rfl; exact inferInstance; exact inferInstance; exact inferInstance; exact inferInstance; simp only [putT, List.set_cons_succ, List.set_cons_zero]) | (apply wl_st; exact rfl; exact hM; exact rfl; exact rfl; exact rfl; exact rfl; exact inferInstance; exact inferInstance; clear hM; intro ww hM; simp only [putT, List.set_cons_succ, List.set_cons_zero]) | (apply wl_sta; exact rfl; exact hM; exact rfl; exact rfl; exact rfl; exact all_oneCell_toArray One.out; exact inferInstance; exact inferInstance; exact inferInstance; clear hM; intro ww hM; simp only [putT, List.set_cons_succ, List.set_cons_zero]) | (apply wl_bs0; exact rfl; exact hM; exact rfl; exact inferInstance; clear hM; intro gg ww hM; simp only [putT, List.set_cons_succ, List.set_cons_zero]) | (apply wl_bs1a; exact rfl; exact hM; exact rfl; exact inferInstance; exact rfl; exact inferInstance; clear hM; intro gg ww hM; simp only [putT, List.set_cons_succ, List.set_cons_zero]) | (apply wl_bs11; exact rfl; exact hM; exact rfl; exact inferInstance; exact rfl; exact rfl; clear hM; intro gg ww hM; simp only [putT, List.set_cons_succ, List.set_cons_zero]) | (apply wl_conv; exact rfl; exact hM; exact rfl; exact rfl; exact inferInstance; exact inferInstance; simp only [putT, List.set_cons_succ, List.set_cons_zero]))
                | (go_at_call 12; refine (Com_to hM (enF_ok 0 N o hN2) (Nat.le_trans (enF_spans 0 N o) (by decide)) (unhide e1) (unhide e2)).mono ?_; rintro e5 w1 ⟨Ac, cc, rfl, hM1⟩; clear hM; have hM := hM1; clear hM1; (try simp only [List.set_cons_succ, List.set_cons_zero] at hM)) | (go_at_call 21; refine (Abo_to hM (Nat.le_trans (enF_spans 0 N o) (by decide)) (unhide e3)).mono ?_; rintro e5 w1 ⟨As, cs, rfl, hM1⟩; clear hM; have hM := hM1; clear hM1; (try simp only [List.set_cons_succ, List.set_cons_zero] at hM); skip) | (go_at_call 30; refine (Len_to 1 hM rfl (unhide e4)).mono ?_; rintro e1 w1 ⟨rfl, hg⟩; replace hM := hM.call hg; clear hg) | (go_at_call 17; refine (known12_any _).mono ?_; rintro e1 w1 ⟨rfl, hg⟩; replace hM := hM.call hg; clear hg))
              go_ret
              exact ⟨rfl, hM.grow⟩
            · replace e1 := hide ((unhide e1).trans (if_pos (by decide)))
              replace e2 := hide ((unhide e2).trans (if_neg (by decide)))
              replace e3 := hide ((unhide e3).trans (if_neg (by decide)))
              go_wp2_with (first
                | ((with_reducible refine wl_shape ?_); first | (apply wl_boxa; exact rfl; exact hM; exact rfl; exact rfl; clear hM; intro gg ww hM; simp only [putT, List.set_cons_succ, List.set_cons_zero]) | (apply wl_box1; exact rfl; exact hM; exact rfl; exact rfl; exact rfl; clear hM; intro gg ww hM; simp only [putT, List.set_cons_succ, List.set_cons_zero]) | (apply wl_alloc; exact rfl; exact hM; exact rfl; exact inferInstance; clear hM; intro gg ww hM; simp only [putT, List.set_cons_succ, List.set_cons_zero]) | (apply wl_ld; exact rfl; exact hM; exact rfl; exact rfl; exact inferInstance; exact inferInstance; simp only [putT, List.set_cons_succ, List.set_cons_zero]) | (apply wl_lda; exact rfl; exact hM; exact rfl; exact rfl; exact inferInstance; exact inferInstance; exact inferInstance; exact inferInstance; simp only [putT, List.set_cons_succ, List.set_cons_zero]) | (apply wl_ldr; exact rfl; exact hM; exact rfl; exact rfl; exact inferInstance; exact inferInstance; exact inferInstance; exact inferInstance; simp only [putT, List.set_cons_succ, List.set_cons_zero]) | (apply wl_st; exact rfl; exact hM; exact rfl; exact rfl; exact rfl; exact rfl; exact inferInstance; exact inferInstance; clear hM; intro ww hM; simp only [putT, List.set_cons_succ, List.set_cons_zero]) | (apply wl_sta; exact rfl; exact hM; exact rfl; exact rfl; exact rfl; exact all_oneCell_toArray One.out; exact inferInstance; exact inferInstance; exact inferInstance; clear hM; intro ww hM; simp only [putT, List.set_cons_succ, List.set_cons_zero]) | (apply wl_bs0; exact rfl; exact hM; exact rfl; exact inferInstance; clear hM; intro gg ww hM; simp only [putT, List.set_cons_succ, List.set_cons_zero]) | (apply wl_bs1a; exact rfl; exact hM; exact rfl; exact inferInstance; exact rfl; exact inferInstance; clear hM; intro gg ww hM; simp only [putT, List.set_cons_succ, List.set_cons_zero]) | (apply wl_bs11; exact rfl; exact hM; exact rfl; exact inferInstance; exact rfl; exact rfl; clear hM; intro gg ww hM; simp only [putT, List.set_cons_succ, List.set_cons_zero]) | (apply wl_conv; exact rfl; exact hM; exact rfl; exact rfl; exact inferInstance; exact inferInstance; simp only [putT, List.set_cons_succ, List.set_cons_zero]))
                | (go_at_call 29; refine (End_to hM (Nat.le_trans (en_spans N o) (by decide)) (rfl : _ = enF 1 N o)).mono ?_; rintro e1 w1 ⟨⟨z1, rfl⟩, F1, hM1⟩; clear hM; have hM := hM1; clear hM1; (try simp only [List.set_cons_succ, List.set_cons_zero] at hM))
                | (go_at_call 12; refine (Com_to hM (enF_ok 1 N o hN2) (Nat.le_trans (enF_spans 1 N o) (by decide)) (unhide e1) (unhide e2)).mono ?_; rintro e5 w1 ⟨Ac, cc, rfl, hM1⟩; clear hM; have hM := hM1; clear hM1; (try simp only [List.set_cons_succ, List.set_cons_zero] at hM)) | (go_at_call 21; refine (Abo_to hM (Nat.le_trans (enF_spans 1 N o) (by decide)) (unhide e3)).mono ?_; rintro e5 w1 ⟨As, cs, rfl, hM1⟩; clear hM; have hM := hM1; clear hM1; (try simp only [List.set_cons_succ, List.set_cons_zero] at hM); skip) | (go_at_call 30; refine (Len_to 1 hM rfl (unhide e4)).mono ?_; rintro e1 w1 ⟨rfl, hg⟩; replace hM := hM.call hg; clear hg) | (go_at_call 17; refine (known12_any _).mono ?_; rintro e1 w1 ⟨rfl, hg⟩; replace hM := hM.call hg; clear hg))
              go_ret
              exact ⟨rfl, hM.grow⟩
            · replace e1 := hide ((unhide e1).trans (if_neg (by decide)))
              replace e2 := hide ((unhide e2).trans (if_neg (by decide)))
              replace e3 := hide ((unhide e3).trans (if_pos (by decide)))
              go_wp2_with (first
                | ((with_reducible refine wl_shape ?_); first | (apply wl_boxa; exact rfl; exact hM; exact rfl; exact rfl; clear hM; intro gg ww hM; simp only [putT, List.set_cons_succ, List.set_cons_zero]) | (apply wl_box1; exact rfl; exact hM; exact rfl; exact rfl; exact rfl; clear hM; intro gg ww hM; simp only [putT, List.set_cons_succ, List.set_cons_zero]) | (apply wl_alloc; exact rfl; exact hM; exact rfl; exact inferInstance; clear hM; intro gg ww hM; simp only [putT, List.set_cons_succ, List.set_cons_zero]) | (apply wl_ld; exact rfl; exact hM; exact rfl; exact rfl; exact inferInstance; exact inferInstance; simp only [putT, List.set_cons_succ, List.set_cons_zero]) | (apply wl_lda; exact rfl; exact hM; exact rfl; exact rfl; exact inferInstance; exact inferInstance; exact inferInstance; exact inferInstance; simp only [putT, List.set_cons_succ, List.set_cons_zero]) | (apply wl_ldr; exact rfl; exact hM; exact rfl; exact rfl; exact inferInstance; exact inferInstance; exact inferInstance; exact inferInstance; simp only [putT, List.set_cons_succ, List.set_cons_zero]) | (apply wl_st; exact rfl; exact hM; exact rfl; exact rfl; exact rfl; exact rfl; exact inferInstance; exact inferInstance; clear hM; intro ww hM; simp only [putT, List.set_cons_succ, List.set_cons_zero]) | (apply wl_sta; exact rfl; exact hM; exact rfl; exact rfl; exact rfl; exact all_oneCell_toArray One.out; exact inferInstance; exact inferInstance; exact inferInstance; clear hM; intro ww hM; simp only [putT, List.set_cons_succ, List.set_cons_zero]) | (apply wl_bs0; exact rfl; exact hM; exact rfl; exact inferInstance; clear hM; intro gg ww hM; simp only [putT, List.set_cons_succ, List.set_cons_zero]) | (apply wl_bs1a; exact rfl; exact hM; exact rfl; exact inferInstance; exact rfl; exact inferInstance; clear hM; intro gg ww hM; simp only [putT, List.set_cons_succ, List.set_cons_zero]) | (apply wl_bs11; exact rfl; exact hM; exact rfl; exact inferInstance; exact rfl; exact rfl; clear hM; intro gg ww hM; simp only [putT, List.set_cons_succ, List.set_cons_zero]) | (apply wl_conv; exact rfl; exact hM; exact rfl; exact rfl; exact inferInstance; exact inferInstance; simp only [putT, List.set_cons_succ, List.set_cons_zero]))
                | (go_at_call 29; refine (End_to hM (Nat.le_trans (en_spans N o) (by decide)) (rfl : _ = enF 2 N o)).mono ?_; rintro e1 w1 ⟨⟨z1, rfl⟩, F1, hM1⟩; clear hM; have hM := hM1; clear hM1; (try simp only [List.set_cons_succ, List.set_cons_zero] at hM))
                | (go_at_call 12; refine (Com_to hM (enF_ok 2 N o hN2) (Nat.le_trans (enF_spans 2 N o) (by decide)) (unhide e1) (unhide e2)).mono ?_; rintro e5 w1 ⟨Ac, cc, rfl, hM1⟩; clear hM; have hM := hM1; clear hM1; (try simp only [List.set_cons_succ, List.set_cons_zero] at hM)) | (go_at_call 21; refine (Abo_to hM (Nat.le_trans (enF_spans 2 N o) (by decide)) (unhide e3)).mono ?_; rintro e5 w1 ⟨As, cs, rfl, hM1⟩; clear hM; have hM := hM1; clear hM1; (try simp only [List.set_cons_succ, List.set_cons_zero] at hM); obtain ⟨g7, rfl, _⟩ := row_some (hM.row 0 rfl) Nat.zero_lt_one; have c3 : ∀ (L' : List Item) [HasRow L' (.slice (some ⟨g7, 0, none⟩) 1 cs) 39 5 1 (spnCells [⟨0, 0, 1, (kk : Nat), 3⟩])], Cell w noOwn L' ⟨g7, 3, none⟩ (.int .i64 kk) := fun L' h => ⟨fun w hM => row_at3 (hM.has _ h.out)⟩) | (go_at_call 30; refine (Len_to 1 hM rfl (unhide e4)).mono ?_; rintro e1 w1 ⟨rfl, hg⟩; replace hM := hM.call hg; clear hg) | (go_at_call 17; refine (known12_any _).mono ?_; rintro e1 w1 ⟨rfl, hg⟩; replace hM := hM.call hg; clear hg))
              go_ret
              exact ⟨rfl, hM.grow⟩
    exact main o rfl
  · rcases (by omega : n < 1 ∨ (1 ≤ n ∧ 30 < n) ∨ (1 ≤ n ∧ n ≤ 30 ∧ kd < 0) ∨ (1 ≤ n ∧ n ≤ 30 ∧ 0 ≤ kd ∧ 2 < kd)) with hx | ⟨hx1, hx2⟩ | ⟨hx1, hx2, hx3⟩ | ⟨hx1, hx2, hx3, hx4⟩
    all_goals
      clear hin
      go_enter Try.func7, Try.ntmps7
      go_wp2_with (go_at_call 17; refine (known12_any _).mono ?_; rintro e1 w1 ⟨rfl, hg⟩; replace hM := hM.call hg; clear hg)
      go_ret
      exact ⟨rfl, hM.grow⟩
end Go.Proofs.Ytechglhkcjgodaa
