/- plog's laws: PlogOnce, the walk. -/
import Derived.Test.YtfecapcjocomkaaPlogW4
namespace Go.Proofs.Ytfecapcjocomkaa
open Go.RowKit Go.MapKept
set_option linter.unusedSimpArgs false
set_option linter.unusedVariables false
attribute [local irreducible] wpList Code.wp GW Calls
set_option maxRecDepth 100000 in
set_option maxHeartbeats 8000000 in
theorem PlogOnce_any (w : World) (A : Option Addr) (n c : Nat) (x : Int) (l : List Doing) (vs : List Value) (h : DoR w A n l vs) (hn : n ≤ 2000000000000) : Calls Try.prog 11 #[.slice A n c, .int .i64 x] w fun e w' => e = .returned (.bool true) ∧ Grow w noOwn w' := by
  have hM := Mem.nil w noOwn
  go_enter Try.func11, Try.ntmps11
  go_wp2_with (first
    | (go_at_call 13; refine (long_any w A n c l vs h hn).mono ?_; rintro e1 w1 ⟨b, rfl, rfl⟩; cases b)
    | (go_at_call 14; refine (New_mem hM).mono ?_; rintro e1 w1 ⟨g, F, rfl, hM1⟩; clear hM; have hM := hM1; clear hM1; (try simp only [List.set_cons_succ, List.set_cons_zero] at hM))
    | (go_at_call 15; refine (NewR_mem hM).mono ?_; rintro e1 w1 ⟨g2, F2, rfl, hM1⟩; clear hM; have hM := hM1; clear hM1; (try simp only [List.set_cons_succ, List.set_cons_zero] at hM)))
  · have HM := hide hM
    go_loopw [7] (fun v wr => ∃ (k : Nat) (m : PL) (F F2 : Nat → Prop), k ≤ n ∧ k ≤ 80 ∧ v = .int .i64 k ∧ Mem w noOwn wr [.res F (LogP F g m), .res F2 (RefP F2 g2 m)] ∧ m.Ok ∧ m.OkE ∧ m.spans.length ≤ k) (fun v _ => n - (intOf v).toNat)
    case atStart => exact ⟨0, PL.empty, F, F2, by omega, by omega, rfl, hM.perm (List.Perm.swap _ _ _), ok_empty, oke_empty, by simp [PL.empty]⟩
    case round =>
      obtain ⟨k, m, F, F2, hk, hk80, rfl, hM, ok, oke, hsl⟩ := hrel
      have hsl' : m.spans.length ≤ 1000000 := by omega
      by_cases hlt : k < n ∧ k < 80
      · obtain ⟨hlt, h80⟩ := hlt
        obtain ⟨a, b, off, D, q, cq, rfl, hO, hqc, hbq, _⟩ := h.one k hlt
        have okm := ok_doing ok a
        have okem := oke_doing oke a
        have hsm := spans_doing m a
        go_wp2_with (first
          | ((with_reducible refine wl_shape ?_); first | (apply wl_boxa; exact rfl; exact hM; exact rfl; exact rfl; clear hM; intro gg ww hM; simp only [putT, List.set_cons_succ, List.set_cons_zero]) | (apply wl_box1; exact rfl; exact hM; exact rfl; exact rfl; exact rfl; clear hM; intro gg ww hM; simp only [putT, List.set_cons_succ, List.set_cons_zero]) | (apply wl_alloc; exact rfl; exact hM; exact rfl; exact inferInstance; clear hM; intro gg ww hM; simp only [putT, List.set_cons_succ, List.set_cons_zero]) | (apply wl_ld; exact rfl; exact hM; exact rfl; exact rfl; exact inferInstance; exact inferInstance; simp only [putT, List.set_cons_succ, List.set_cons_zero]) | (apply wl_lda; exact rfl; exact hM; exact rfl; exact rfl; exact inferInstance; exact inferInstance; exact inferInstance; exact inferInstance; simp only [putT, List.set_cons_succ, List.set_cons_zero]) | (apply wl_ldr; exact rfl; exact hM; exact rfl; exact rfl; exact inferInstance; exact inferInstance; exact inferInstance; exact inferInstance; simp only [putT, List.set_cons_succ, List.set_cons_zero]) | (apply wl_st; exact rfl; exact hM; exact rfl; exact rfl; exact rfl; exact rfl; exact inferInstance; exact inferInstance; clear hM; intro ww hM; simp only [putT, List.set_cons_succ, List.set_cons_zero]) | (apply wl_sta; exact rfl; exact hM; exact rfl; exact rfl; exact rfl; exact all_oneCell_toArray One.out; exact inferInstance; exact inferInstance; exact inferInstance; clear hM; intro ww hM; simp only [putT, List.set_cons_succ, List.set_cons_zero]) | (apply wl_bs0; exact rfl; exact hM; exact rfl; exact inferInstance; clear hM; intro gg ww hM; simp only [putT, List.set_cons_succ, List.set_cons_zero]) | (apply wl_bs1a; exact rfl; exact hM; exact rfl; exact inferInstance; exact rfl; exact inferInstance; clear hM; intro gg ww hM; simp only [putT, List.set_cons_succ, List.set_cons_zero]) | (apply wl_bs11; exact rfl; exact hM; exact rfl; exact inferInstance; exact rfl; exact rfl; clear hM; intro gg ww hM; simp only [putT, List.set_cons_succ, List.set_cons_zero]) | (apply wl_conv; exact rfl; exact hM; exact rfl; exact rfl; exact inferInstance; exact inferInstance; simp only [putT, List.set_cons_succ, List.set_cons_zero]))
          | (go_at_call 19; refine (act_any w _ noOwn [] _ _ g g2 m hM ok (by omega) a D q cq hqc hbq (fun _ _ _ e => e)).mono ?_; rintro e1 w1 ⟨rfl, F3, F4, hM1⟩; clear hM; have hM := hM1; clear hM1; (try simp only [List.set_cons_succ, List.set_cons_zero] at hM)))
        go_roundw
        case rel => exact ⟨k + 1, (m.doing a).1, F3, F4, by omega, by omega, by go_num, hM, okm, okem, by omega⟩
        case measure => simp [intOf]; omega
      · have hor : n ≤ k ∨ (k < n ∧ 80 ≤ k) := by omega
        clear hlt
        have hlen := ok.len
        rcases hor with hge | ⟨h1, hge⟩
        all_goals
          have hM1 := hM.perm (List.Perm.swap _ _ _)
          obtain ⟨A2, B2, ca, cb, v2, V, hM2⟩ := hM1.openR
          clear hM hM1
          have hM := hM2.perm (List.Perm.swap _ _ _)
          clear hM2
          have c0 : ∀ (L' : List Item) [HasRef L' F2 g2 A2 B2 ca cb m v2 V], Cell w noOwn L' ⟨g2, 0, none⟩ (.slice A2 m.recs.length ca) := fun L' h => ⟨fun w hM => (ref_has h hM).blk.cell 0⟩
          go_wp2_with (first | (go_at_call 27; refine (Records_any hM _ 0).mono ?_; rintro e1 w1 ⟨bf, bl, rfl, hM1⟩; clear hM; have hM := hM1; clear hM1; (try simp only [List.set_cons_succ, List.set_cons_zero] at hM)) | (go_at_call 26; refine (told_log hM ok (by omega)).mono ?_; simp only [List.drop_zero]; rintro e1 w1 ⟨At, ct, X, vt, rfl, hT, hM1⟩; clear hM; have hM := hM1; clear hM1; (try simp only [List.set_cons_succ, List.set_cons_zero] at hM)) | ((with_reducible refine wl_shape ?_); first | (apply wl_boxa; exact rfl; exact hM; exact rfl; exact rfl; clear hM; intro gg ww hM; simp only [putT, List.set_cons_succ, List.set_cons_zero]) | (apply wl_box1; exact rfl; exact hM; exact rfl; exact rfl; exact rfl; clear hM; intro gg ww hM; simp only [putT, List.set_cons_succ, List.set_cons_zero]) | (apply wl_alloc; exact rfl; exact hM; exact rfl; exact inferInstance; clear hM; intro gg ww hM; simp only [putT, List.set_cons_succ, List.set_cons_zero]) | (apply wl_ld; exact rfl; exact hM; exact rfl; exact rfl; exact inferInstance; exact inferInstance; simp only [putT, List.set_cons_succ, List.set_cons_zero]) | (apply wl_lda; exact rfl; exact hM; exact rfl; exact rfl; exact inferInstance; exact inferInstance; exact inferInstance; exact inferInstance; simp only [putT, List.set_cons_succ, List.set_cons_zero]) | (apply wl_ldr; exact rfl; exact hM; exact rfl; exact rfl; exact inferInstance; exact inferInstance; exact inferInstance; exact inferInstance; simp only [putT, List.set_cons_succ, List.set_cons_zero]) | (apply wl_st; exact rfl; exact hM; exact rfl; exact rfl; exact rfl; exact rfl; exact inferInstance; exact inferInstance; clear hM; intro ww hM; simp only [putT, List.set_cons_succ, List.set_cons_zero]) | (apply wl_sta; exact rfl; exact hM; exact rfl; exact rfl; exact rfl; exact all_oneCell_toArray One.out; exact inferInstance; exact inferInstance; exact inferInstance; clear hM; intro ww hM; simp only [putT, List.set_cons_succ, List.set_cons_zero]) | (apply wl_bs0; exact rfl; exact hM; exact rfl; exact inferInstance; clear hM; intro gg ww hM; simp only [putT, List.set_cons_succ, List.set_cons_zero]) | (apply wl_bs1a; exact rfl; exact hM; exact rfl; exact inferInstance; exact rfl; exact inferInstance; clear hM; intro gg ww hM; simp only [putT, List.set_cons_succ, List.set_cons_zero]) | (apply wl_bs11; exact rfl; exact hM; exact rfl; exact inferInstance; exact rfl; exact rfl; clear hM; intro gg ww hM; simp only [putT, List.set_cons_succ, List.set_cons_zero]) | (apply wl_conv; exact rfl; exact hM; exact rfl; exact rfl; exact inferInstance; exact inferInstance; simp only [putT, List.set_cons_succ, List.set_cons_zero])))
          have HM2 := hide hM
          go_loopw [10] (fun v wr => ∃ a : Nat, a ≤ m.recs.length ∧ v = .int .i64 a ∧ Mem w noOwn wr (.res (blocks X) (AllOf X) :: .res F (LogP F g m) :: .res F2 (RefE F2 g2 A2 B2 ca cb m v2 V) :: [])) (fun v _ => m.recs.length - (intOf v).toNat)
          case atStart => exact ⟨0, Nat.zero_le _, rfl, hM⟩
          case round =>
            obtain ⟨a, ha, rfl, hM⟩ := hrel
            by_cases hlt : a < m.recs.length
            · obtain ⟨b, off, rfl⟩ := told_form hT (by omega) (hM.allOf (F := blocks X) (List.mem_cons_self ..))
              go_wp2_with ((with_reducible refine wl_shape ?_); first | (apply wl_boxa; exact rfl; exact hM; exact rfl; exact rfl; clear hM; intro gg ww hM; simp only [putT, List.set_cons_succ, List.set_cons_zero]) | (apply wl_box1; exact rfl; exact hM; exact rfl; exact rfl; exact rfl; clear hM; intro gg ww hM; simp only [putT, List.set_cons_succ, List.set_cons_zero]) | (apply wl_alloc; exact rfl; exact hM; exact rfl; exact inferInstance; clear hM; intro gg ww hM; simp only [putT, List.set_cons_succ, List.set_cons_zero]) | (apply wl_ld; exact rfl; exact hM; exact rfl; exact rfl; exact inferInstance; exact inferInstance; simp only [putT, List.set_cons_succ, List.set_cons_zero]) | (apply wl_lda; exact rfl; exact hM; exact rfl; exact rfl; exact inferInstance; exact inferInstance; exact inferInstance; exact inferInstance; simp only [putT, List.set_cons_succ, List.set_cons_zero]) | (apply wl_ldr; exact rfl; exact hM; exact rfl; exact rfl; exact inferInstance; exact inferInstance; exact inferInstance; exact inferInstance; simp only [putT, List.set_cons_succ, List.set_cons_zero]) | (apply wl_st; exact rfl; exact hM; exact rfl; exact rfl; exact rfl; exact rfl; exact inferInstance; exact inferInstance; clear hM; intro ww hM; simp only [putT, List.set_cons_succ, List.set_cons_zero]) | (apply wl_sta; exact rfl; exact hM; exact rfl; exact rfl; exact rfl; exact all_oneCell_toArray One.out; exact inferInstance; exact inferInstance; exact inferInstance; clear hM; intro ww hM; simp only [putT, List.set_cons_succ, List.set_cons_zero]) | (apply wl_bs0; exact rfl; exact hM; exact rfl; exact inferInstance; clear hM; intro gg ww hM; simp only [putT, List.set_cons_succ, List.set_cons_zero]) | (apply wl_bs1a; exact rfl; exact hM; exact rfl; exact inferInstance; exact rfl; exact inferInstance; clear hM; intro gg ww hM; simp only [putT, List.set_cons_succ, List.set_cons_zero]) | (apply wl_bs11; exact rfl; exact hM; exact rfl; exact inferInstance; exact rfl; exact rfl; clear hM; intro gg ww hM; simp only [putT, List.set_cons_succ, List.set_cons_zero]) | (apply wl_conv; exact rfl; exact hM; exact rfl; exact rfl; exact inferInstance; exact inferInstance; simp only [putT, List.set_cons_succ, List.set_cons_zero]))
              have HM3 := hide hM
              go_loopw [11] (fun v wr => ∃ y : Nat, y ≤ a ∧ v = .int .i64 y ∧ Mem w noOwn wr (.res (blocks X) (AllOf X) :: .res F (LogP F g m) :: .res F2 (RefE F2 g2 A2 B2 ca cb m v2 V) :: [])) (fun v _ => a - (intOf v).toNat)
              case atStart => exact ⟨0, Nat.zero_le _, rfl, hM⟩
              case round =>
                obtain ⟨y, hy, rfl, hM⟩ := hrel
                by_cases hya : y < a
                · have hq := once_get ok hlt hya
                  have hyl : y < m.recs.length := by omega
                  have p0 : ∀ (L' : List Item) [HasAll L' X], Cell w noOwn L' ⟨b, off + a * 5, none⟩ (.int .i64 m.recs[a].p) := fun L' h => told_cell (j := 0) hT hlt h (by omega) (by omega) rfl
                  have p1 : ∀ (L' : List Item) [HasAll L' X], Cell w noOwn L' ⟨b, off + a * 5 + 1, none⟩ (.int .i64 m.recs[a].e) := fun L' h => told_cell (j := 1) hT hlt h (by omega) (by omega) rfl
                  have p3 : ∀ (L' : List Item) [HasAll L' X], Cell w noOwn L' ⟨b, off + a * 5 + 3, none⟩ (.int .i64 m.recs[a].s) := fun L' h => told_cell (j := 3) hT hlt h (by omega) (by omega) rfl
                  have q0 : ∀ (L' : List Item) [HasAll L' X], Cell w noOwn L' ⟨b, off + y * 5, none⟩ (.int .i64 m.recs[y].p) := fun L' h => told_cell (j := 0) hT hyl h (by omega) (by omega) rfl
                  have q1 : ∀ (L' : List Item) [HasAll L' X], Cell w noOwn L' ⟨b, off + y * 5 + 1, none⟩ (.int .i64 m.recs[y].e) := fun L' h => told_cell (j := 1) hT hyl h (by omega) (by omega) rfl
                  have q3 : ∀ (L' : List Item) [HasAll L' X], Cell w noOwn L' ⟨b, off + y * 5 + 3, none⟩ (.int .i64 m.recs[y].s) := fun L' h => told_cell (j := 3) hT hyl h (by omega) (by omega) rfl
                  unfold onceQ at hq
                  generalize m.recs[a].p = a1 at p0 hq
                  generalize m.recs[a].e = a2 at p1 hq
                  generalize m.recs[a].s = a3 at p3 hq
                  generalize m.recs[y].p = y1 at q0 hq
                  generalize m.recs[y].e = y2 at q1 hq
                  generalize m.recs[y].s = y3 at q3 hq
                  rcases (by omega : a1 ≠ y1 ∨ (a1 = y1 ∧ a2 ≠ y2) ∨ (a1 = y1 ∧ a2 = y2 ∧ a3 ≠ y3)) with g1 | ⟨g1, g2'⟩ | ⟨g1, g2', g3'⟩
                  all_goals
                    clear hq
                    go_wp2
                    refine wp_region_mem [] [] [] hM (by kernel_rfl) (by kernel_rfl) (by kernel_rfl) (by kernel_rfl) ?_; simp only [initS, Act.put, List.setIfInBounds_toArray, List.set_cons_succ, List.set_cons_zero, List.map_cons, List.map_nil]
                    repeat (first | (apply gl_move; (first | exact .inl rfl | exact .inr rfl); exact rfl; exact rfl; simp only [setD, List.set_cons_succ, List.set_cons_zero]) | (apply gl_ld; exact rfl; exact rfl; exact rfl; exact inferInstance; exact inferInstance; simp only [setD, List.set_cons_succ, List.set_cons_zero]) | (apply gl_lda; exact rfl; exact rfl; exact rfl; exact inferInstance; exact inferInstance; exact inferInstance; exact inferInstance; simp only [setD, List.set_cons_succ, List.set_cons_zero]) | (apply gl_ldr; exact rfl; exact rfl; exact rfl; exact inferInstance; exact inferInstance; exact inferInstance; exact inferInstance; simp only [setD, List.set_cons_succ, List.set_cons_zero]) | (apply gl_cmp true; exact rfl; exact rfl; exact rfl; exact rfl; (simp only [cmpB, Option.some.injEq, decide_eq_true_eq, ne_eq]; omega); simp only [setD, List.set_cons_succ, List.set_cons_zero]) | (apply gl_cmp false; exact rfl; exact rfl; exact rfl; exact rfl; (simp only [cmpB, Option.some.injEq, decide_eq_false_iff_not, ne_eq]; omega); simp only [setD, List.set_cons_succ, List.set_cons_zero]) | (apply gl_pick; exact rfl; exact rfl; exact rfl; exact rfl; exact rfl; simp only [setD, List.set_cons_succ, List.set_cons_zero, cond_true, cond_false]) | (apply gl_conv; exact rfl; exact rfl; exact rfl; exact inferInstance; exact inferInstance; simp only [setD, List.set_cons_succ, List.set_cons_zero]) | (apply gl_skip; exact rfl; simp only [setD, List.set_cons_succ, List.set_cons_zero]) | (apply gl_pure; exact rfl; intro K hK; go_simp; refine hK _ ?_; clear hK K; simp only [setD, List.set_cons_succ, List.set_cons_zero]))
                    refine gw_nil ?_; intro γ w4 hC' hk'; simp only [slAct, slVals, Slot.get]
                    replace hM := hC'.1
                    clear hC' hk'
                    go_wp2
                    go_roundw
                    case rel => exact ⟨y + 1, by omega, by go_num, hM⟩
                    case measure => simp [intOf]; omega
                · obtain rfl : y = a := by omega
                  go_wp2
                  go_roundw
                  case rel => exact ⟨y + 1, by omega, by go_num, hM⟩
                  case measure => simp [intOf]; omega
            · obtain rfl : a = m.recs.length := by omega
              clear hlt
              rcases Nat.eq_zero_or_pos m.recs.length with hz | hpos
              · go_wp2_with (first | (go_at_call 20; refine (known_any _).mono ?_; rintro e1 w1 ⟨rfl, hg⟩; replace hM := hM.call hg; clear hg))
                go_ret
                exact ⟨rfl, hM.grow⟩
              obtain ⟨b, off, rfl⟩ := told_form hT hpos (hM.allOf (F := blocks X) (List.mem_cons_self ..))
              obtain ⟨q, hq, hq16⟩ := and16 x
              obtain ⟨kk, hkk0⟩ : ∃ kk, kk = q % m.recs.length := ⟨_, rfl⟩
              have hkk : kk < m.recs.length := by rw [hkk0]; exact Nat.mod_lt _ hpos
              have hrem : (q : Int).tmod (m.recs.length : Int) = (kk : Int) := by rw [hkk0]; rfl
              obtain ⟨hep, hp0, hap⟩ := append_again ok oke hkk
              have hnz : ¬ m.recs.length = 0 := by omega
              obtain ⟨Dv, nv, cv, ev, hnc, hby, hblk⟩ := told_val hT hkk hM inferInstance
              have c1 : ∀ (L' : List Item) [HasAll L' X], Rng w noOwn L' b (off + kk * 5) (recVals m.recs[kk] (.slice Dv nv cv)) := fun L' h => by rw [← ev]; exact told_rng hT hkk h
              have p0 : ∀ (L' : List Item) [HasAll L' X], Cell w noOwn L' ⟨b, off + kk * 5, none⟩ (.int .i64 m.recs[kk].p) := fun L' h => told_cell (j := 0) hT hkk h (by omega) (by omega) rfl
              have p1 : ∀ (L' : List Item) [HasAll L' X], Cell w noOwn L' ⟨b, off + kk * 5 + 1, none⟩ (.int .i64 m.recs[kk].e) := fun L' h => told_cell (j := 1) hT hkk h (by omega) (by omega) rfl
              generalize m.recs[kk] = r at hep hp0 hap c1 p0 p1 hby
              clear ev hkk0
              have hE : epf m r.p = some (.int .i64 (m.ep r.p)) := if_pos ⟨hp0, hep⟩
              have HE : ∀ (F : Nat → Prop) w', Mem w noOwn w' (.res (blocks X) (AllOf X) :: .res F (LogP F g m) :: .res F2 (RefE F2 g2 A2 B2 ca cb m v2 V) :: []) → Calls Try.prog 25 #[.pointer (some ⟨g, 0, none⟩), .int .i64 r.p] w' fun x w'' => x = .returned (.tuple #[.int .i64 (m.ep r.p), .bool true]) ∧ Grow w' noOwn w'' := fun F w' hM => by
                have := Epoch_mem 1 hM rfl r.p
                rwa [hE] at this
              have HA : ∀ w', Mem w noOwn w' (.res (blocks X) (AllOf X) :: .res F (LogP F g m) :: .res F2 (RefE F2 g2 A2 B2 ca cb m v2 V) :: []) → Calls Try.prog 22 #[.pointer (some ⟨g, 0, none⟩), .agg (recVals r (.slice Dv nv cv)).toArray] w' fun x w'' => x = .returned (.tuple #[.int .i64 (m.append r).2.1, .int .i64 (m.append r).2.2]) ∧ ∃ F', Mem w noOwn w'' (.res (blocks X) (AllOf X) :: .res F' (LogP F' g (m.append r).1) :: .res F2 (RefE F2 g2 (A2) B2 ca cb m v2 V) :: []) := fun w' hM =>
                Append_mem 1 hM rfl ok hsl' r nv cv Dv (hby w' _ hM inferInstance) hnc (fun hn ad e => hM.ne 0 1 rfl rfl (by omega) (hblk hn ad e))
              clear hby hblk c0
              rcases hap with ⟨hne, hap⟩ | ⟨heq, hap⟩
              · rw [hap] at HA
                go_wp2_with (first
                  | ((with_reducible refine wl_shape ?_); first | (apply wl_boxa; exact rfl; exact hM; exact rfl; exact rfl; clear hM; intro gg ww hM; simp only [putT, List.set_cons_succ, List.set_cons_zero]) | (apply wl_box1; exact rfl; exact hM; exact rfl; exact rfl; exact rfl; clear hM; intro gg ww hM; simp only [putT, List.set_cons_succ, List.set_cons_zero]) | (apply wl_alloc; exact rfl; exact hM; exact rfl; exact inferInstance; clear hM; intro gg ww hM; simp only [putT, List.set_cons_succ, List.set_cons_zero]) | (apply wl_ld; exact rfl; exact hM; exact rfl; exact rfl; exact inferInstance; exact inferInstance; simp only [putT, List.set_cons_succ, List.set_cons_zero]) | (apply wl_lda; exact rfl; exact hM; exact rfl; exact rfl; exact inferInstance; exact inferInstance; exact inferInstance; exact inferInstance; simp only [putT, List.set_cons_succ, List.set_cons_zero]) | (apply wl_ldr; exact rfl; exact hM; exact rfl; exact rfl; exact inferInstance; exact inferInstance; exact inferInstance; exact inferInstance; simp only [putT, List.set_cons_succ, List.set_cons_zero]) | (apply wl_st; exact rfl; exact hM; exact rfl; exact rfl; exact rfl; exact rfl; exact inferInstance; exact inferInstance; clear hM; intro ww hM; simp only [putT, List.set_cons_succ, List.set_cons_zero]) | (apply wl_sta; exact rfl; exact hM; exact rfl; exact rfl; exact rfl; exact all_oneCell_toArray One.out; exact inferInstance; exact inferInstance; exact inferInstance; clear hM; intro ww hM; simp only [putT, List.set_cons_succ, List.set_cons_zero]) | (apply wl_bs0; exact rfl; exact hM; exact rfl; exact inferInstance; clear hM; intro gg ww hM; simp only [putT, List.set_cons_succ, List.set_cons_zero]) | (apply wl_bs1a; exact rfl; exact hM; exact rfl; exact inferInstance; exact rfl; exact inferInstance; clear hM; intro gg ww hM; simp only [putT, List.set_cons_succ, List.set_cons_zero]) | (apply wl_bs11; exact rfl; exact hM; exact rfl; exact inferInstance; exact rfl; exact rfl; clear hM; intro gg ww hM; simp only [putT, List.set_cons_succ, List.set_cons_zero]) | (apply wl_conv; exact rfl; exact hM; exact rfl; exact rfl; exact inferInstance; exact inferInstance; simp only [putT, List.set_cons_succ, List.set_cons_zero]))
                  | (rw [hq])
                  | (go_at_call 22; refine (HA _ hM).mono ?_; rintro e1 w1 ⟨rfl, F9, hM1⟩; clear hM; have hM := hM1; clear hM1; (try simp only [List.set_cons_succ, List.set_cons_zero] at hM))
                  | (go_at_call 25; refine (HE _ _ hM).mono ?_; rintro e1 w1 ⟨rfl, hg⟩; replace hM := hM.call hg; clear hg)
                  | (go_at_call 16; refine (Len_mem 1 hM rfl).mono ?_; rintro e1 w1 ⟨rfl, hg⟩; replace hM := hM.call hg; clear hg)
                  | (go_at_call 20; refine (known_any _).mono ?_; rintro e1 w1 ⟨rfl, hg⟩; replace hM := hM.call hg; clear hg))
                go_ret
                exact ⟨rfl, hM.grow⟩
              · rw [hap] at HA
                go_wp2_with (first
                  | ((with_reducible refine wl_shape ?_); first | (apply wl_boxa; exact rfl; exact hM; exact rfl; exact rfl; clear hM; intro gg ww hM; simp only [putT, List.set_cons_succ, List.set_cons_zero]) | (apply wl_box1; exact rfl; exact hM; exact rfl; exact rfl; exact rfl; clear hM; intro gg ww hM; simp only [putT, List.set_cons_succ, List.set_cons_zero]) | (apply wl_alloc; exact rfl; exact hM; exact rfl; exact inferInstance; clear hM; intro gg ww hM; simp only [putT, List.set_cons_succ, List.set_cons_zero]) | (apply wl_ld; exact rfl; exact hM; exact rfl; exact rfl; exact inferInstance; exact inferInstance; simp only [putT, List.set_cons_succ, List.set_cons_zero]) | (apply wl_lda; exact rfl; exact hM; exact rfl; exact rfl; exact inferInstance; exact inferInstance; exact inferInstance; exact inferInstance; simp only [putT, List.set_cons_succ, List.set_cons_zero]) | (apply wl_ldr; exact rfl; exact hM; exact rfl; exact rfl; exact inferInstance; exact inferInstance; exact inferInstance; exact inferInstance; simp only [putT, List.set_cons_succ, List.set_cons_zero]) | (apply wl_st; exact rfl; exact hM; exact rfl; exact rfl; exact rfl; exact rfl; exact inferInstance; exact inferInstance; clear hM; intro ww hM; simp only [putT, List.set_cons_succ, List.set_cons_zero]) | (apply wl_sta; exact rfl; exact hM; exact rfl; exact rfl; exact rfl; exact all_oneCell_toArray One.out; exact inferInstance; exact inferInstance; exact inferInstance; clear hM; intro ww hM; simp only [putT, List.set_cons_succ, List.set_cons_zero]) | (apply wl_bs0; exact rfl; exact hM; exact rfl; exact inferInstance; clear hM; intro gg ww hM; simp only [putT, List.set_cons_succ, List.set_cons_zero]) | (apply wl_bs1a; exact rfl; exact hM; exact rfl; exact inferInstance; exact rfl; exact inferInstance; clear hM; intro gg ww hM; simp only [putT, List.set_cons_succ, List.set_cons_zero]) | (apply wl_bs11; exact rfl; exact hM; exact rfl; exact inferInstance; exact rfl; exact rfl; clear hM; intro gg ww hM; simp only [putT, List.set_cons_succ, List.set_cons_zero]) | (apply wl_conv; exact rfl; exact hM; exact rfl; exact rfl; exact inferInstance; exact inferInstance; simp only [putT, List.set_cons_succ, List.set_cons_zero]))
                  | (rw [hq])
                  | (go_at_call 22; refine (HA _ hM).mono ?_; rintro e1 w1 ⟨rfl, F9, hM1⟩; clear hM; have hM := hM1; clear hM1; (try simp only [List.set_cons_succ, List.set_cons_zero] at hM))
                  | (go_at_call 25; refine (HE _ _ hM).mono ?_; rintro e1 w1 ⟨rfl, hg⟩; replace hM := hM.call hg; clear hg)
                  | (go_at_call 16; refine (Len_mem 1 hM rfl).mono ?_; rintro e1 w1 ⟨rfl, hg⟩; replace hM := hM.call hg; clear hg)
                  | (go_at_call 20; refine (known_any _).mono ?_; rintro e1 w1 ⟨rfl, hg⟩; replace hM := hM.call hg; clear hg))
                go_ret
                exact ⟨rfl, hM.grow⟩
  · go_ret
    exact ⟨rfl, hM.grow⟩
end Go.Proofs.Ytfecapcjocomkaa
