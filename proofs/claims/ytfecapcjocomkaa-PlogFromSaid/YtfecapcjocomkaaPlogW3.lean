/- plog's laws: PlogFrom. -/
import Derived.Test.YtfecapcjocomkaaPlogW1
import Derived.Test.YtfecapcjocomkaaPlogV1
namespace Go.Proofs.Ytfecapcjocomkaa
open Go.RowKit Go.MapKept
set_option linter.unusedSimpArgs false
set_option linter.unusedVariables false
attribute [local irreducible] wpList Code.wp GW Calls
theorem recCells_drop : ∀ (l : List Rec) (vs : List Value) (q : Nat), vs.length = l.length → (recCells l vs).drop (q * 5) = recCells (l.drop q) (vs.drop q)
  | l, vs, 0, _ => by simp
  | [], [], q + 1, _ => by simp [recCells]
  | [], _ :: _, _, h => by simp at h
  | _ :: _, [], _, h => by simp at h
  | r :: l, v :: vs, q + 1, h => by
    have := recCells_drop l vs q (by simpa using h)
    rw [recCells, List.drop_append, show (recVals r v).length = 5 from rfl, show (q + 1) * 5 - 5 = q * 5 from by omega, this]
    rw [List.drop_eq_nil_of_le (by simp [recVals]; omega)]
    simp
theorem RecsR.cut {w : World} {A : Option Addr} {n : Nat} {l : List Rec} {vs : List Value} (h : RecsR w A n l vs) {q c : Nat} (hq : q ≤ n) (hc : n ≤ c) : RecsR w (if c = q then A else A.map (·.add (q * 5))) (n - q) (l.drop q) (vs.drop q) := by
  refine ⟨by simp [h.vl], by simp [h.len], ?_, fun i hi => ?_⟩
  · rw [← recCells_drop _ _ _ h.vl]
    exact Reads.cut h.cells hq hc
  · rw [List.length_drop] at hi
    have := h.vals (q + i) (by omega)
    simpa using this
theorem drop_min {l : List Rec} {f : Nat} : l.drop (min f l.length) = l.drop f := by
  rcases Nat.le_total f l.length with h | h
  · rw [Nat.min_eq_left h]
  · rw [Nat.min_eq_right h, List.drop_length, List.drop_eq_nil_of_le h]
set_option maxRecDepth 100000 in
set_option maxHeartbeats 8000000 in
theorem PlogFrom_any (w : World) (A : Option Addr) (n c : Nat) (fr : Int) (l : List Doing) (vs : List Value) (h : DoR w A n l vs) (hn : n ≤ 2000000000000) : Calls Try.prog 9 #[.slice A n c, .int .i64 fr] w fun e w' => e = .returned (.bool true) ∧ Grow w noOwn w' := by
  have hM := Mem.nil w noOwn
  rcases (by omega : fr < 0 ∨ 200 < fr ∨ (0 ≤ fr ∧ fr ≤ 200)) with hf | hf | ⟨hf0, hf1⟩
  · go_enter Try.func9, Try.ntmps9
    go_wp2_with (first | (go_at_call 13; refine (long_any w A n c l vs h hn).mono ?_; rintro e1 w1 ⟨b, rfl, rfl⟩; cases b))
    all_goals
      go_ret
      exact ⟨rfl, hM.grow⟩
  · go_enter Try.func9, Try.ntmps9
    go_wp2_with (first | (go_at_call 13; refine (long_any w A n c l vs h hn).mono ?_; rintro e1 w1 ⟨b, rfl, rfl⟩; cases b))
    all_goals
      go_ret
      exact ⟨rfl, hM.grow⟩
  obtain ⟨f, rfl⟩ : ∃ f : Nat, fr = f := ⟨fr.toNat, by omega⟩
  go_enter Try.func9, Try.ntmps9
  go_wp2_with (first
    | (go_at_call 13; refine (long_any w A n c l vs h hn).mono ?_; rintro e1 w1 ⟨b, rfl, rfl⟩; cases b)
    | (go_at_call 14; refine (New_mem hM).mono ?_; rintro e1 w1 ⟨g, F, rfl, hM1⟩; clear hM; have hM := hM1; clear hM1; (try simp only [List.set_cons_succ, List.set_cons_zero] at hM))
    | (go_at_call 15; refine (NewR_mem hM).mono ?_; rintro e1 w1 ⟨g2, F2, rfl, hM1⟩; clear hM; have hM := hM1; clear hM1; (try simp only [List.set_cons_succ, List.set_cons_zero] at hM)))
  · have HM := hide hM
    go_loopw [7] (fun v wr => ∃ (k : Nat) (m : PL) (F F2 : Nat → Prop), k ≤ n ∧ k ≤ 80 ∧ v = .int .i64 k ∧ Mem w noOwn wr [.res F (LogP F g m), .res F2 (RefP F2 g2 m)] ∧ m.Ok ∧ m.spans.length ≤ k) (fun v _ => n - (intOf v).toNat)
    case atStart => exact ⟨0, PL.empty, F, F2, by omega, by omega, rfl, hM.perm (List.Perm.swap _ _ _), ok_empty, by simp [PL.empty]⟩
    case round =>
      obtain ⟨k, m, F, F2, hk, hk80, rfl, hM, ok, hsl⟩ := hrel
      have hsl' : m.spans.length ≤ 1000000 := by omega
      by_cases hlt : k < n ∧ k < 80
      · obtain ⟨hlt, h80⟩ := hlt
        obtain ⟨a, b, off, D, q, cq, rfl, hO, hqc, hbq, _⟩ := h.one k hlt
        have okm := ok_doing ok a
        have hsm := spans_doing m a
        go_wp2_with (first
          | ((with_reducible refine wl_shape ?_); first | (apply wl_boxa; exact rfl; exact hM; exact rfl; exact rfl; clear hM; intro gg ww hM; simp only [putT, List.set_cons_succ, List.set_cons_zero]) | (apply wl_box1; exact rfl; exact hM; exact rfl; exact rfl; exact rfl; clear hM; intro gg ww hM; simp only [putT, List.set_cons_succ, List.set_cons_zero]) | (apply wl_alloc; exact rfl; exact hM; exact rfl; exact inferInstance; clear hM; intro gg ww hM; simp only [putT, List.set_cons_succ, List.set_cons_zero]) | (apply wl_ld; exact rfl; exact hM; exact rfl; exact rfl; exact inferInstance; exact inferInstance; simp only [putT, List.set_cons_succ, List.set_cons_zero]) | (apply wl_lda; exact rfl; exact hM; exact rfl; exact rfl; exact inferInstance; exact inferInstance; exact inferInstance; exact inferInstance; simp only [putT, List.set_cons_succ, List.set_cons_zero]) | (apply wl_ldr; exact rfl; exact hM; exact rfl; exact rfl; exact inferInstance; exact inferInstance; exact inferInstance; exact inferInstance; simp only [putT, List.set_cons_succ, List.set_cons_zero]) | (apply wl_st; exact rfl; exact hM; exact rfl; exact rfl; exact rfl; exact rfl; exact inferInstance; exact inferInstance; clear hM; intro ww hM; simp only [putT, List.set_cons_succ, List.set_cons_zero]) | (apply wl_sta; exact rfl; exact hM; exact rfl; exact rfl; exact rfl; exact all_oneCell_toArray One.out; exact inferInstance; exact inferInstance; exact inferInstance; clear hM; intro ww hM; simp only [putT, List.set_cons_succ, List.set_cons_zero]) | (apply wl_bs0; exact rfl; exact hM; exact rfl; exact inferInstance; clear hM; intro gg ww hM; simp only [putT, List.set_cons_succ, List.set_cons_zero]) | (apply wl_bs1a; exact rfl; exact hM; exact rfl; exact inferInstance; exact rfl; exact inferInstance; clear hM; intro gg ww hM; simp only [putT, List.set_cons_succ, List.set_cons_zero]) | (apply wl_bs11; exact rfl; exact hM; exact rfl; exact inferInstance; exact rfl; exact rfl; clear hM; intro gg ww hM; simp only [putT, List.set_cons_succ, List.set_cons_zero]) | (apply wl_conv; exact rfl; exact hM; exact rfl; exact rfl; exact inferInstance; exact inferInstance; simp only [putT, List.set_cons_succ, List.set_cons_zero]))
          | (go_at_call 19; refine (act_any w _ noOwn [] _ _ g g2 m hM ok (by omega) a D q cq hqc hbq (fun _ _ _ e => e)).mono ?_; rintro e1 w1 ⟨rfl, F3, F4, hM1⟩; clear hM; have hM := hM1; clear hM1; (try simp only [List.set_cons_succ, List.set_cons_zero] at hM)))
        go_roundw
        case rel => exact ⟨k + 1, (m.doing a).1, F3, F4, by omega, by omega, by go_num, hM, okm, by omega⟩
        case measure => simp [intOf]; omega
      · have hor : n ≤ k ∨ (k < n ∧ 80 ≤ k) := by omega
        clear hlt
        have hlen := ok.len
        obtain ⟨rs, hrs0⟩ : ∃ rs, rs = m.recs.drop f := ⟨_, rfl⟩
        have hrl : Hid (rs.length = m.recs.length - f) := hide (by rw [hrs0]; simp)
        have hrs := hide hrs0
        clear hrs0
        obtain ⟨q, hq0⟩ : ∃ q, q = min f m.recs.length := ⟨_, rfl⟩
        have hq1 : q ≤ m.recs.length := by omega
        have hmin : min (f : Int) (m.recs.length : Int) = (q : Int) := by omega
        have hdr : Hid (m.recs.drop q = rs) := hide (by rw [unhide hrs, hq0, drop_min])
        clear hq0
        rcases hor with hge | ⟨h1, hge⟩
        all_goals
          go_wp2_with (first | (go_at_call 27; refine (Records_any hM _ f).mono ?_; rintro e1 w1 ⟨bf, bl, rfl, hM1⟩; clear hM; have hM := hM1; clear hM1; (try simp only [List.set_cons_succ, List.set_cons_zero] at hM)) | (go_at_call 26; refine (told_log hM ok (by omega)).mono ?_; rw [← unhide hrs]; rintro e1 w1 ⟨At, ct, X, vt, rfl, hT, hM1⟩; clear hM; have hM := hM1; clear hM1; (try simp only [List.set_cons_succ, List.set_cons_zero] at hM)))
          have hM1 := hM.perm (List.perm_middle (l₁ := [_, _]))
          obtain ⟨A2, B2, ca, cb, v2, V, hM2⟩ := hM1.openR
          clear hM hM1
          have hM := hM2
          clear hM2
          have c0 : ∀ (L' : List Item) [HasRef L' F2 g2 A2 B2 ca cb m v2 V], Cell w noOwn L' ⟨g2, 0, none⟩ (.slice A2 m.recs.length ca) := fun L' h => ⟨fun w hM => (ref_has h hM).blk.cell 0⟩
          have hcap : m.recs.length ≤ ca := (ref_has (F := F2) (g := g2) (A := A2) (B := B2) (ca := ca) (cb := cb) (vs := v2) (V := V) inferInstance hM).cap
          have HR : ∀ w', Mem w noOwn w' (.res F2 (RefE F2 g2 A2 B2 ca cb m v2 V) :: .res (blocks X) (AllOf X) :: .res F (LogP F g m) :: []) → Calls Try.prog 28 #[.slice At rs.length ct, .slice (if ca = q then A2 else A2.map (·.add (q * 5))) (m.recs.length - q) (ca - q)] w' fun e w'' => e = .returned (.bool true) ∧ Grow w' noOwn w'' := fun w' hM => by
            have h2 := ((ref_has (F := F2) (g := g2) (A := A2) (B := B2) (ca := ca) (cb := cb) (vs := v2) (V := V) inferInstance hM).recsR).cut hq1 hcap
            rw [unhide hdr] at h2
            have := RecordsEq_any w' rs.length ct (m.recs.length - q) (ca - q) At _ rs rs vt _ (by have := unhide hrl; omega) (hT.recs (hM.allOf (F := blocks X) (List.mem_cons_of_mem _ (List.mem_cons_self ..)))) h2
            simpa using this
          clear hdr
          refine wp_region_mem [] [] [] hM (by kernel_rfl) (by kernel_rfl) (by kernel_rfl) (by kernel_rfl) ?_; simp only [initS, Act.put, List.setIfInBounds_toArray, List.set_cons_succ, List.set_cons_zero, List.map_cons, List.map_nil]
          repeat (first
            | (refine gl_call (f := 28) rfl rfl (by rfl) _ rfl _ (fun γ w => by go_simp) (fun w' hC' => (HR w' hC'.1)) ?_; simp only [setD, List.set_cons_succ, List.set_cons_zero])
            | (refine gl_call (f := 20) rfl rfl (by rfl) #[] rfl _ (fun γ w => by go_simp) (fun w' hC' => (known_any w')) ?_; simp only [setD, List.set_cons_succ, List.set_cons_zero])
            | (apply gl_move; (first | exact .inl rfl | exact .inr rfl); exact rfl; exact rfl; simp only [setD, List.set_cons_succ, List.set_cons_zero]) | (apply gl_ld; exact rfl; exact rfl; exact rfl; exact inferInstance; exact inferInstance; simp only [setD, List.set_cons_succ, List.set_cons_zero]) | (apply gl_lda; exact rfl; exact rfl; exact rfl; exact inferInstance; exact inferInstance; exact inferInstance; exact inferInstance; simp only [setD, List.set_cons_succ, List.set_cons_zero]) | (apply gl_ldr; exact rfl; exact rfl; exact rfl; exact inferInstance; exact inferInstance; exact inferInstance; exact inferInstance; simp only [setD, List.set_cons_succ, List.set_cons_zero]) | (apply gl_cmp true; exact rfl; exact rfl; exact rfl; exact rfl; (simp only [cmpB, Option.some.injEq, decide_eq_true_eq, ne_eq]; omega); simp only [setD, List.set_cons_succ, List.set_cons_zero]) | (apply gl_cmp false; exact rfl; exact rfl; exact rfl; exact rfl; (simp only [cmpB, Option.some.injEq, decide_eq_false_iff_not, ne_eq]; omega); simp only [setD, List.set_cons_succ, List.set_cons_zero]) | (apply gl_pick; exact rfl; exact rfl; exact rfl; exact rfl; exact rfl; simp only [setD, List.set_cons_succ, List.set_cons_zero, cond_true, cond_false]) | (apply gl_conv; exact rfl; exact rfl; exact rfl; exact inferInstance; exact inferInstance; simp only [setD, List.set_cons_succ, List.set_cons_zero]) | (apply gl_skip; exact rfl; simp only [setD, List.set_cons_succ, List.set_cons_zero]) | (apply gl_pure; exact rfl; intro K hK; go_simp; refine hK _ ?_; clear hK K; simp only [setD, List.set_cons_succ, List.set_cons_zero]))
          refine gw_nil ?_; intro γ w4 hC' hk'; simp only [slAct, slVals, Slot.get]
          have hg := hC'.1.grow
          clear hC' hk' HR
          go_wp2
          all_goals
            go_ret
            exact ⟨rfl, hg⟩
  · go_ret
    exact ⟨rfl, hM.grow⟩
end Go.Proofs.Ytfecapcjocomkaa
