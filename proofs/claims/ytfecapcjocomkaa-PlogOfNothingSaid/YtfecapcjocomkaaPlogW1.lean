/- plog's laws: alike. -/
import Derived.Test.YtfecapcjocomkaaPlogK
namespace Go.Proofs.Ytfecapcjocomkaa
open Go.RowKit Go.MapKept
set_option linter.unusedSimpArgs false
set_option linter.unusedVariables false
attribute [local irreducible] wpList Code.wp GW Calls

theorem ep_list (m : PL) (i : Nat) : (epf m (i : Int)) = if 0 ≤ m.ep i then some (.int .i64 (m.ep i)) else none := by
  unfold epf
  simp
def SpanV (m : PL) (v : Value) (w : World) : Prop := ∃ A c, v = .slice A m.spans.length c ∧ Reads w w.heap.size 5 A m.spans.length (spnCells m.spans)
theorem spanV_grow {m : PL} (v : Value) (w w' : World) (hg : Grow w noOwn w') (h : SpanV m v w) : SpanV m v w' := by
  obtain ⟨A, c, e, hr⟩ := h
  exact ⟨A, c, e, (hr.grow hg (Nat.le_refl _)).more hg.size⟩
set_option maxRecDepth 100000 in
set_option maxHeartbeats 8000000 in
theorem alike_any {w0 w : World} {own : Nat → Prop} {L : List Item} {F F2 : Nat → Prop} {g g2 : Nat} {m : PL} (hM : Mem w0 own w (.res F (LogP F g m) :: .res F2 (RefP F2 g2 m) :: L)) (ok : m.Ok) (hsl' : m.spans.length ≤ 1000000) :
    Calls Try.prog 29 #[.pointer (some ⟨g, 0, none⟩), .pointer (some ⟨g2, 0, none⟩)] w fun e w' => e = .returned (.bool true) ∧ Mem w0 own w' (.res F (LogP F g m) :: .res F2 (RefP F2 g2 m) :: L) := by
  have hlen := ok.len
  go_enter Try.func29, Try.ntmps29
  go_wp2_with (first | (go_at_call 27; refine (Records_any hM _ 0).mono ?_; rintro e1 w1 ⟨bf, bl, rfl, hM1⟩; clear hM; have hM := hM1; clear hM1; (try simp only [List.set_cons_succ, List.set_cons_zero] at hM)) | (go_at_call 26; refine (told_log hM ok (by omega)).mono ?_; rintro e1 w1 ⟨At, ct, X, vt, rfl, hT, hM1⟩; clear hM; have hM := hM1; clear hM1; (try simp only [List.set_cons_succ, List.set_cons_zero] at hM)))
  simp only [List.drop_zero] at hT hM ⊢
  have hM1 := hM.perm (List.perm_middle (l₁ := [_, _]))
  obtain ⟨A2, B2, ca, cb, v2, V, hM2⟩ := hM1.openR
  clear hM hM1
  have hM := hM2
  clear hM2
  have c0 : ∀ (L' : List Item) [HasRef L' F2 g2 A2 B2 ca cb m v2 V], Cell w0 own L' ⟨g2, 0, none⟩ (.slice A2 m.recs.length ca) := fun L' h => ⟨fun w hM => (ref_has h hM).blk.cell 0⟩
  have c1 : ∀ (L' : List Item) [HasRef L' F2 g2 A2 B2 ca cb m v2 V], Cell w0 own L' ⟨g2, 1, none⟩ (.slice B2 m.spans.length cb) := fun L' h => ⟨fun w hM => (ref_has h hM).blk.cell 1⟩
  have HR : ∀ w', Mem w0 own w' (.res F2 (RefE F2 g2 A2 B2 ca cb m v2 V) :: .res (blocks X) (AllOf X) :: .res F (LogP F g m) :: L) → Calls Try.prog 28 #[.slice At m.recs.length ct, .slice A2 m.recs.length ca] w' fun e w'' => e = .returned (.bool true) ∧ Grow w' noOwn w'' := fun w' hM => by
    have := RecordsEq_any w' m.recs.length ct m.recs.length ca At A2 m.recs m.recs vt v2 (by omega) (hT.recs (hM.allOf (F := blocks X) (List.mem_cons_of_mem _ (List.mem_cons_self ..)))) (ref_has (F := F2) (g := g2) (B := B2) (ca := ca) (cb := cb) (V := V) inferInstance hM).recsR
    simpa using this
  have HS : ∀ w', Mem w0 own w' (.res F2 (RefE F2 g2 A2 B2 ca cb m v2 V) :: .res (blocks X) (AllOf X) :: .res F (LogP F g m) :: L) → Calls Try.prog 44 #[.pointer (some ⟨g2, 0, none⟩)] w' fun e w'' => e = .returned (.int .i64 m.stable) ∧ Grow w' noOwn w'' := fun w' hM =>
    (StableR_any w' g2 A2 B2 ca cb m v2 (ref_has (F := F2) (g := g2) (ca := ca) (cb := cb) (V := V) inferInstance hM).toRefR (by omega)).mono fun x w'' ⟨hx, hs⟩ => ⟨hx, hs ▸ Grow.refl _ _⟩
  have HP : ∀ w', Mem w0 own w' (.res F2 (RefE F2 g2 A2 B2 ca cb m v2 V) :: .res (blocks X) (AllOf X) :: .res F (LogP F g m) :: L) → Calls Try.prog 18 #[.pointer (some ⟨g, 0, none⟩)] w' fun e w'' => ∃ c, e = .returned c ∧ Grow w' noOwn w'' ∧ SpanV m c w'' := fun w' hM =>
    (Spans_mem 2 hM rfl hsl').mono fun x w'' ⟨A', c', hx, hg, hr⟩ => ⟨_, hx, hg, A', c', rfl, hr⟩
  have HQ : ∀ v w', Mem w0 own w' (.res F2 (RefE F2 g2 A2 B2 ca cb m v2 V) :: .res (blocks X) (AllOf X) :: .res F (LogP F g m) :: L) → SpanV m v w' → Calls Try.prog 23 #[v, .slice B2 m.spans.length cb] w' fun e w'' => e = .returned (.bool true) ∧ Grow w' noOwn w'' := fun v w' hM hv => by
    obtain ⟨A', c', rfl, hr⟩ := hv
    have := SpansEq_any w' m.spans.length c' m.spans.length cb A' B2 m.spans m.spans rfl rfl (by omega) hr (ref_has (F := F2) (g := g2) (A := A2) (ca := ca) (cb := cb) (vs := v2) (V := V) inferInstance hM).spans
    simpa using this
  refine wp_region_mem [] [30] [] hM (by kernel_rfl) (by kernel_rfl) (by kernel_rfl) (by kernel_rfl) ?_; simp only [initS, Act.put, List.setIfInBounds_toArray, List.set_cons_succ, List.set_cons_zero, List.map_cons, List.map_nil]
  repeat (first
    | (refine gl_call (f := 28) rfl rfl (by rfl) #[.slice At m.recs.length ct, .slice A2 m.recs.length ca] rfl _ (fun γ w => by go_simp) (fun w' hC' => (HR w' hC'.1)) ?_; simp only [setD, List.set_cons_succ, List.set_cons_zero])
    | (refine gl_call (f := 16) rfl rfl (by rfl) #[.pointer (some ⟨g, 0, none⟩)] rfl _ (fun γ w => by go_simp) (fun w' hC' => (Len_mem 2 hC'.1 rfl)) ?_; simp only [setD, List.set_cons_succ, List.set_cons_zero])
    | (refine gl_call (f := 17) rfl rfl (by rfl) #[.pointer (some ⟨g, 0, none⟩)] rfl _ (fun γ w => by go_simp) (fun w' hC' => (Stable_mem 2 hC'.1 rfl hsl')) ?_; simp only [setD, List.set_cons_succ, List.set_cons_zero])
    | (refine gl_call (f := 44) rfl rfl (by rfl) #[.pointer (some ⟨g2, 0, none⟩)] rfl _ (fun γ w => by go_simp) (fun w' hC' => (HS w' hC'.1)) ?_; simp only [setD, List.set_cons_succ, List.set_cons_zero])
    | (refine gl_callP (f := 18) rfl rfl (by rfl) (by rfl) #[.pointer (some ⟨g, 0, none⟩)] rfl (SpanV m) spanV_grow (fun γ w => by go_simp) (fun w' hC' => HP w' hC'.1) ?_; simp only [setD, List.set_cons_succ, List.set_cons_zero])
    | (refine gl_callQ (f := 23) (s := 46) rfl rfl (by rfl) (SpanV m) rfl (.slice B2 m.spans.length cb) rfl (.bool true) (fun v w0 => run_callFunc Try.func23 (by kernel_rfl) rfl #[v, _] w0) (fun v w' hC' hv => HQ v w' hC'.1 hv) ?_; simp only [setD, List.set_cons_succ, List.set_cons_zero])
    | (apply gl_move; (first | exact .inl rfl | exact .inr rfl); exact rfl; exact rfl; simp only [setD, List.set_cons_succ, List.set_cons_zero]) | (apply gl_ld; exact rfl; exact rfl; exact rfl; exact inferInstance; exact inferInstance; simp only [setD, List.set_cons_succ, List.set_cons_zero]) | (apply gl_lda; exact rfl; exact rfl; exact rfl; exact inferInstance; exact inferInstance; exact inferInstance; exact inferInstance; simp only [setD, List.set_cons_succ, List.set_cons_zero]) | (apply gl_ldr; exact rfl; exact rfl; exact rfl; exact inferInstance; exact inferInstance; exact inferInstance; exact inferInstance; simp only [setD, List.set_cons_succ, List.set_cons_zero]) | (apply gl_cmp true; exact rfl; exact rfl; exact rfl; exact rfl; (simp only [cmpB, Option.some.injEq, decide_eq_true_eq, ne_eq]; omega); simp only [setD, List.set_cons_succ, List.set_cons_zero]) | (apply gl_cmp false; exact rfl; exact rfl; exact rfl; exact rfl; (simp only [cmpB, Option.some.injEq, decide_eq_false_iff_not, ne_eq]; omega); simp only [setD, List.set_cons_succ, List.set_cons_zero]) | (apply gl_pick; exact rfl; exact rfl; exact rfl; exact rfl; exact rfl; simp only [setD, List.set_cons_succ, List.set_cons_zero, cond_true, cond_false]) | (apply gl_conv; exact rfl; exact rfl; exact rfl; exact inferInstance; exact inferInstance; simp only [setD, List.set_cons_succ, List.set_cons_zero]) | (apply gl_skip; exact rfl; simp only [setD, List.set_cons_succ, List.set_cons_zero]) | (apply gl_pure; exact rfl; intro K hK; go_simp; refine hK _ ?_; clear hK K; simp only [setD, List.set_cons_succ, List.set_cons_zero]))
  refine gw_nil ?_; intro γ w4 hC' hk'; simp only [slAct, slVals, Slot.get]
  replace hM := hC'.1
  clear hC' hk' HR HS HP HQ c0 c1
  have c2 : ∀ (i : Nat), i < 8 → ∀ (L' : List Item) [HasRef L' F2 g2 A2 B2 ca cb m v2 V], Cell w0 own L' ⟨g2, 2 + i, none⟩ (.int .i64 (m.ep i)) := fun i hi L' h => ⟨fun w hM => by
    have h1 := ref_has h hM
    exact (h1.blk.cell (2 + i)).trans (eps_at h1.e8 _ _ i hi)⟩
  go_wp2
  have H0 := hide hM
  go_loopw [7] (fun v wr => ∃ i : Nat, i ≤ 8 ∧ v = .int .i64 i ∧ Mem w0 own wr (.res F2 (RefE F2 g2 A2 B2 ca cb m v2 V) :: .res (blocks X) (AllOf X) :: .res F (LogP F g m) :: L)) (fun v _ => 8 - (intOf v).toNat)
  case atStart => exact ⟨0, by omega, rfl, hM⟩
  case round =>
    obtain ⟨i, hi, rfl, hM⟩ := hrel
    by_cases hlt : i < 8
    · have c3 := c2 i hlt
      have he := ep_list m i
      by_cases hp : 0 ≤ m.ep i
      · rw [if_pos hp] at he
        have HE : ∀ w', Mem w0 own w' (.res F2 (RefE F2 g2 A2 B2 ca cb m v2 V) :: .res (blocks X) (AllOf X) :: .res F (LogP F g m) :: L) → Calls Try.prog 25 #[.pointer (some ⟨g, 0, none⟩), .int .i64 i] w' fun x w'' => x = .returned (.tuple #[.int .i64 (m.ep i), .bool true]) ∧ Grow w' noOwn w'' := fun w' hM => by
          have := Epoch_mem 2 hM rfl (i : Int)
          rwa [he] at this
        clear he
        go_wp2_with (first | ((with_reducible refine wl_shape ?_); first | (apply wl_boxa; exact rfl; exact hM; exact rfl; exact rfl; clear hM; intro gg ww hM; simp only [putT, List.set_cons_succ, List.set_cons_zero]) | (apply wl_box1; exact rfl; exact hM; exact rfl; exact rfl; exact rfl; clear hM; intro gg ww hM; simp only [putT, List.set_cons_succ, List.set_cons_zero]) | (apply wl_alloc; exact rfl; exact hM; exact rfl; exact inferInstance; clear hM; intro gg ww hM; simp only [putT, List.set_cons_succ, List.set_cons_zero]) | (apply wl_ld; exact rfl; exact hM; exact rfl; exact rfl; exact inferInstance; exact inferInstance; simp only [putT, List.set_cons_succ, List.set_cons_zero]) | (apply wl_lda; exact rfl; exact hM; exact rfl; exact rfl; exact inferInstance; exact inferInstance; exact inferInstance; exact inferInstance; simp only [putT, List.set_cons_succ, List.set_cons_zero]) | (apply wl_ldr; exact rfl; exact hM; exact rfl; exact rfl; exact inferInstance; exact inferInstance; exact inferInstance; exact inferInstance; simp only [putT, List.set_cons_succ, List.set_cons_zero]) | (apply wl_st; exact rfl; exact hM; exact rfl; exact rfl; exact rfl; exact rfl; exact inferInstance; exact inferInstance; clear hM; intro ww hM; simp only [putT, List.set_cons_succ, List.set_cons_zero]) | (apply wl_sta; exact rfl; exact hM; exact rfl; exact rfl; exact rfl; exact all_oneCell_toArray One.out; exact inferInstance; exact inferInstance; exact inferInstance; clear hM; intro ww hM; simp only [putT, List.set_cons_succ, List.set_cons_zero]) | (apply wl_bs0; exact rfl; exact hM; exact rfl; exact inferInstance; clear hM; intro gg ww hM; simp only [putT, List.set_cons_succ, List.set_cons_zero]) | (apply wl_bs1a; exact rfl; exact hM; exact rfl; exact inferInstance; exact rfl; exact inferInstance; clear hM; intro gg ww hM; simp only [putT, List.set_cons_succ, List.set_cons_zero]) | (apply wl_bs11; exact rfl; exact hM; exact rfl; exact inferInstance; exact rfl; exact rfl; clear hM; intro gg ww hM; simp only [putT, List.set_cons_succ, List.set_cons_zero]) | (apply wl_conv; exact rfl; exact hM; exact rfl; exact rfl; exact inferInstance; exact inferInstance; simp only [putT, List.set_cons_succ, List.set_cons_zero])) | (go_at_call 25; refine (HE _ hM).mono ?_; rintro e1 w1 ⟨rfl, hg⟩; replace hM := hM.call hg; clear hg))
        refine ⟨?_, ?measure⟩
        (repeat apply Exists.intro)
        refine ⟨?rel, rfl⟩
        case rel => exact ⟨i + 1, by omega, by go_num, hM⟩
        case measure => simp [intOf]; omega
      · rw [if_neg hp] at he
        have HE : ∀ w', Mem w0 own w' (.res F2 (RefE F2 g2 A2 B2 ca cb m v2 V) :: .res (blocks X) (AllOf X) :: .res F (LogP F g m) :: L) → Calls Try.prog 25 #[.pointer (some ⟨g, 0, none⟩), .int .i64 i] w' fun x w'' => x = .returned (.tuple #[.int .i64 0, .bool false]) ∧ Grow w' noOwn w'' := fun w' hM => by
          have := Epoch_mem 2 hM rfl (i : Int)
          rwa [he] at this
        clear he
        go_wp2_with (first | ((with_reducible refine wl_shape ?_); first | (apply wl_boxa; exact rfl; exact hM; exact rfl; exact rfl; clear hM; intro gg ww hM; simp only [putT, List.set_cons_succ, List.set_cons_zero]) | (apply wl_box1; exact rfl; exact hM; exact rfl; exact rfl; exact rfl; clear hM; intro gg ww hM; simp only [putT, List.set_cons_succ, List.set_cons_zero]) | (apply wl_alloc; exact rfl; exact hM; exact rfl; exact inferInstance; clear hM; intro gg ww hM; simp only [putT, List.set_cons_succ, List.set_cons_zero]) | (apply wl_ld; exact rfl; exact hM; exact rfl; exact rfl; exact inferInstance; exact inferInstance; simp only [putT, List.set_cons_succ, List.set_cons_zero]) | (apply wl_lda; exact rfl; exact hM; exact rfl; exact rfl; exact inferInstance; exact inferInstance; exact inferInstance; exact inferInstance; simp only [putT, List.set_cons_succ, List.set_cons_zero]) | (apply wl_ldr; exact rfl; exact hM; exact rfl; exact rfl; exact inferInstance; exact inferInstance; exact inferInstance; exact inferInstance; simp only [putT, List.set_cons_succ, List.set_cons_zero]) | (apply wl_st; exact rfl; exact hM; exact rfl; exact rfl; exact rfl; exact rfl; exact inferInstance; exact inferInstance; clear hM; intro ww hM; simp only [putT, List.set_cons_succ, List.set_cons_zero]) | (apply wl_sta; exact rfl; exact hM; exact rfl; exact rfl; exact rfl; exact all_oneCell_toArray One.out; exact inferInstance; exact inferInstance; exact inferInstance; clear hM; intro ww hM; simp only [putT, List.set_cons_succ, List.set_cons_zero]) | (apply wl_bs0; exact rfl; exact hM; exact rfl; exact inferInstance; clear hM; intro gg ww hM; simp only [putT, List.set_cons_succ, List.set_cons_zero]) | (apply wl_bs1a; exact rfl; exact hM; exact rfl; exact inferInstance; exact rfl; exact inferInstance; clear hM; intro gg ww hM; simp only [putT, List.set_cons_succ, List.set_cons_zero]) | (apply wl_bs11; exact rfl; exact hM; exact rfl; exact inferInstance; exact rfl; exact rfl; clear hM; intro gg ww hM; simp only [putT, List.set_cons_succ, List.set_cons_zero]) | (apply wl_conv; exact rfl; exact hM; exact rfl; exact rfl; exact inferInstance; exact inferInstance; simp only [putT, List.set_cons_succ, List.set_cons_zero])) | (go_at_call 25; refine (HE _ hM).mono ?_; rintro e1 w1 ⟨rfl, hg⟩; replace hM := hM.call hg; clear hg))
        refine ⟨?_, ?measure⟩
        (repeat apply Exists.intro)
        refine ⟨?rel, rfl⟩
        case rel => exact ⟨i + 1, by omega, by go_num, hM⟩
        case measure => simp [intOf]; omega
    · go_wp2
      go_ret
      exact ⟨rfl, (hM.shutR.perm (List.Perm.trans (List.Perm.cons _ (List.Perm.swap _ _ _)) (List.Perm.swap _ _ _))).sub ((List.Sublist.cons_cons _ (List.Sublist.cons_cons _ (List.sublist_cons_self _ _))))⟩
end Go.Proofs.Ytfecapcjocomkaa
