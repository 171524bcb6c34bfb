/- plog: the reference's log: Append that lays nothing. -/
import Derived.Test.YtechglhkcjgodaaPlogR4
import Derived.Test.YtechglhkcjgodaaPlog14
namespace Go.Proofs.Ytechglhkcjgodaa
open Go.RowKit Go.MapKept
set_option linter.unusedSimpArgs false
attribute [local irreducible] wpList Code.wp GW Calls

def PL.appendR (m : PL) (r : Rec) : PL × Int × Int :=
  if PL.isRec r = false then (m, 0, 1) else
  if m.ep r.p < 0 then (m, 0, 4) else
  if r.e < m.ep r.p then (m, 0, 5) else
  if r.e > m.ep r.p then (m, 0, 6) else
  if 0 ≤ (m.nextTwo r.p r.e r.s).2 then
    (if (m.recs.getD (m.nextTwo r.p r.e r.s).2.toNat r).t = r.t ∧ (m.recs.getD (m.nextTwo r.p r.e r.s).2.toNat r).v = r.v then (m, (m.nextTwo r.p r.e r.s).2, 0) else (m, 0, 1))
  else if r.s ≠ (m.nextTwo r.p r.e r.s).1 then (m, 0, 8) else
  if (0 ≤ m.spanAt r.p r.e r.t ∧ (m.spans.getD (m.spanAt r.p r.e r.t).toNat ⟨0, 0, 0, 0, 0⟩).k ≠ 0) ∨ m.spans.any (otherIs r.p r.e r.t) = true then (m, 0, 6) else
  if 128 ≤ m.recs.length then (m, 0, 3) else
  ({ m with recs := m.recs ++ [r], spans := if m.spanAt r.p r.e r.t < 0 then m.spans ++ [⟨r.p, r.e, r.t, m.recs.length, 0⟩] else m.spans }, m.recs.length, 0)

set_option maxRecDepth 100000 in
set_option maxHeartbeats 4000000 in
theorem AppendR_bad (w : World) (g : Nat) (m : PL) (V : Nat → Prop) (h : RefAt w g m V) (p e t q : Int) (v : List (BitVec 8)) (n c : Nat) (D : Option Addr) (hl : v.length = n) (hr : PL.isRec ⟨p, e, t, q, v⟩ = false) :
    Calls Try.prog 33 #[.pointer (some ⟨g, 0, none⟩), .agg #[.int .i64 p, .int .i64 e, .int .i64 t, .int .i64 q, .slice D n c]] w fun x w' => x = .returned (.tuple #[.int .i64 0, .int .i64 1]) ∧ StepR w g m V w' := by
  have hsame : Hid (∀ w', Grow w noOwn w' → StepR w g m V w') := hide (fun w' hg => StepR.same h hg)
  have hM := Mem.nil w noOwn
  have hcase : (decide (0 ≤ p) && decide (p ≤ 7)) = false ∨ ((decide (0 ≤ p) && decide (p ≤ 7)) = true ∧ (decide (0 ≤ e) && decide (e ≤ 100)) = false) ∨ ((decide (0 ≤ p) && decide (p ≤ 7)) = true ∧ (decide (0 ≤ e) && decide (e ≤ 100)) = true ∧ (decide (1 ≤ t) && decide (t ≤ 100)) = false) ∨
      ((decide (0 ≤ p) && decide (p ≤ 7)) = true ∧ (decide (0 ≤ e) && decide (e ≤ 100)) = true ∧ (decide (1 ≤ t) && decide (t ≤ 100)) = true ∧ (decide (0 ≤ q) && decide (q ≤ 1048576)) = false) ∨ ((decide (0 ≤ p) && decide (p ≤ 7)) = true ∧ (decide (0 ≤ e) && decide (e ≤ 100)) = true ∧ (decide (1 ≤ t) && decide (t ≤ 100)) = true ∧ (decide (0 ≤ q) && decide (q ≤ 1048576)) = true ∧ 200 < n) := by
    by_cases b1 : decide (0 ≤ p) && decide (p ≤ 7) <;> by_cases b2 : decide (0 ≤ e) && decide (e ≤ 100) <;> by_cases b3 : decide (1 ≤ t) && decide (t ≤ 100) <;> by_cases b4 : decide (0 ≤ q) && decide (q ≤ 1048576) <;> simp [b1, b2, b3, b4]
    simp at b1 b2 b3 b4
    simp [PL.isRec, PL.isProd, PL.isTxn] at hr
    omega
  clear h hl hr
  rcases hcase with b1 | ⟨b1, b2⟩ | ⟨b1, b2, b3⟩ | ⟨b1, b2, b3, b4⟩ | ⟨b1, b2, b3, b4, b5⟩
  all_goals
    have B1 := hide b1
    try have B2 := hide b2
    try have B3 := hide b3
    try have B4 := hide b4
    clear b1
    try clear b2
    try clear b3
    try clear b4
    go_enter Try.func33, Try.ntmps33
    go_wp2_with (first | (go_at_call 52; refine (in_any _ _ _ _).mono ?_; rintro e1 w2 ⟨rfl, rfl⟩; first | rw [unhide B1] | rw [unhide B2] | rw [unhide B3] | rw [unhide B4]) | ((with_reducible refine wl_shape ?_); first | (apply wl_boxa; exact rfl; exact hM; exact rfl; exact rfl; clear hM; intro gg ww hM; simp only [putT, List.set_cons_succ, List.set_cons_zero]) | (apply wl_box1; exact rfl; exact hM; exact rfl; exact rfl; exact rfl; clear hM; intro gg ww hM; simp only [putT, List.set_cons_succ, List.set_cons_zero]) | (apply wl_alloc; exact rfl; exact hM; exact rfl; exact inferInstance; clear hM; intro gg ww hM; simp only [putT, List.set_cons_succ, List.set_cons_zero]) | (apply wl_ld; exact rfl; exact hM; exact rfl; exact rfl; exact inferInstance; exact inferInstance; simp only [putT, List.set_cons_succ, List.set_cons_zero]) | (apply wl_lda; exact rfl; exact hM; exact rfl; exact rfl; exact inferInstance; exact inferInstance; exact inferInstance; exact inferInstance; simp only [putT, List.set_cons_succ, List.set_cons_zero]) | (apply wl_ldr; exact rfl; exact hM; exact rfl; exact rfl; exact inferInstance; exact inferInstance; exact inferInstance; exact inferInstance; simp only [putT, List.set_cons_succ, List.set_cons_zero]) | (apply wl_st; exact rfl; exact hM; exact rfl; exact rfl; exact rfl; exact rfl; exact inferInstance; exact inferInstance; clear hM; intro ww hM; simp only [putT, List.set_cons_succ, List.set_cons_zero]) | (apply wl_sta; exact rfl; exact hM; exact rfl; exact rfl; exact rfl; exact all_oneCell_toArray One.out; exact inferInstance; exact inferInstance; exact inferInstance; clear hM; intro ww hM; simp only [putT, List.set_cons_succ, List.set_cons_zero]) | (apply wl_bs0; exact rfl; exact hM; exact rfl; exact inferInstance; clear hM; intro gg ww hM; simp only [putT, List.set_cons_succ, List.set_cons_zero]) | (apply wl_bs1a; exact rfl; exact hM; exact rfl; exact inferInstance; exact rfl; exact inferInstance; clear hM; intro gg ww hM; simp only [putT, List.set_cons_succ, List.set_cons_zero]) | (apply wl_bs11; exact rfl; exact hM; exact rfl; exact inferInstance; exact rfl; exact rfl; clear hM; intro gg ww hM; simp only [putT, List.set_cons_succ, List.set_cons_zero]) | (apply wl_conv; exact rfl; exact hM; exact rfl; exact rfl; exact inferInstance; exact inferInstance; simp only [putT, List.set_cons_succ, List.set_cons_zero])))
    go_ret2
    exact ⟨rfl, unhide hsame _ hM.grow⟩

set_option maxRecDepth 100000 in
set_option maxHeartbeats 4000000 in
theorem AppendR_ep (w : World) (g : Nat) (m : PL) (V : Nat → Prop) (h : RefAt w g m V) (p e t q : Int) (v : List (BitVec 8)) (n c : Nat) (D : Option Addr) (hl : v.length = n) (hr : PL.isRec ⟨p, e, t, q, v⟩ = true) (er : Int) (her : (m.ep p < 0 ∧ er = 4) ∨ (0 ≤ m.ep p ∧ e < m.ep p ∧ er = 5) ∨ (0 ≤ m.ep p ∧ e > m.ep p ∧ er = 6)) :
    Calls Try.prog 33 #[.pointer (some ⟨g, 0, none⟩), .agg #[.int .i64 p, .int .i64 e, .int .i64 t, .int .i64 q, .slice D n c]] w fun x w' => x = .returned (.tuple #[.int .i64 0, .int .i64 er]) ∧ StepR w g m V w' := by
  have hsame : Hid (∀ w', Grow w noOwn w' → StepR w g m V w') := hide (fun w' hg => StepR.same h hg)
  obtain ⟨A, B, ca, cb, vs, hh⟩ := h
  simp [PL.isRec, PL.isProd, PL.isTxn] at hr
  have B1 : Hid ((decide (0 ≤ p) && decide (p ≤ 7)) = true) := hide (by simp; omega)
  have B2 : Hid ((decide (0 ≤ e) && decide (e ≤ 100)) = true) := hide (by simp; omega)
  have B3 : Hid ((decide (1 ≤ t) && decide (t ≤ 100)) = true) := hide (by simp; omega)
  have B4 : Hid ((decide (0 ≤ q) && decide (q ≤ 1048576)) = true) := hide (by simp; omega)
  have b5 : n ≤ 200 := by omega
  obtain ⟨k, rfl⟩ : ∃ k : Nat, p = k := ⟨p.toNat, by omega⟩
  have hk8 : k < 8 := by omega
  have hk9 : (k : Int) < 8 := by omega
  obtain ⟨ev, hev⟩ : ∃ ev, ev = m.ep k := ⟨_, rfl⟩
  have hO : Old w noOwn ⟨g, 2 + k, none⟩ (.int .i64 ev) := old_no ((hh.blk.cell (2 + k)).trans (by rw [hev]; exact eps_at hh.e8 _ _ k hk8))
  have hM := Mem.nil w noOwn
  rw [← hev] at her
  clear hl hr hev
  rcases her with ⟨h1, rfl⟩ | ⟨h0, h1, rfl⟩ | ⟨h0, h1, rfl⟩
  all_goals
    go_enter Try.func33, Try.ntmps33
    go_wp2_with (first | (go_at_call 52; refine (in_any _ _ _ _).mono ?_; rintro e1 w2 ⟨rfl, rfl⟩; first | rw [unhide B1] | rw [unhide B2] | rw [unhide B3] | rw [unhide B4]) | ((with_reducible refine wl_shape ?_); first | (apply wl_boxa; exact rfl; exact hM; exact rfl; exact rfl; clear hM; intro gg ww hM; simp only [putT, List.set_cons_succ, List.set_cons_zero]) | (apply wl_box1; exact rfl; exact hM; exact rfl; exact rfl; exact rfl; clear hM; intro gg ww hM; simp only [putT, List.set_cons_succ, List.set_cons_zero]) | (apply wl_alloc; exact rfl; exact hM; exact rfl; exact inferInstance; clear hM; intro gg ww hM; simp only [putT, List.set_cons_succ, List.set_cons_zero]) | (apply wl_ld; exact rfl; exact hM; exact rfl; exact rfl; exact inferInstance; exact inferInstance; simp only [putT, List.set_cons_succ, List.set_cons_zero]) | (apply wl_lda; exact rfl; exact hM; exact rfl; exact rfl; exact inferInstance; exact inferInstance; exact inferInstance; exact inferInstance; simp only [putT, List.set_cons_succ, List.set_cons_zero]) | (apply wl_ldr; exact rfl; exact hM; exact rfl; exact rfl; exact inferInstance; exact inferInstance; exact inferInstance; exact inferInstance; simp only [putT, List.set_cons_succ, List.set_cons_zero]) | (apply wl_st; exact rfl; exact hM; exact rfl; exact rfl; exact rfl; exact rfl; exact inferInstance; exact inferInstance; clear hM; intro ww hM; simp only [putT, List.set_cons_succ, List.set_cons_zero]) | (apply wl_sta; exact rfl; exact hM; exact rfl; exact rfl; exact rfl; exact all_oneCell_toArray One.out; exact inferInstance; exact inferInstance; exact inferInstance; clear hM; intro ww hM; simp only [putT, List.set_cons_succ, List.set_cons_zero]) | (apply wl_bs0; exact rfl; exact hM; exact rfl; exact inferInstance; clear hM; intro gg ww hM; simp only [putT, List.set_cons_succ, List.set_cons_zero]) | (apply wl_bs1a; exact rfl; exact hM; exact rfl; exact inferInstance; exact rfl; exact inferInstance; clear hM; intro gg ww hM; simp only [putT, List.set_cons_succ, List.set_cons_zero]) | (apply wl_bs11; exact rfl; exact hM; exact rfl; exact inferInstance; exact rfl; exact rfl; clear hM; intro gg ww hM; simp only [putT, List.set_cons_succ, List.set_cons_zero]) | (apply wl_conv; exact rfl; exact hM; exact rfl; exact rfl; exact inferInstance; exact inferInstance; simp only [putT, List.set_cons_succ, List.set_cons_zero])))
    refine wp_region_mem [] [] [] hM (by kernel_rfl) (by kernel_rfl) (by kernel_rfl) (by kernel_rfl) ?_; simp only [initS, Act.put, List.setIfInBounds_toArray, List.set_cons_succ, List.set_cons_zero, List.map_cons, List.map_nil]
    repeat (first | (apply gl_move; (first | exact .inl rfl | exact .inr rfl); exact rfl; exact rfl; simp only [setD, List.set_cons_succ, List.set_cons_zero]) | (apply gl_ld; exact rfl; exact rfl; exact rfl; exact inferInstance; exact inferInstance; simp only [setD, List.set_cons_succ, List.set_cons_zero]) | (apply gl_lda; exact rfl; exact rfl; exact rfl; exact inferInstance; exact inferInstance; exact inferInstance; exact inferInstance; simp only [setD, List.set_cons_succ, List.set_cons_zero]) | (apply gl_ldr; exact rfl; exact rfl; exact rfl; exact inferInstance; exact inferInstance; exact inferInstance; exact inferInstance; simp only [setD, List.set_cons_succ, List.set_cons_zero]) | (apply gl_cmp true; exact rfl; exact rfl; exact rfl; exact rfl; (simp only [cmpB, Option.some.injEq, decide_eq_true_eq, ne_eq]; omega); simp only [setD, List.set_cons_succ, List.set_cons_zero]) | (apply gl_cmp false; exact rfl; exact rfl; exact rfl; exact rfl; (simp only [cmpB, Option.some.injEq, decide_eq_false_iff_not, ne_eq]; omega); simp only [setD, List.set_cons_succ, List.set_cons_zero]) | (apply gl_pick; exact rfl; exact rfl; exact rfl; exact rfl; exact rfl; simp only [setD, List.set_cons_succ, List.set_cons_zero, cond_true, cond_false]) | (apply gl_conv; exact rfl; exact rfl; exact rfl; exact inferInstance; exact inferInstance; simp only [setD, List.set_cons_succ, List.set_cons_zero]) | (apply gl_skip; exact rfl; simp only [setD, List.set_cons_succ, List.set_cons_zero]) | (apply gl_pure; exact rfl; intro K hK; go_simp; refine hK _ ?_; clear hK K; simp only [setD, List.set_cons_succ, List.set_cons_zero]))
    refine gw_nil ?_; intro γ w4 hC' hk'; simp only [slAct, slVals, Slot.get]
    replace hM := hC'.1
    clear hC' hk'
    go_wp2_with (first | ((with_reducible refine wl_shape ?_); first | (apply wl_boxa; exact rfl; exact hM; exact rfl; exact rfl; clear hM; intro gg ww hM; simp only [putT, List.set_cons_succ, List.set_cons_zero]) | (apply wl_box1; exact rfl; exact hM; exact rfl; exact rfl; exact rfl; clear hM; intro gg ww hM; simp only [putT, List.set_cons_succ, List.set_cons_zero]) | (apply wl_alloc; exact rfl; exact hM; exact rfl; exact inferInstance; clear hM; intro gg ww hM; simp only [putT, List.set_cons_succ, List.set_cons_zero]) | (apply wl_ld; exact rfl; exact hM; exact rfl; exact rfl; exact inferInstance; exact inferInstance; simp only [putT, List.set_cons_succ, List.set_cons_zero]) | (apply wl_lda; exact rfl; exact hM; exact rfl; exact rfl; exact inferInstance; exact inferInstance; exact inferInstance; exact inferInstance; simp only [putT, List.set_cons_succ, List.set_cons_zero]) | (apply wl_ldr; exact rfl; exact hM; exact rfl; exact rfl; exact inferInstance; exact inferInstance; exact inferInstance; exact inferInstance; simp only [putT, List.set_cons_succ, List.set_cons_zero]) | (apply wl_st; exact rfl; exact hM; exact rfl; exact rfl; exact rfl; exact rfl; exact inferInstance; exact inferInstance; clear hM; intro ww hM; simp only [putT, List.set_cons_succ, List.set_cons_zero]) | (apply wl_sta; exact rfl; exact hM; exact rfl; exact rfl; exact rfl; exact all_oneCell_toArray One.out; exact inferInstance; exact inferInstance; exact inferInstance; clear hM; intro ww hM; simp only [putT, List.set_cons_succ, List.set_cons_zero]) | (apply wl_bs0; exact rfl; exact hM; exact rfl; exact inferInstance; clear hM; intro gg ww hM; simp only [putT, List.set_cons_succ, List.set_cons_zero]) | (apply wl_bs1a; exact rfl; exact hM; exact rfl; exact inferInstance; exact rfl; exact inferInstance; clear hM; intro gg ww hM; simp only [putT, List.set_cons_succ, List.set_cons_zero]) | (apply wl_bs11; exact rfl; exact hM; exact rfl; exact inferInstance; exact rfl; exact rfl; clear hM; intro gg ww hM; simp only [putT, List.set_cons_succ, List.set_cons_zero]) | (apply wl_conv; exact rfl; exact hM; exact rfl; exact rfl; exact inferInstance; exact inferInstance; simp only [putT, List.set_cons_succ, List.set_cons_zero])))
    go_ret2
    exact ⟨rfl, unhide hsame _ hM.grow⟩
end Go.Proofs.Ytechglhkcjgodaa
