/- plog: the reference's log: End. -/
import Derived.Test.YtechglhkcjgodaaPlogR3
import Derived.Test.YtechglhkcjgodaaPlog12
namespace Go.Proofs.Ytechglhkcjgodaa
open Go.RowKit Go.MapKept
set_option linter.unusedSimpArgs false
attribute [local irreducible] wpList Code.wp GW Calls

def refT : TypeId := 45
theorem refStep {w w' : World} {g : Nat} {A B A' B' : Option Addr} {ca cb ca' cb' : Nat} {m m' : PL} {vs vs' : List Value} {V : Nat → Prop} (hh : RefHas w g A B ca cb m vs V) (hg : Grow w (own1 g) w')
    (hb : Blk w' g 45 (.slice A' m'.recs.length ca' :: .slice B' m'.spans.length cb' :: m'.eps.map (Value.int .i64)).toArray) (h8 : m'.eps.length = 8) (hr : Rows w' A' B' m' vs')
    (ha : ∀ ad, A' = some ad → V ad.block ∨ (w.heap.size ≤ ad.block ∧ ad.block < w'.heap.size)) (hb' : ∀ ad, B' = some ad → V ad.block ∨ (w.heap.size ≤ ad.block ∧ ad.block < w'.heap.size))
    (hv : ∀ i (h : i < m'.recs.length), ∃ D n c, vs'[i]'(by rw [hr.vl]; exact h) = .slice D n c ∧ ∀ ad, D = some ad → V ad.block ∨ (w.heap.size ≤ ad.block ∧ ad.block < w'.heap.size)) (hcap : m'.recs.length ≤ ca') : StepR w g m' V w' :=
  ⟨fun i => V i ∨ (w.heap.size ≤ i ∧ i < w'.heap.size), ⟨A', B', ca', cb', vs', ⟨⟨hr, h8, hb⟩, fun i hi => by
    rcases hi with hi | hi
    · have := hh.low i hi; have := hg.size; omega
    · exact hi.2, fun hi => by
    rcases hi with hi | hi
    · exact hh.far hi
    · have := hh.blk.lt; omega, ha, hb', hv, hcap⟩⟩, hg, fun i hi => by
    rcases hi with hi | hi
    · exact .inl hi
    · exact .inr hi.1⟩
theorem RefHas.rowsG {w w' : World} {g : Nat} {A B : Option Addr} {ca cb : Nat} {m : PL} {vs : List Value} {V : Nat → Prop} (h : RefHas w g A B ca cb m vs V) (hg : Grow w (own1 g) w') : Rows w' A B m vs :=
  h.rows hg.size (fun i hi => hg.block i (h.low i hi) (fun (e : i = g) => h.far (e ▸ hi)))
theorem row_new {w w' : World} {g : Nat} {L : List Item} (hM : Mem w (own1 g) w' L) (i j : Nat) {A : Option Addr} {n c size : Nat} {e t : TypeId} {xs : List Value} {cs : Array Value} (hi : L[i]? = some (.row (.slice A n c) e size n xs)) (hj : L[j]? = some (.blk g t cs)) (hij : i ≠ j) :
    ∀ ad, A = some ad → w.heap.size ≤ ad.block ∧ ad.block < w'.heap.size := fun ad e1 => by
  obtain ⟨g', rfl⟩ : ∃ g', A = some ⟨g', 0, none⟩ := by
    rcases (hM.row i hi).2 with ⟨e2, _⟩ | ⟨g', cap, cur, e2, _⟩
    · injection e2 with e2; rw [e1] at e2; cases e2
    · injection e2 with e2; exact ⟨g', e2⟩
  injection e1 with e1
  subst e1
  refine ⟨?_, hM.lt i hi rfl⟩
  rcases hM.own_ i hi (g := g') rfl with h | h
  · exact (hM.ne i j hi hj hij (g := g') rfl (by rw [show g' = g from h]; rfl)).elim
  · exact h
set_option maxRecDepth 100000 in
set_option maxHeartbeats 4000000 in
theorem EndR_any (w : World) (g : Nat) (m : PL) (V : Nat → Prop) (h : RefAt w g m V) (hs : m.spans.length ≤ 1000000) (p e t : Int) (c : Bool) :
    Calls Try.prog 34 #[.pointer (some ⟨g, 0, none⟩), .int .i64 p, .int .i64 e, .int .i64 t, .bool c] w fun x w' => x = .returned (.int .i64 (m.endd p e t c).2) ∧ StepR w g (m.endd p e t c).1 V w' := by
  have hsame : Hid (∀ w', Grow w noOwn w' → StepR w g m V w') := hide (fun w' hg => StepR.same h hg)
  obtain ⟨A, B, ca, cb, vs, hh⟩ := h
  rcases (by by_cases b1 : decide (0 ≤ p) && decide (p ≤ 7) <;> by_cases b2 : decide (0 ≤ e) && decide (e ≤ 100) <;> by_cases b3 : decide (1 ≤ t) && decide (t ≤ 100) <;> simp [b1, b2, b3] :
    (decide (0 ≤ p) && decide (p ≤ 7)) = false ∨ ((decide (0 ≤ p) && decide (p ≤ 7)) = true ∧ (decide (0 ≤ e) && decide (e ≤ 100)) = false) ∨ ((decide (0 ≤ p) && decide (p ≤ 7)) = true ∧ (decide (0 ≤ e) && decide (e ≤ 100)) = true ∧ (decide (1 ≤ t) && decide (t ≤ 100)) = false) ∨ ((decide (0 ≤ p) && decide (p ≤ 7)) = true ∧ (decide (0 ≤ e) && decide (e ≤ 100)) = true ∧ (decide (1 ≤ t) && decide (t ≤ 100)) = true)) with b1 | ⟨b1, b2⟩ | ⟨b1, b2, b3⟩ | ⟨b1, b2, b3⟩
  · have hl : m.endd p e t c = (m, 1) := by unfold PL.endd; rw [if_pos (by simp [PL.isProd, PL.isTxn]; simp at b1; omega)]
    rw [hl]
    have B1 := hide b1
    clear hl b1
    go_enter Try.func34, Try.ntmps34
    go_wp2_with (go_at_call 52; refine (in_any _ _ _ _).mono ?_; rintro e1 w2 ⟨rfl, rfl⟩; first | rw [unhide B1])
    go_ret
    exact ⟨rfl, unhide hsame _ (Grow.refl _ _)⟩
  · have hl : m.endd p e t c = (m, 1) := by unfold PL.endd; rw [if_pos (by simp [PL.isProd, PL.isTxn]; simp at b1 b2; omega)]
    rw [hl]
    have B1 := hide b1
    have B2 := hide b2
    clear hl b1 b2
    go_enter Try.func34, Try.ntmps34
    go_wp2_with (go_at_call 52; refine (in_any _ _ _ _).mono ?_; rintro e1 w2 ⟨rfl, rfl⟩; first | rw [unhide B1] | rw [unhide B2])
    go_ret
    exact ⟨rfl, unhide hsame _ (Grow.refl _ _)⟩
  · have hl : m.endd p e t c = (m, 1) := by unfold PL.endd; rw [if_pos (by simp [PL.isProd, PL.isTxn]; simp at b1 b2 b3; omega)]
    rw [hl]
    have B1 := hide b1
    have B2 := hide b2
    have B3 := hide b3
    clear hl b1 b2 b3
    go_enter Try.func34, Try.ntmps34
    go_wp2_with (go_at_call 52; refine (in_any _ _ _ _).mono ?_; rintro e1 w2 ⟨rfl, rfl⟩; first | rw [unhide B1] | rw [unhide B2] | rw [unhide B3])
    go_ret
    exact ⟨rfl, unhide hsame _ (Grow.refl _ _)⟩
  · have hp : (PL.isProd p e && PL.isTxn t) = true := by simp at b1 b2 b3; simp [PL.isProd, PL.isTxn]; omega
    have HS : ∀ w1, Grow w noOwn w1 → Calls Try.prog 42 #[.pointer (some ⟨g, 0, none⟩), .int .i64 p, .int .i64 e, .int .i64 t] w1 fun x w' => x = .returned (.int .i64 (m.spanAt p e t)) ∧ w1 = w' := fun w1 hg => spanR_any w1 g A B ca cb m vs (hh.toRefR.grow hg) (by omega) p e t
    have hM : Mem w (own1 g) w _ := Mem.start1 hh.blk rfl
    have hB : Rds w (own1 g) B m.spans.length 5 (spnCells m.spans) := rds_far hh.spans (fun _ ad e2 (h : ad.block = g) => hh.far (h ▸ hh.vb ad e2))
    have B1 := hide b1
    have B2 := hide b2
    have B3 := hide b3
    clear b1 b2 b3
    cases hi : m.spans.findIdx? (fun s => decide (s.p = p) && decide (s.e = e) && decide (s.t = t)) with
    | none =>
      have hl : m.endd p e t c = ({ m with spans := m.spans ++ [⟨p, e, t, -1, kindOf c⟩] }, 0) := by
        unfold PL.endd
        rw [if_neg (by rw [hp]; simp), hi]
        rfl
      rw [hl]
      rw [PL.spanAt_none hi] at HS
      clear hl hi hp
      cases c
      all_goals
        go_enter Try.func34, Try.ntmps34
        go_wp2_with (first
          | (go_at_call 52; refine (in_any _ _ _ _).mono ?_; rintro e1 w2 ⟨rfl, rfl⟩; first | rw [unhide B1] | rw [unhide B2] | rw [unhide B3])
          | (go_at_call 42; refine (HS _ (Grow.refl _ _)).mono ?_; rintro e1 w2 ⟨rfl, rfl⟩)
          | ((with_reducible refine wl_shape ?_); first | (apply wl_boxa; exact rfl; exact hM; exact rfl; exact rfl; clear hM; intro gg ww hM; simp only [putT, List.set_cons_succ, List.set_cons_zero]) | (apply wl_box1; exact rfl; exact hM; exact rfl; exact rfl; exact rfl; clear hM; intro gg ww hM; simp only [putT, List.set_cons_succ, List.set_cons_zero]) | (apply wl_alloc; exact rfl; exact hM; exact rfl; exact inferInstance; clear hM; intro gg ww hM; simp only [putT, List.set_cons_succ, List.set_cons_zero]) | (apply wl_ld; exact rfl; exact hM; exact rfl; exact rfl; exact inferInstance; exact inferInstance; simp only [putT, List.set_cons_succ, List.set_cons_zero]) | (apply wl_lda; exact rfl; exact hM; exact rfl; exact rfl; exact inferInstance; exact inferInstance; exact inferInstance; exact inferInstance; simp only [putT, List.set_cons_succ, List.set_cons_zero]) | (apply wl_ldr; exact rfl; exact hM; exact rfl; exact rfl; exact inferInstance; exact inferInstance; exact inferInstance; exact inferInstance; simp only [putT, List.set_cons_succ, List.set_cons_zero]) | (apply wl_st; exact rfl; exact hM; exact rfl; exact rfl; exact rfl; exact rfl; exact inferInstance; exact inferInstance; clear hM; intro ww hM; simp only [putT, List.set_cons_succ, List.set_cons_zero]) | (apply wl_sta; exact rfl; exact hM; exact rfl; exact rfl; exact rfl; exact all_oneCell_toArray One.out; exact inferInstance; exact inferInstance; exact inferInstance; clear hM; intro ww hM; simp only [putT, List.set_cons_succ, List.set_cons_zero]) | (apply wl_bs0; exact rfl; exact hM; exact rfl; exact inferInstance; clear hM; intro gg ww hM; simp only [putT, List.set_cons_succ, List.set_cons_zero]) | (apply wl_bs1a; exact rfl; exact hM; exact rfl; exact inferInstance; exact rfl; exact inferInstance; clear hM; intro gg ww hM; simp only [putT, List.set_cons_succ, List.set_cons_zero]) | (apply wl_bs11; exact rfl; exact hM; exact rfl; exact inferInstance; exact rfl; exact rfl; clear hM; intro gg ww hM; simp only [putT, List.set_cons_succ, List.set_cons_zero]) | (apply wl_conv; exact rfl; exact hM; exact rfl; exact rfl; exact inferInstance; exact inferInstance; simp only [putT, List.set_cons_succ, List.set_cons_zero]))
          | (apply wl_appv; exact rfl; exact hM; exact rfl; exact inferInstance; exact rfl; exact rfl; exact hB; exact One.out; exact inferInstance; (unfold maxLen; omega); omega; exact Nat.zero_add _; exact List.nil_append _; clear hM; intro A4 c4 ww hM; simp only [List.set_cons_succ, List.set_cons_zero] at hM; simp only [putT, List.set_cons_succ, List.set_cons_zero])
          | (apply wl_app; exact rfl; exact hM; exact rfl; exact inferInstance; exact rfl; exact rfl; exact inferInstance; exact One.out; exact inferInstance; (unfold maxLen; omega); omega; exact rfl; exact rfl; clear hM; intro A5 c5 ww hM; simp only [List.set_cons_succ, List.set_cons_zero] at hM; simp only [putT, List.set_cons_succ, List.set_cons_zero]))
        go_ret
        refine ⟨rfl, ?_⟩
        have hr := hh.rowsG hM.grow
        have hlen : ∀ x : Spn, (m.spans ++ [x]).length = m.spans.length + 1 := fun x => by simp
        have hcs : ∀ x : Spn, spnCells (m.spans ++ [x]) = spnCells m.spans ++ spnVals x := fun x => by rw [spnCells_append]; simp [spnCells]
        refine refStep (ca' := ca) (A' := A) hh hM.grow (by simp only [hlen]; exact hM.blk 2 rfl) hh.e8 ⟨hr.vl, hr.recs, ?_, hr.vals⟩ (fun ad e => .inl (hh.va ad e)) (fun ad e => .inr (row_new hM 1 2 rfl rfl (by omega) ad e)) (fun i hi => by obtain ⟨D, n, c, e1, e2⟩ := hh.vv i hi; exact ⟨D, n, c, e1, fun ad e => .inl (e2 ad e)⟩) hh.cap
        simp only [hlen, hcs]
        exact Reads.of_own (hM.row 1 rfl)
    | some i =>
      have hil : i < m.spans.length := by
        rw [List.findIdx?_eq_some_iff_getElem] at hi
        exact hi.1
      obtain ⟨K, hK⟩ : ∃ K, K = (m.spans.getD i ⟨0, 0, 0, 0, 0⟩).k := ⟨_, rfl⟩
      have hl : m.endd p e t c = if K ≠ 0 ∧ K ≠ kindOf c then (m, 6) else ({ m with spans := m.spans.modify i (fun s => { s with k := kindOf c }) }, 0) := by
        unfold PL.endd
        rw [if_neg (by rw [hp]; simp), hi, hK]
        rfl
      rw [PL.spanAt_some hi] at HS
      obtain ⟨b, off, rfl, hbB, _, _, _, _, d4⟩ := spn_cells5 hh.spans rfl i hil
      have hbg : ¬ own1 g b := fun (e2 : b = g) => hh.far (e2 ▸ hh.vb _ rfl)
      rw [show m.spans[i].k = K from by rw [hK]; simp [hil]] at d4
      have hO : Old w (own1 g) ⟨b, off + i * 5 + 4, none⟩ (.int .i64 K) := ⟨d4, hbg⟩
      clear hi hp hK d4
      by_cases hc : K ≠ 0 ∧ K ≠ kindOf c
      · rw [hl, if_pos hc]
        obtain ⟨hc1, hc2⟩ := hc
        clear hl
        cases c
        all_goals
          simp only [kindOf, Bool.false_eq_true, if_false, if_true] at hc2
          have b1 : (K != 0) = true := by simpa using hc1
          have b2 := bne_iff_ne.2 hc2
          clear hc1 hc2
          go_enter Try.func34, Try.ntmps34
          go_wp2_with (first
            | (go_at_call 52; refine (in_any _ _ _ _).mono ?_; rintro e1 w2 ⟨rfl, rfl⟩; first | rw [unhide B1] | rw [unhide B2] | rw [unhide B3])
            | (go_at_call 42; refine (HS _ (Grow.refl _ _)).mono ?_; rintro e1 w2 ⟨rfl, rfl⟩)
            | ((with_reducible refine wl_shape ?_); first | (apply wl_boxa; exact rfl; exact hM; exact rfl; exact rfl; clear hM; intro gg ww hM; simp only [putT, List.set_cons_succ, List.set_cons_zero]) | (apply wl_box1; exact rfl; exact hM; exact rfl; exact rfl; exact rfl; clear hM; intro gg ww hM; simp only [putT, List.set_cons_succ, List.set_cons_zero]) | (apply wl_alloc; exact rfl; exact hM; exact rfl; exact inferInstance; clear hM; intro gg ww hM; simp only [putT, List.set_cons_succ, List.set_cons_zero]) | (apply wl_ld; exact rfl; exact hM; exact rfl; exact rfl; exact inferInstance; exact inferInstance; simp only [putT, List.set_cons_succ, List.set_cons_zero]) | (apply wl_lda; exact rfl; exact hM; exact rfl; exact rfl; exact inferInstance; exact inferInstance; exact inferInstance; exact inferInstance; simp only [putT, List.set_cons_succ, List.set_cons_zero]) | (apply wl_ldr; exact rfl; exact hM; exact rfl; exact rfl; exact inferInstance; exact inferInstance; exact inferInstance; exact inferInstance; simp only [putT, List.set_cons_succ, List.set_cons_zero]) | (apply wl_st; exact rfl; exact hM; exact rfl; exact rfl; exact rfl; exact rfl; exact inferInstance; exact inferInstance; clear hM; intro ww hM; simp only [putT, List.set_cons_succ, List.set_cons_zero]) | (apply wl_sta; exact rfl; exact hM; exact rfl; exact rfl; exact rfl; exact all_oneCell_toArray One.out; exact inferInstance; exact inferInstance; exact inferInstance; clear hM; intro ww hM; simp only [putT, List.set_cons_succ, List.set_cons_zero]) | (apply wl_bs0; exact rfl; exact hM; exact rfl; exact inferInstance; clear hM; intro gg ww hM; simp only [putT, List.set_cons_succ, List.set_cons_zero]) | (apply wl_bs1a; exact rfl; exact hM; exact rfl; exact inferInstance; exact rfl; exact inferInstance; clear hM; intro gg ww hM; simp only [putT, List.set_cons_succ, List.set_cons_zero]) | (apply wl_bs11; exact rfl; exact hM; exact rfl; exact inferInstance; exact rfl; exact rfl; clear hM; intro gg ww hM; simp only [putT, List.set_cons_succ, List.set_cons_zero]) | (apply wl_conv; exact rfl; exact hM; exact rfl; exact rfl; exact inferInstance; exact inferInstance; simp only [putT, List.set_cons_succ, List.set_cons_zero])))
          go_ret
          exact ⟨rfl, unhide hsame _ (Grow.refl _ _)⟩
      · rw [hl, if_neg hc]
        have hc' : K = 0 ∨ (K ≠ 0 ∧ K = kindOf c) := by
          by_cases h0 : K = 0
          · exact .inl h0
          · exact .inr ⟨h0, Classical.byContradiction fun hh => hc ⟨h0, hh⟩⟩
        clear hl hc
        have fin : Hid (∀ (w6 : World) (A4 : Option Addr) (c4 : Nat) (g4 : Nat), Mem w (own1 g) w6 [.row (.slice A4 m.spans.length c4) 39 5 m.spans.length ((spnCells m.spans).set (i * 5 + 4) (.int .i64 (kindOf c))), .blk g 45 (.slice A m.recs.length ca :: .slice A4 m.spans.length c4 :: m.eps.map (Value.int .i64)).toArray] → StepR w g { m with spans := m.spans.modify i (fun s => { s with k := kindOf c }) } V w6) := hide (fun w6 A4 c4 g4 hM => by
          have hr := hh.rowsG hM.grow
          have hlen : (m.spans.modify i (fun s => { s with k := kindOf c })).length = m.spans.length := by simp
          refine refStep (ca' := ca) (A' := A) hh hM.grow (by simp only [hlen]; exact hM.blk 1 rfl) hh.e8 ⟨hr.vl, hr.recs, ?_, hr.vals⟩ (fun ad e => .inl (hh.va ad e)) (fun ad e => .inr (row_new hM 0 1 rfl rfl (by omega) ad e)) (fun i hi => by obtain ⟨D, n, c, e1, e2⟩ := hh.vv i hi; exact ⟨D, n, c, e1, fun ad e => .inl (e2 ad e)⟩) hh.cap
          simp only [hlen]
          rw [← spnCells_set]
          exact Reads.of_own (hM.row 0 rfl))
        rcases hc' with rfl | ⟨hc1, rfl⟩
        all_goals
          cases c
          all_goals
            try clear hc1
            try simp only [kindOf, Bool.false_eq_true, if_false, if_true] at hO
            go_enter Try.func34, Try.ntmps34
            go_wp2_with (first
              | (go_at_call 52; refine (in_any _ _ _ _).mono ?_; rintro e1 w2 ⟨rfl, rfl⟩; first | rw [unhide B1] | rw [unhide B2] | rw [unhide B3])
              | (go_at_call 42; refine (HS _ (Grow.refl _ _)).mono ?_; rintro e1 w2 ⟨rfl, rfl⟩)
              | ((with_reducible refine wl_shape ?_); first | (apply wl_boxa; exact rfl; exact hM; exact rfl; exact rfl; clear hM; intro gg ww hM; simp only [putT, List.set_cons_succ, List.set_cons_zero]) | (apply wl_box1; exact rfl; exact hM; exact rfl; exact rfl; exact rfl; clear hM; intro gg ww hM; simp only [putT, List.set_cons_succ, List.set_cons_zero]) | (apply wl_alloc; exact rfl; exact hM; exact rfl; exact inferInstance; clear hM; intro gg ww hM; simp only [putT, List.set_cons_succ, List.set_cons_zero]) | (apply wl_ld; exact rfl; exact hM; exact rfl; exact rfl; exact inferInstance; exact inferInstance; simp only [putT, List.set_cons_succ, List.set_cons_zero]) | (apply wl_lda; exact rfl; exact hM; exact rfl; exact rfl; exact inferInstance; exact inferInstance; exact inferInstance; exact inferInstance; simp only [putT, List.set_cons_succ, List.set_cons_zero]) | (apply wl_ldr; exact rfl; exact hM; exact rfl; exact rfl; exact inferInstance; exact inferInstance; exact inferInstance; exact inferInstance; simp only [putT, List.set_cons_succ, List.set_cons_zero]) | (apply wl_st; exact rfl; exact hM; exact rfl; exact rfl; exact rfl; exact rfl; exact inferInstance; exact inferInstance; clear hM; intro ww hM; simp only [putT, List.set_cons_succ, List.set_cons_zero]) | (apply wl_sta; exact rfl; exact hM; exact rfl; exact rfl; exact rfl; exact all_oneCell_toArray One.out; exact inferInstance; exact inferInstance; exact inferInstance; clear hM; intro ww hM; simp only [putT, List.set_cons_succ, List.set_cons_zero]) | (apply wl_bs0; exact rfl; exact hM; exact rfl; exact inferInstance; clear hM; intro gg ww hM; simp only [putT, List.set_cons_succ, List.set_cons_zero]) | (apply wl_bs1a; exact rfl; exact hM; exact rfl; exact inferInstance; exact rfl; exact inferInstance; clear hM; intro gg ww hM; simp only [putT, List.set_cons_succ, List.set_cons_zero]) | (apply wl_bs11; exact rfl; exact hM; exact rfl; exact inferInstance; exact rfl; exact rfl; clear hM; intro gg ww hM; simp only [putT, List.set_cons_succ, List.set_cons_zero]) | (apply wl_conv; exact rfl; exact hM; exact rfl; exact rfl; exact inferInstance; exact inferInstance; simp only [putT, List.set_cons_succ, List.set_cons_zero]))
              | ((apply wl_appv; exact rfl; exact hM; exact rfl; exact inferInstance; exact rfl; exact rfl; exact hB; exact One.out; exact inferInstance; (unfold maxLen; omega); omega; exact Nat.zero_add _; exact List.nil_append _; clear hM; intro A4 c4 ww hM; simp only [List.set_cons_succ, List.set_cons_zero] at hM; simp only [putT, List.set_cons_succ, List.set_cons_zero]); obtain ⟨gr, rfl, _⟩ := row_some (hM.row 0 rfl) (show 0 < m.spans.length by omega))
              | (refine wpList_store_rowcell rfl 3 _ _ rfl hM 0 _ m.spans.length c4 5 (i * 5 + 4) _ _ rfl (by rw [spnCells_length]; omega) rfl _ rfl rfl (by kernel_rfl) ?_; clear hM; intro w6 hM))
            go_ret
            exact ⟨rfl, unhide fin _ _ _ 0 hM⟩
end Go.Proofs.Ytechglhkcjgodaa
