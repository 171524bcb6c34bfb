/- fetch's laws: FetchNever. -/
import Derived.Test.YtechglhkcjgodaaFetP
namespace Go.Proofs.Ytechglhkcjgodaa
open Go.RowKit Go.MapKept
set_option linter.unusedSimpArgs false
set_option linter.unusedVariables false
theorem com_is {m : PL} {n : Int} {r : Rec} (hr : r ∈ (comF m 0 n).1) : comS m.spans r.p r.e r.t = true := by
  obtain ⟨k, h1, h2, h3, h4, h5⟩ := scan_spec (fun r => comS m.spans r.p r.e r.t) m.stable n (m.recs.drop (offs 0)) (offs 0) []
  unfold comF at hr
  rw [h2] at hr
  simp only [List.nil_append, List.mem_filter] at hr
  exact hr.2
theorem comS_next {l : List Spn} {k : Nat} (hk : k < l.length) {f : Bool} (p e t : Int) (h : f = comS (l.take k) p e t) : comS (l.take (k + 1)) p e t = (f || (decide (l[k].p = p) && decide (l[k].e = e) && decide (l[k].t = t) && decide (l[k].k = 2))) := by
  rw [List.take_succ_eq_append_getElem hk, comS_snoc, h]
theorem cnt_next {m : PL} (ok : m.Ok) {i : Nat} {r : Rec} (hr : m.recs[i]? = some r) : ((m.recs.take (i + 1)).filter (mfOf m true)).length = ((m.recs.take i).filter (mfOf m true)).length + if (kindAt m r.p r.e r.t == 2) = true then 1 else 0 := by
  obtain ⟨hi, e⟩ := List.getElem?_eq_some_iff.1 hr
  rw [List.take_succ_eq_append_getElem hi, e, List.filter_append, List.length_append, kind_com ok]
  unfold mfOf
  simp only [if_true]
  cases hc : comS m.spans r.p r.e r.t <;> simp [hc]
theorem stop_com {m : PL} {i : Nat} (h : (i = m.recs.length ∨ (m.stable ≤ (i : Int)))) : i = m.recs.length ∨ enOf m true ≤ i := h
section
variable {P : Program} {l : List Oper} {C D : World → Prop} {R R' : World → World → Prop} {d : List Deferred} {Fin : List Slot → Prop} {k : Nat} {o : Oper} {rest : List Oper} {S : List Slot} {bigs preds : List Nat}
/-- Passed over, for what it waits on was passed over. -/
theorem gw_skipU {j : Nat} {want : Bool} {oj : Oper} {t : Nat} (hg : o.guard = some (j, want)) (hj : l[j]? = some oj) (hd : oj.dst = some t) (hs : S[t]? = some (.val undef)) (h : GW P l.toArray C D R R' bigs preds d Fin (k + 1) rest (setD S o.dst (.val undef))) : GW P l.toArray C D R R' bigs preds d Fin k (o :: rest) S :=
  ⟨.val undef, .inl ⟨_, rfl⟩, fun γ w _ _ _ => by
    have hw : Region.wanted o (yielded l.toArray (slAct S γ d).tmps) = false := by
      unfold Region.wanted
      rw [hg]
      unfold yielded
      have e : (l.toArray[j]?).bind (·.dst) = some t := by rw [List.getElem?_toArray, hj]; exact hd
      simp only [e, Option.bind_some]
      rw [slAct_tmp, hs]
      cases want <;> rfl
    rw [if_neg (by rw [hw]; exact Bool.false_ne_true)]
    exact rfl, h⟩
end
attribute [local irreducible] wpList Code.wp GW Calls
set_option maxRecDepth 100000 in
set_option maxHeartbeats 8000000 in
theorem FetchNever_any (w : World) (A : Option Addr) (n c : Nat) (l : List Doing) (vs : List Value) (h : DoR w A n l vs) (hn : n ≤ 2000000000000) :
    Calls Try.prog 4 #[.slice A n c] w fun e w' => e = .returned (.bool true) ∧ Grow w noOwn w' := by
  have hM := Mem.nil w noOwn
  go_enter Try.func4, Try.ntmps4
  go_wp2_with (first
    | (go_at_call 10; refine (long_any w A n c l vs h hn).mono ?_; rintro e1 w1 ⟨b, rfl, rfl⟩; cases b)
    | (go_at_call 11; refine (laid_any hM A n c l vs h hn).mono ?_; rintro e1 w1 ⟨g, g2, m, F, F2, rfl, ok, hsl, hM1⟩; have hsl' : m.spans.length ≤ 1000000 := (by omega); replace hM1 := hM1.perm (List.Perm.swap _ _ _); obtain ⟨A2, B2, ca, cb, v2, V, hM2⟩ := hM1.openR; clear hM hM1; have hM := hM2.perm (List.Perm.swap _ _ _); clear hM2)
    | (go_at_call 12; refine (Committed_any hM ok hsl' 0 1000).mono ?_; obtain ⟨out, hout⟩ : ∃ out, out = (comF m 0 1000).1 := ⟨_, rfl⟩; rw [← hout]; have HOUT := hide hout; clear hout; rintro e1 w1 ⟨Ar, cr, vr, rfl, hvr, hM0⟩; have hM1 := hM0.sub (List.Sublist.cons_cons _ (List.sublist_append_right _ _)); clear hM0; clear hM; have hM := hM1; clear hM1; (try simp only [List.set_cons_succ, List.set_cons_zero] at hM))
    | (go_at_call 18; refine (Spans_pushed 1 hM rfl hsl').mono ?_; rintro e1 w1 ⟨As, cs, rfl, hM1⟩; clear hM; have hM := hM1; clear hM1; (try simp only [List.set_cons_succ, List.set_cons_zero] at hM)))
  · have hlen := ok.len
    have hol : out.length ≤ 128 := by
      rw [unhide HOUT]
      exact Nat.le_trans (com_len m 0 1000) hlen
    have HM := hide hM
    go_loopw [9] (fun ui wr => ∃ i : Nat, i ≤ out.length ∧ ui = .int .i64 i ∧ Mem w noOwn wr [.res (rdF As m.spans.length) (RdP 5 As m.spans.length (spnCells m.spans)), .row (.slice Ar out.length cr) 42 5 out.length (recCells out vr), .res F (LogP F g m), .res F2 (RefE F2 g2 A2 B2 ca cb m v2 V)]) (fun ui _ => out.length - (intOf ui).toNat)
    case atStart => exact ⟨0, Nat.zero_le _, rfl, hM⟩
    case round =>
      clear hM HM
      obtain ⟨i, hi, rfl, hM⟩ := hrel
      by_cases hlt : i < out.length
      · obtain ⟨r, hr⟩ : ∃ r, out[i]? = some r := ⟨_, List.getElem?_eq_getElem hlt⟩
        obtain ⟨v, hv1⟩ : ∃ v, vr[i]? = some v := ⟨_, List.getElem?_eq_getElem (by rw [hvr]; exact hlt)⟩
        have hcom := hide (com_is (m := m) (n := 1000) (r := r) (by rw [← unhide HOUT]; exact List.mem_of_getElem? hr))
        obtain ⟨b, off, rfl, -, -⟩ := rec_range (Reads.of_own (hM.row 1 rfl)) hvr rfl i hlt
        have hrr : out[i] = r := (List.getElem?_eq_some_iff.1 hr).2
        have c1 : ∀ (L' : List Item) [HasRow L' (.slice (some ⟨b, off, none⟩) out.length cr) 42 5 out.length (recCells out vr)], Rng w noOwn L' b (off + i * 5) (recVals r v) := fun L' h => ⟨fun w hM => by
          have h1 : w.ownsRow 0 42 5 (.slice (some ⟨b, off, none⟩) out.length cr) out.length (recCells out vr) := hM.has _ h.out
          obtain ⟨b', off', e2, _, h2⟩ := rec_range (Reads.of_own h1) hvr rfl i hlt
          injection e2 with e2
          injection e2 with e2 e3 _
          subst e2
          subst e3
          rw [hrr] at h2
          rw [List.getElem?_eq_getElem (by rw [hvr]; exact hlt)] at hv1
          injection hv1 with hv1
          rw [hv1] at h2
          exact h2⟩
        have r0 : ∀ (L' : List Item) [HasRow L' (.slice (some ⟨b, off, none⟩) out.length cr) 42 5 out.length (recCells out vr)], Cell w noOwn L' ⟨b, off + i * 5, none⟩ (.int .i64 r.p) := fun L' h => ⟨fun w hM => (c1 L').out w hM 0 _ rfl⟩
        have r1 : ∀ (L' : List Item) [HasRow L' (.slice (some ⟨b, off, none⟩) out.length cr) 42 5 out.length (recCells out vr)], Cell w noOwn L' ⟨b, off + i * 5 + 1, none⟩ (.int .i64 r.e) := fun L' h => ⟨fun w hM => (c1 L').out w hM 1 _ rfl⟩
        have r2 : ∀ (L' : List Item) [HasRow L' (.slice (some ⟨b, off, none⟩) out.length cr) 42 5 out.length (recCells out vr)], Cell w noOwn L' ⟨b, off + i * 5 + 2, none⟩ (.int .i64 r.t) := fun L' h => ⟨fun w hM => (c1 L').out w hM 2 _ rfl⟩
        clear hrr hv1 hr
        go_wp2_with fail
        have HM := hide hM
        go_loopw [10, 11] (fun uf uk wr => ∃ (k : Nat) (f : Bool), k ≤ m.spans.length ∧ Hid (f = comS (m.spans.take k) r.p r.e r.t) ∧ uf = .bool f ∧ uk = .int .i64 k ∧ Mem w noOwn wr [.res (rdF As m.spans.length) (RdP 5 As m.spans.length (spnCells m.spans)), .row (.slice (some ⟨b, off, none⟩) out.length cr) 42 5 out.length (recCells out vr), .res F (LogP F g m), .res F2 (RefE F2 g2 A2 B2 ca cb m v2 V)]) (fun _ uk _ => m.spans.length - (intOf uk).toNat)
        case atStart => exact ⟨0, false, Nat.zero_le _, hide (by simp [comS]), rfl, rfl, hM⟩
        case round =>
          clear hM HM
          obtain ⟨k, f, hk, hf, rfl, rfl, hM⟩ := hrel
          by_cases hkl : k < m.spans.length
          · obtain ⟨b3, off3, rfl⟩ := rd_form (A := As) (n := m.spans.length) (size := 5) (xs := spnCells m.spans) hM (by omega) (by decide)
            have hget := spnCells_get m.spans k hkl
            have hnx := comS_next hkl r.p r.e r.t (unhide hf)
            generalize m.spans[k] = sp at hget hnx
            have c2 : ∀ (L' : List Item) [HasRd L' (some ⟨b3, off3, none⟩) m.spans.length 5 (spnCells m.spans)], Rng w noOwn L' b3 (off3 + k * 5) (spnVals sp) := fun L' h => ⟨fun w hM i v hi => by
              have hi5 : i < 5 := by have := (List.getElem?_eq_some_iff.1 hi).1; simpa [spnVals] using this
              exact (rd_cell h (by decide) (k * 5 + i) (by omega) (by omega) ((hget i hi5).trans hi)).out w hM⟩
            have s0 : ∀ (L' : List Item) [HasRd L' (some ⟨b3, off3, none⟩) m.spans.length 5 (spnCells m.spans)], Cell w noOwn L' ⟨b3, off3 + k * 5, none⟩ (.int .i64 sp.p) := fun L' h => ⟨fun w hM => (c2 L').out w hM 0 _ rfl⟩
            have s1 : ∀ (L' : List Item) [HasRd L' (some ⟨b3, off3, none⟩) m.spans.length 5 (spnCells m.spans)], Cell w noOwn L' ⟨b3, off3 + k * 5 + 1, none⟩ (.int .i64 sp.e) := fun L' h => ⟨fun w hM => (c2 L').out w hM 1 _ rfl⟩
            have s2 : ∀ (L' : List Item) [HasRd L' (some ⟨b3, off3, none⟩) m.spans.length 5 (spnCells m.spans)], Cell w noOwn L' ⟨b3, off3 + k * 5 + 2, none⟩ (.int .i64 sp.t) := fun L' h => ⟨fun w hM => (c2 L').out w hM 2 _ rfl⟩
            have s4 : ∀ (L' : List Item) [HasRd L' (some ⟨b3, off3, none⟩) m.spans.length 5 (spnCells m.spans)], Cell w noOwn L' ⟨b3, off3 + k * 5 + 4, none⟩ (.int .i64 sp.k) := fun L' h => ⟨fun w hM => (c2 L').out w hM 4 _ rfl⟩
            clear hget hf
            have HNX := hide hnx
            clear hnx
            cases f
            · rcases (by omega : sp.p ≠ r.p ∨ (sp.p = r.p ∧ sp.e ≠ r.e) ∨ (sp.p = r.p ∧ sp.e = r.e ∧ sp.t ≠ r.t) ∨ (sp.p = r.p ∧ sp.e = r.e ∧ sp.t = r.t ∧ sp.k ≠ 2) ∨ (sp.p = r.p ∧ sp.e = r.e ∧ sp.t = r.t ∧ sp.k = 2)) with q1 | ⟨q1, q2⟩ | ⟨q1, q2, q3⟩ | ⟨q1, q2, q3, q4⟩ | ⟨q1, q2, q3, q4⟩
              · (go_wp2_with fail; refine wp_region_mem [] [] [] hM (by kernel_rfl) (by kernel_rfl) (by kernel_rfl) (by kernel_rfl) ?_; simp only [initS, Act.put, List.setIfInBounds_toArray, List.set_cons_succ, List.set_cons_zero, List.map_cons, List.map_nil]; (repeat (first | (apply gl_move; (first | exact .inl rfl | exact .inr rfl); exact rfl; exact rfl; simp only [setD, List.set_cons_succ, List.set_cons_zero]) | (apply gl_ld; exact rfl; exact rfl; exact rfl; exact inferInstance; exact inferInstance; simp only [setD, List.set_cons_succ, List.set_cons_zero]) | (apply gl_lda; exact rfl; exact rfl; exact rfl; exact inferInstance; exact inferInstance; exact inferInstance; exact inferInstance; simp only [setD, List.set_cons_succ, List.set_cons_zero]) | (apply gl_ldr; exact rfl; exact rfl; exact rfl; exact inferInstance; exact inferInstance; exact inferInstance; exact inferInstance; simp only [setD, List.set_cons_succ, List.set_cons_zero]) | (apply gl_cmp true; exact rfl; exact rfl; exact rfl; exact rfl; (simp only [cmpB, Option.some.injEq, decide_eq_true_eq, ne_eq]; omega); simp only [setD, List.set_cons_succ, List.set_cons_zero]) | (apply gl_cmp false; exact rfl; exact rfl; exact rfl; exact rfl; (simp only [cmpB, Option.some.injEq, decide_eq_false_iff_not, ne_eq]; omega); simp only [setD, List.set_cons_succ, List.set_cons_zero]) | (apply gl_pick; exact rfl; exact rfl; exact rfl; exact rfl; exact rfl; simp only [setD, List.set_cons_succ, List.set_cons_zero, cond_true, cond_false]) | (apply gl_conv; exact rfl; exact rfl; exact rfl; exact inferInstance; exact inferInstance; simp only [setD, List.set_cons_succ, List.set_cons_zero]) | (apply gl_skip; exact rfl; simp only [setD, List.set_cons_succ, List.set_cons_zero]) | (apply gl_pure; exact rfl; intro K hK; go_simp; refine hK _ ?_; clear hK K; simp only [setD, List.set_cons_succ, List.set_cons_zero]) | (refine gw_skipU rfl rfl rfl rfl ?_; simp only [setD, List.set_cons_succ, List.set_cons_zero]))); refine gw_nil ?_; intro γ w4 hC' hk'; simp only [slAct, slVals, Slot.get]; clear hM; have hM := hC'.1; clear hC' hk'; go_wp2_with fail)
                go_roundw
                case rel => exact ⟨k + 1, false, by omega, hide (by rw [unhide HNX]; simp [q1]), rfl, by go_num, hM⟩
                case measure => simp [intOf]; omega
              · (go_wp2_with fail; refine wp_region_mem [] [] [] hM (by kernel_rfl) (by kernel_rfl) (by kernel_rfl) (by kernel_rfl) ?_; simp only [initS, Act.put, List.setIfInBounds_toArray, List.set_cons_succ, List.set_cons_zero, List.map_cons, List.map_nil]; (repeat (first | (apply gl_move; (first | exact .inl rfl | exact .inr rfl); exact rfl; exact rfl; simp only [setD, List.set_cons_succ, List.set_cons_zero]) | (apply gl_ld; exact rfl; exact rfl; exact rfl; exact inferInstance; exact inferInstance; simp only [setD, List.set_cons_succ, List.set_cons_zero]) | (apply gl_lda; exact rfl; exact rfl; exact rfl; exact inferInstance; exact inferInstance; exact inferInstance; exact inferInstance; simp only [setD, List.set_cons_succ, List.set_cons_zero]) | (apply gl_ldr; exact rfl; exact rfl; exact rfl; exact inferInstance; exact inferInstance; exact inferInstance; exact inferInstance; simp only [setD, List.set_cons_succ, List.set_cons_zero]) | (apply gl_cmp true; exact rfl; exact rfl; exact rfl; exact rfl; (simp only [cmpB, Option.some.injEq, decide_eq_true_eq, ne_eq]; omega); simp only [setD, List.set_cons_succ, List.set_cons_zero]) | (apply gl_cmp false; exact rfl; exact rfl; exact rfl; exact rfl; (simp only [cmpB, Option.some.injEq, decide_eq_false_iff_not, ne_eq]; omega); simp only [setD, List.set_cons_succ, List.set_cons_zero]) | (apply gl_pick; exact rfl; exact rfl; exact rfl; exact rfl; exact rfl; simp only [setD, List.set_cons_succ, List.set_cons_zero, cond_true, cond_false]) | (apply gl_conv; exact rfl; exact rfl; exact rfl; exact inferInstance; exact inferInstance; simp only [setD, List.set_cons_succ, List.set_cons_zero]) | (apply gl_skip; exact rfl; simp only [setD, List.set_cons_succ, List.set_cons_zero]) | (apply gl_pure; exact rfl; intro K hK; go_simp; refine hK _ ?_; clear hK K; simp only [setD, List.set_cons_succ, List.set_cons_zero]) | (refine gw_skipU rfl rfl rfl rfl ?_; simp only [setD, List.set_cons_succ, List.set_cons_zero]))); refine gw_nil ?_; intro γ w4 hC' hk'; simp only [slAct, slVals, Slot.get]; clear hM; have hM := hC'.1; clear hC' hk'; go_wp2_with fail)
                go_roundw
                case rel => exact ⟨k + 1, false, by omega, hide (by rw [unhide HNX]; simp [q1, q2]), rfl, by go_num, hM⟩
                case measure => simp [intOf]; omega
              · (go_wp2_with fail; refine wp_region_mem [] [] [] hM (by kernel_rfl) (by kernel_rfl) (by kernel_rfl) (by kernel_rfl) ?_; simp only [initS, Act.put, List.setIfInBounds_toArray, List.set_cons_succ, List.set_cons_zero, List.map_cons, List.map_nil]; (repeat (first | (apply gl_move; (first | exact .inl rfl | exact .inr rfl); exact rfl; exact rfl; simp only [setD, List.set_cons_succ, List.set_cons_zero]) | (apply gl_ld; exact rfl; exact rfl; exact rfl; exact inferInstance; exact inferInstance; simp only [setD, List.set_cons_succ, List.set_cons_zero]) | (apply gl_lda; exact rfl; exact rfl; exact rfl; exact inferInstance; exact inferInstance; exact inferInstance; exact inferInstance; simp only [setD, List.set_cons_succ, List.set_cons_zero]) | (apply gl_ldr; exact rfl; exact rfl; exact rfl; exact inferInstance; exact inferInstance; exact inferInstance; exact inferInstance; simp only [setD, List.set_cons_succ, List.set_cons_zero]) | (apply gl_cmp true; exact rfl; exact rfl; exact rfl; exact rfl; (simp only [cmpB, Option.some.injEq, decide_eq_true_eq, ne_eq]; omega); simp only [setD, List.set_cons_succ, List.set_cons_zero]) | (apply gl_cmp false; exact rfl; exact rfl; exact rfl; exact rfl; (simp only [cmpB, Option.some.injEq, decide_eq_false_iff_not, ne_eq]; omega); simp only [setD, List.set_cons_succ, List.set_cons_zero]) | (apply gl_pick; exact rfl; exact rfl; exact rfl; exact rfl; exact rfl; simp only [setD, List.set_cons_succ, List.set_cons_zero, cond_true, cond_false]) | (apply gl_conv; exact rfl; exact rfl; exact rfl; exact inferInstance; exact inferInstance; simp only [setD, List.set_cons_succ, List.set_cons_zero]) | (apply gl_skip; exact rfl; simp only [setD, List.set_cons_succ, List.set_cons_zero]) | (apply gl_pure; exact rfl; intro K hK; go_simp; refine hK _ ?_; clear hK K; simp only [setD, List.set_cons_succ, List.set_cons_zero]) | (refine gw_skipU rfl rfl rfl rfl ?_; simp only [setD, List.set_cons_succ, List.set_cons_zero]))); refine gw_nil ?_; intro γ w4 hC' hk'; simp only [slAct, slVals, Slot.get]; clear hM; have hM := hC'.1; clear hC' hk'; go_wp2_with fail)
                go_roundw
                case rel => exact ⟨k + 1, false, by omega, hide (by rw [unhide HNX]; simp [q1, q2, q3]), rfl, by go_num, hM⟩
                case measure => simp [intOf]; omega
              · (go_wp2_with fail; refine wp_region_mem [] [] [] hM (by kernel_rfl) (by kernel_rfl) (by kernel_rfl) (by kernel_rfl) ?_; simp only [initS, Act.put, List.setIfInBounds_toArray, List.set_cons_succ, List.set_cons_zero, List.map_cons, List.map_nil]; (repeat (first | (apply gl_move; (first | exact .inl rfl | exact .inr rfl); exact rfl; exact rfl; simp only [setD, List.set_cons_succ, List.set_cons_zero]) | (apply gl_ld; exact rfl; exact rfl; exact rfl; exact inferInstance; exact inferInstance; simp only [setD, List.set_cons_succ, List.set_cons_zero]) | (apply gl_lda; exact rfl; exact rfl; exact rfl; exact inferInstance; exact inferInstance; exact inferInstance; exact inferInstance; simp only [setD, List.set_cons_succ, List.set_cons_zero]) | (apply gl_ldr; exact rfl; exact rfl; exact rfl; exact inferInstance; exact inferInstance; exact inferInstance; exact inferInstance; simp only [setD, List.set_cons_succ, List.set_cons_zero]) | (apply gl_cmp true; exact rfl; exact rfl; exact rfl; exact rfl; (simp only [cmpB, Option.some.injEq, decide_eq_true_eq, ne_eq]; omega); simp only [setD, List.set_cons_succ, List.set_cons_zero]) | (apply gl_cmp false; exact rfl; exact rfl; exact rfl; exact rfl; (simp only [cmpB, Option.some.injEq, decide_eq_false_iff_not, ne_eq]; omega); simp only [setD, List.set_cons_succ, List.set_cons_zero]) | (apply gl_pick; exact rfl; exact rfl; exact rfl; exact rfl; exact rfl; simp only [setD, List.set_cons_succ, List.set_cons_zero, cond_true, cond_false]) | (apply gl_conv; exact rfl; exact rfl; exact rfl; exact inferInstance; exact inferInstance; simp only [setD, List.set_cons_succ, List.set_cons_zero]) | (apply gl_skip; exact rfl; simp only [setD, List.set_cons_succ, List.set_cons_zero]) | (apply gl_pure; exact rfl; intro K hK; go_simp; refine hK _ ?_; clear hK K; simp only [setD, List.set_cons_succ, List.set_cons_zero]) | (refine gw_skipU rfl rfl rfl rfl ?_; simp only [setD, List.set_cons_succ, List.set_cons_zero]))); refine gw_nil ?_; intro γ w4 hC' hk'; simp only [slAct, slVals, Slot.get]; clear hM; have hM := hC'.1; clear hC' hk'; go_wp2_with fail)
                go_roundw
                case rel => exact ⟨k + 1, false, by omega, hide (by rw [unhide HNX]; simp [q1, q2, q3, q4]), rfl, by go_num, hM⟩
                case measure => simp [intOf]; omega
              · (go_wp2_with fail; refine wp_region_mem [] [] [] hM (by kernel_rfl) (by kernel_rfl) (by kernel_rfl) (by kernel_rfl) ?_; simp only [initS, Act.put, List.setIfInBounds_toArray, List.set_cons_succ, List.set_cons_zero, List.map_cons, List.map_nil]; (repeat (first | (apply gl_move; (first | exact .inl rfl | exact .inr rfl); exact rfl; exact rfl; simp only [setD, List.set_cons_succ, List.set_cons_zero]) | (apply gl_ld; exact rfl; exact rfl; exact rfl; exact inferInstance; exact inferInstance; simp only [setD, List.set_cons_succ, List.set_cons_zero]) | (apply gl_lda; exact rfl; exact rfl; exact rfl; exact inferInstance; exact inferInstance; exact inferInstance; exact inferInstance; simp only [setD, List.set_cons_succ, List.set_cons_zero]) | (apply gl_ldr; exact rfl; exact rfl; exact rfl; exact inferInstance; exact inferInstance; exact inferInstance; exact inferInstance; simp only [setD, List.set_cons_succ, List.set_cons_zero]) | (apply gl_cmp true; exact rfl; exact rfl; exact rfl; exact rfl; (simp only [cmpB, Option.some.injEq, decide_eq_true_eq, ne_eq]; omega); simp only [setD, List.set_cons_succ, List.set_cons_zero]) | (apply gl_cmp false; exact rfl; exact rfl; exact rfl; exact rfl; (simp only [cmpB, Option.some.injEq, decide_eq_false_iff_not, ne_eq]; omega); simp only [setD, List.set_cons_succ, List.set_cons_zero]) | (apply gl_pick; exact rfl; exact rfl; exact rfl; exact rfl; exact rfl; simp only [setD, List.set_cons_succ, List.set_cons_zero, cond_true, cond_false]) | (apply gl_conv; exact rfl; exact rfl; exact rfl; exact inferInstance; exact inferInstance; simp only [setD, List.set_cons_succ, List.set_cons_zero]) | (apply gl_skip; exact rfl; simp only [setD, List.set_cons_succ, List.set_cons_zero]) | (apply gl_pure; exact rfl; intro K hK; go_simp; refine hK _ ?_; clear hK K; simp only [setD, List.set_cons_succ, List.set_cons_zero]) | (refine gw_skipU rfl rfl rfl rfl ?_; simp only [setD, List.set_cons_succ, List.set_cons_zero]))); refine gw_nil ?_; intro γ w4 hC' hk'; simp only [slAct, slVals, Slot.get]; clear hM; have hM := hC'.1; clear hC' hk'; go_wp2_with fail)
                go_roundw
                case rel => exact ⟨k + 1, true, by omega, hide (by rw [unhide HNX]; simp [q1, q2, q3, q4]), rfl, by go_num, hM⟩
                case measure => simp [intOf]; omega
            · (go_wp2_with fail; refine wp_region_mem [] [] [] hM (by kernel_rfl) (by kernel_rfl) (by kernel_rfl) (by kernel_rfl) ?_; simp only [initS, Act.put, List.setIfInBounds_toArray, List.set_cons_succ, List.set_cons_zero, List.map_cons, List.map_nil]; (repeat (first | (apply gl_move; (first | exact .inl rfl | exact .inr rfl); exact rfl; exact rfl; simp only [setD, List.set_cons_succ, List.set_cons_zero]) | (apply gl_ld; exact rfl; exact rfl; exact rfl; exact inferInstance; exact inferInstance; simp only [setD, List.set_cons_succ, List.set_cons_zero]) | (apply gl_lda; exact rfl; exact rfl; exact rfl; exact inferInstance; exact inferInstance; exact inferInstance; exact inferInstance; simp only [setD, List.set_cons_succ, List.set_cons_zero]) | (apply gl_ldr; exact rfl; exact rfl; exact rfl; exact inferInstance; exact inferInstance; exact inferInstance; exact inferInstance; simp only [setD, List.set_cons_succ, List.set_cons_zero]) | (apply gl_cmp true; exact rfl; exact rfl; exact rfl; exact rfl; (simp only [cmpB, Option.some.injEq, decide_eq_true_eq, ne_eq]; omega); simp only [setD, List.set_cons_succ, List.set_cons_zero]) | (apply gl_cmp false; exact rfl; exact rfl; exact rfl; exact rfl; (simp only [cmpB, Option.some.injEq, decide_eq_false_iff_not, ne_eq]; omega); simp only [setD, List.set_cons_succ, List.set_cons_zero]) | (apply gl_pick; exact rfl; exact rfl; exact rfl; exact rfl; exact rfl; simp only [setD, List.set_cons_succ, List.set_cons_zero, cond_true, cond_false]) | (apply gl_conv; exact rfl; exact rfl; exact rfl; exact inferInstance; exact inferInstance; simp only [setD, List.set_cons_succ, List.set_cons_zero]) | (apply gl_skip; exact rfl; simp only [setD, List.set_cons_succ, List.set_cons_zero]) | (apply gl_pure; exact rfl; intro K hK; go_simp; refine hK _ ?_; clear hK K; simp only [setD, List.set_cons_succ, List.set_cons_zero]) | (refine gw_skipU rfl rfl rfl rfl ?_; simp only [setD, List.set_cons_succ, List.set_cons_zero]))); refine gw_nil ?_; intro γ w4 hC' hk'; simp only [slAct, slVals, Slot.get]; clear hM; have hM := hC'.1; clear hC' hk'; go_wp2_with fail)
              go_roundw
              case rel => exact ⟨k + 1, true, by omega, hide (by rw [unhide HNX]; simp), rfl, by go_num, hM⟩
              case measure => simp [intOf]; omega
          · have e : k = m.spans.length := by omega
            subst e
            rw [List.take_length, unhide hcom] at hf
            obtain rfl := unhide hf
            clear hf
            go_wp2_with (first | ((with_reducible refine wl_shape ?_); first | (apply wl_boxa; exact rfl; exact hM; exact rfl; exact rfl; clear hM; intro gg ww hM; simp only [putT, List.set_cons_succ, List.set_cons_zero]) | (apply wl_box1; exact rfl; exact hM; exact rfl; exact rfl; exact rfl; clear hM; intro gg ww hM; simp only [putT, List.set_cons_succ, List.set_cons_zero]) | (apply wl_alloc; exact rfl; exact hM; exact rfl; exact inferInstance; clear hM; intro gg ww hM; simp only [putT, List.set_cons_succ, List.set_cons_zero]) | (apply wl_ld; exact rfl; exact hM; exact rfl; exact rfl; exact inferInstance; exact inferInstance; simp only [putT, List.set_cons_succ, List.set_cons_zero]) | (apply wl_lda; exact rfl; exact hM; exact rfl; exact rfl; exact inferInstance; exact inferInstance; exact inferInstance; exact inferInstance; simp only [putT, List.set_cons_succ, List.set_cons_zero]) | (apply wl_ldr; exact rfl; exact hM; exact rfl; exact rfl; exact inferInstance; exact inferInstance; exact inferInstance; exact inferInstance; simp only [putT, List.set_cons_succ, List.set_cons_zero]) | (apply wl_st; exact rfl; exact hM; exact rfl; exact rfl; exact rfl; exact rfl; exact inferInstance; exact inferInstance; clear hM; intro ww hM; simp only [putT, List.set_cons_succ, List.set_cons_zero]) | (apply wl_sta; exact rfl; exact hM; exact rfl; exact rfl; exact rfl; exact all_oneCell_toArray One.out; exact inferInstance; exact inferInstance; exact inferInstance; clear hM; intro ww hM; simp only [putT, List.set_cons_succ, List.set_cons_zero]) | (apply wl_bs0; exact rfl; exact hM; exact rfl; exact inferInstance; clear hM; intro gg ww hM; simp only [putT, List.set_cons_succ, List.set_cons_zero]) | (apply wl_bs1a; exact rfl; exact hM; exact rfl; exact inferInstance; exact rfl; exact inferInstance; clear hM; intro gg ww hM; simp only [putT, List.set_cons_succ, List.set_cons_zero]) | (apply wl_bs11; exact rfl; exact hM; exact rfl; exact inferInstance; exact rfl; exact rfl; clear hM; intro gg ww hM; simp only [putT, List.set_cons_succ, List.set_cons_zero]) | (apply wl_conv; exact rfl; exact hM; exact rfl; exact rfl; exact inferInstance; exact inferInstance; simp only [putT, List.set_cons_succ, List.set_cons_zero])))
            go_roundw
            case rel => exact ⟨i + 1, by omega, by go_num, hM⟩
            case measure => simp [intOf]; omega
      · have e : i = out.length := by omega
        subst e
        go_wp2_with (first | ((with_reducible refine wl_shape ?_); first | (apply wl_boxa; exact rfl; exact hM; exact rfl; exact rfl; clear hM; intro gg ww hM; simp only [putT, List.set_cons_succ, List.set_cons_zero]) | (apply wl_box1; exact rfl; exact hM; exact rfl; exact rfl; exact rfl; clear hM; intro gg ww hM; simp only [putT, List.set_cons_succ, List.set_cons_zero]) | (apply wl_alloc; exact rfl; exact hM; exact rfl; exact inferInstance; clear hM; intro gg ww hM; simp only [putT, List.set_cons_succ, List.set_cons_zero]) | (apply wl_ld; exact rfl; exact hM; exact rfl; exact rfl; exact inferInstance; exact inferInstance; simp only [putT, List.set_cons_succ, List.set_cons_zero]) | (apply wl_lda; exact rfl; exact hM; exact rfl; exact rfl; exact inferInstance; exact inferInstance; exact inferInstance; exact inferInstance; simp only [putT, List.set_cons_succ, List.set_cons_zero]) | (apply wl_ldr; exact rfl; exact hM; exact rfl; exact rfl; exact inferInstance; exact inferInstance; exact inferInstance; exact inferInstance; simp only [putT, List.set_cons_succ, List.set_cons_zero]) | (apply wl_st; exact rfl; exact hM; exact rfl; exact rfl; exact rfl; exact rfl; exact inferInstance; exact inferInstance; clear hM; intro ww hM; simp only [putT, List.set_cons_succ, List.set_cons_zero]) | (apply wl_sta; exact rfl; exact hM; exact rfl; exact rfl; exact rfl; exact all_oneCell_toArray One.out; exact inferInstance; exact inferInstance; exact inferInstance; clear hM; intro ww hM; simp only [putT, List.set_cons_succ, List.set_cons_zero]) | (apply wl_bs0; exact rfl; exact hM; exact rfl; exact inferInstance; clear hM; intro gg ww hM; simp only [putT, List.set_cons_succ, List.set_cons_zero]) | (apply wl_bs1a; exact rfl; exact hM; exact rfl; exact inferInstance; exact rfl; exact inferInstance; clear hM; intro gg ww hM; simp only [putT, List.set_cons_succ, List.set_cons_zero]) | (apply wl_bs11; exact rfl; exact hM; exact rfl; exact inferInstance; exact rfl; exact rfl; clear hM; intro gg ww hM; simp only [putT, List.set_cons_succ, List.set_cons_zero]) | (apply wl_conv; exact rfl; exact hM; exact rfl; exact rfl; exact inferInstance; exact inferInstance; simp only [putT, List.set_cons_succ, List.set_cons_zero])))
        have hM1 := hM.tail.tail.tail
        clear hM
        have hM := hM1
        clear hM1
        have c0 : ∀ (L' : List Item) [HasRef L' F2 g2 A2 B2 ca cb m v2 V], Cell w noOwn L' ⟨g2, 0, none⟩ (.slice A2 m.recs.length ca) := fun L' h => ⟨fun w hM => (ref_has h hM).blk.cell 0⟩
        have hstl := stable_le' m
        have HS : ∀ w' L', Mem w noOwn w' L' → HasRef L' F2 g2 A2 B2 ca cb m v2 V → Calls Try.prog 19 #[.pointer (some ⟨g2, 0, none⟩)] w' fun e w'' => e = .returned (.int .i64 m.stable) ∧ w' = w'' := fun w' L' hM h =>
          StableR_any w' g2 A2 B2 ca cb m v2 (ref_has h hM).toRefR (by omega)
        have HK : ∀ r v w' L', Mem w noOwn w' L' → HasRef L' F2 g2 A2 B2 ca cb m v2 V → Calls Try.prog 20 #[.pointer (some ⟨g2, 0, none⟩), .agg (recVals r v).toArray] w' fun e w'' => e = .returned (.int .i64 (kindAt m r.p r.e r.t)) ∧ Grow w' noOwn w'' := fun r v w' L' hM h =>
          Kind_any w' g2 A2 B2 ca cb m v2 (ref_has h hM).toRefR hsl' r v
        have hH0 := hide (ref_has (F := F2) (g := g2) (A := A2) (B := B2) (ca := ca) (cb := cb) (m := m) (vs := v2) (V := V) inferInstance hM)
        have HM := hide hM
        go_loopw [8, 12] (fun un ui wr => ∃ i q : Nat, i ≤ m.recs.length ∧ q ≤ i ∧ (i = 0 ∨ (i : Int) ≤ m.stable) ∧ Hid (((m.recs.take i).filter (mfOf m true)).length = q) ∧ un = .int .i64 q ∧ ui = .int .i64 i ∧ Mem w noOwn wr [.res F2 (RefE F2 g2 A2 B2 ca cb m v2 V)]) (fun _ ui _ => m.recs.length - (intOf ui).toNat)
        case atStart => exact ⟨0, 0, Nat.zero_le _, Nat.zero_le _, .inl rfl, hide (by simp), rfl, rfl, hM⟩
        case round =>
          clear hM HM
          obtain ⟨i, q, hi, hqi, his, hq, rfl, rfl, hM⟩ := hrel
          by_cases hlt : i < m.recs.length ∧ (i : Int) < m.stable
          · obtain ⟨hlt, hls⟩ := hlt
            obtain ⟨r, hr⟩ : ∃ r, m.recs[i]? = some r := ⟨_, List.getElem?_eq_getElem hlt⟩
            have hnx := cnt_next ok hr
            rw [unhide hq] at hnx
            have hH := unhide hH0
            obtain ⟨v, hv⟩ : ∃ v, v2[i]? = some v := ⟨_, List.getElem?_eq_getElem (by rw [hH.vl]; exact hlt)⟩
            obtain ⟨b, off, rfl, -, -⟩ := rec_range hH.recs hH.vl rfl i hlt
            obtain ⟨D, q2, cq, e1, -, -, -⟩ := hH.vals i hlt
            have hve : v = .slice D q2 cq := by
              rw [List.getElem?_eq_getElem (by rw [hH.vl]; exact hlt)] at hv
              injection hv with hv
              rw [← hv]
              exact e1
            subst hve
            have hrr : m.recs[i] = r := (List.getElem?_eq_some_iff.1 hr).2
            have c1 : ∀ (L' : List Item) [HasRef L' F2 g2 (some ⟨b, off, none⟩) B2 ca cb m v2 V], Rng w noOwn L' b (off + i * 5) (recVals r (.slice D q2 cq)) := fun L' h => ⟨fun w hM => by
              have h1 := ref_has h hM
              obtain ⟨b', off', e2, _, h2⟩ := rec_range h1.recs h1.vl rfl i hlt
              injection e2 with e2
              injection e2 with e2 e3 _
              subst e2
              subst e3
              rw [hrr] at h2
              rw [List.getElem?_eq_getElem (by rw [h1.vl]; exact hlt)] at hv
              injection hv with hv
              rw [hv] at h2
              exact h2⟩
            clear hrr e1 hv hH hH0 hr hq
            cases hk2 : (kindAt m r.p r.e r.t == 2)
            · rw [hk2] at hnx
              have HNX := hide hnx
              clear hnx
              go_wp2_with (first | ((with_reducible refine wl_shape ?_); first | (apply wl_boxa; exact rfl; exact hM; exact rfl; exact rfl; clear hM; intro gg ww hM; simp only [putT, List.set_cons_succ, List.set_cons_zero]) | (apply wl_box1; exact rfl; exact hM; exact rfl; exact rfl; exact rfl; clear hM; intro gg ww hM; simp only [putT, List.set_cons_succ, List.set_cons_zero]) | (apply wl_alloc; exact rfl; exact hM; exact rfl; exact inferInstance; clear hM; intro gg ww hM; simp only [putT, List.set_cons_succ, List.set_cons_zero]) | (apply wl_ld; exact rfl; exact hM; exact rfl; exact rfl; exact inferInstance; exact inferInstance; simp only [putT, List.set_cons_succ, List.set_cons_zero]) | (apply wl_lda; exact rfl; exact hM; exact rfl; exact rfl; exact inferInstance; exact inferInstance; exact inferInstance; exact inferInstance; simp only [putT, List.set_cons_succ, List.set_cons_zero]) | (apply wl_ldr; exact rfl; exact hM; exact rfl; exact rfl; exact inferInstance; exact inferInstance; exact inferInstance; exact inferInstance; simp only [putT, List.set_cons_succ, List.set_cons_zero]) | (apply wl_st; exact rfl; exact hM; exact rfl; exact rfl; exact rfl; exact rfl; exact inferInstance; exact inferInstance; clear hM; intro ww hM; simp only [putT, List.set_cons_succ, List.set_cons_zero]) | (apply wl_sta; exact rfl; exact hM; exact rfl; exact rfl; exact rfl; exact all_oneCell_toArray One.out; exact inferInstance; exact inferInstance; exact inferInstance; clear hM; intro ww hM; simp only [putT, List.set_cons_succ, List.set_cons_zero]) | (apply wl_bs0; exact rfl; exact hM; exact rfl; exact inferInstance; clear hM; intro gg ww hM; simp only [putT, List.set_cons_succ, List.set_cons_zero]) | (apply wl_bs1a; exact rfl; exact hM; exact rfl; exact inferInstance; exact rfl; exact inferInstance; clear hM; intro gg ww hM; simp only [putT, List.set_cons_succ, List.set_cons_zero]) | (apply wl_bs11; exact rfl; exact hM; exact rfl; exact inferInstance; exact rfl; exact rfl; clear hM; intro gg ww hM; simp only [putT, List.set_cons_succ, List.set_cons_zero]) | (apply wl_conv; exact rfl; exact hM; exact rfl; exact rfl; exact inferInstance; exact inferInstance; simp only [putT, List.set_cons_succ, List.set_cons_zero])) | (go_at_call 19; refine (HS _ _ hM inferInstance).mono ?_; rintro e1 w1 ⟨rfl, rfl⟩) | (go_at_call 20; refine (HK _ _ _ _ hM inferInstance).mono ?_; rintro e1 w1 ⟨rfl, hg⟩; replace hM := hM.call hg; clear hg) | (rw [hk2]))
              go_roundw
              case rel => exact ⟨i + 1, q, by omega, by omega, .inr (by omega), hide (by rw [unhide HNX]; simp), rfl, by go_num, hM⟩
              case measure => simp [intOf]; omega
            · rw [hk2] at hnx
              have HNX := hide hnx
              clear hnx
              go_wp2_with (first | ((with_reducible refine wl_shape ?_); first | (apply wl_boxa; exact rfl; exact hM; exact rfl; exact rfl; clear hM; intro gg ww hM; simp only [putT, List.set_cons_succ, List.set_cons_zero]) | (apply wl_box1; exact rfl; exact hM; exact rfl; exact rfl; exact rfl; clear hM; intro gg ww hM; simp only [putT, List.set_cons_succ, List.set_cons_zero]) | (apply wl_alloc; exact rfl; exact hM; exact rfl; exact inferInstance; clear hM; intro gg ww hM; simp only [putT, List.set_cons_succ, List.set_cons_zero]) | (apply wl_ld; exact rfl; exact hM; exact rfl; exact rfl; exact inferInstance; exact inferInstance; simp only [putT, List.set_cons_succ, List.set_cons_zero]) | (apply wl_lda; exact rfl; exact hM; exact rfl; exact rfl; exact inferInstance; exact inferInstance; exact inferInstance; exact inferInstance; simp only [putT, List.set_cons_succ, List.set_cons_zero]) | (apply wl_ldr; exact rfl; exact hM; exact rfl; exact rfl; exact inferInstance; exact inferInstance; exact inferInstance; exact inferInstance; simp only [putT, List.set_cons_succ, List.set_cons_zero]) | (apply wl_st; exact rfl; exact hM; exact rfl; exact rfl; exact rfl; exact rfl; exact inferInstance; exact inferInstance; clear hM; intro ww hM; simp only [putT, List.set_cons_succ, List.set_cons_zero]) | (apply wl_sta; exact rfl; exact hM; exact rfl; exact rfl; exact rfl; exact all_oneCell_toArray One.out; exact inferInstance; exact inferInstance; exact inferInstance; clear hM; intro ww hM; simp only [putT, List.set_cons_succ, List.set_cons_zero]) | (apply wl_bs0; exact rfl; exact hM; exact rfl; exact inferInstance; clear hM; intro gg ww hM; simp only [putT, List.set_cons_succ, List.set_cons_zero]) | (apply wl_bs1a; exact rfl; exact hM; exact rfl; exact inferInstance; exact rfl; exact inferInstance; clear hM; intro gg ww hM; simp only [putT, List.set_cons_succ, List.set_cons_zero]) | (apply wl_bs11; exact rfl; exact hM; exact rfl; exact inferInstance; exact rfl; exact rfl; clear hM; intro gg ww hM; simp only [putT, List.set_cons_succ, List.set_cons_zero]) | (apply wl_conv; exact rfl; exact hM; exact rfl; exact rfl; exact inferInstance; exact inferInstance; simp only [putT, List.set_cons_succ, List.set_cons_zero])) | (go_at_call 19; refine (HS _ _ hM inferInstance).mono ?_; rintro e1 w1 ⟨rfl, rfl⟩) | (go_at_call 20; refine (HK _ _ _ _ hM inferInstance).mono ?_; rintro e1 w1 ⟨rfl, hg⟩; replace hM := hM.call hg; clear hg) | (rw [hk2]))
              go_roundw
              case rel => exact ⟨i + 1, q + 1, by omega, by omega, .inr (by omega), hide (by rw [unhide HNX]; simp), by go_num, by go_num, hM⟩
              case measure => simp [intOf]; omega
          · have hstop : i = m.recs.length ∨ m.stable ≤ (i : Int) := by omega
            have hsc := sc_com ok hi his hstop rfl
            rw [← unhide HOUT] at hsc
            have hol2 : out.length = q := by rw [hsc]; exact unhide hq
            clear hsc
            subst hol2
            rcases hstop with rfl | hstop
            · go_wp2_with (first | ((with_reducible refine wl_shape ?_); first | (apply wl_boxa; exact rfl; exact hM; exact rfl; exact rfl; clear hM; intro gg ww hM; simp only [putT, List.set_cons_succ, List.set_cons_zero]) | (apply wl_box1; exact rfl; exact hM; exact rfl; exact rfl; exact rfl; clear hM; intro gg ww hM; simp only [putT, List.set_cons_succ, List.set_cons_zero]) | (apply wl_alloc; exact rfl; exact hM; exact rfl; exact inferInstance; clear hM; intro gg ww hM; simp only [putT, List.set_cons_succ, List.set_cons_zero]) | (apply wl_ld; exact rfl; exact hM; exact rfl; exact rfl; exact inferInstance; exact inferInstance; simp only [putT, List.set_cons_succ, List.set_cons_zero]) | (apply wl_lda; exact rfl; exact hM; exact rfl; exact rfl; exact inferInstance; exact inferInstance; exact inferInstance; exact inferInstance; simp only [putT, List.set_cons_succ, List.set_cons_zero]) | (apply wl_ldr; exact rfl; exact hM; exact rfl; exact rfl; exact inferInstance; exact inferInstance; exact inferInstance; exact inferInstance; simp only [putT, List.set_cons_succ, List.set_cons_zero]) | (apply wl_st; exact rfl; exact hM; exact rfl; exact rfl; exact rfl; exact rfl; exact inferInstance; exact inferInstance; clear hM; intro ww hM; simp only [putT, List.set_cons_succ, List.set_cons_zero]) | (apply wl_sta; exact rfl; exact hM; exact rfl; exact rfl; exact rfl; exact all_oneCell_toArray One.out; exact inferInstance; exact inferInstance; exact inferInstance; clear hM; intro ww hM; simp only [putT, List.set_cons_succ, List.set_cons_zero]) | (apply wl_bs0; exact rfl; exact hM; exact rfl; exact inferInstance; clear hM; intro gg ww hM; simp only [putT, List.set_cons_succ, List.set_cons_zero]) | (apply wl_bs1a; exact rfl; exact hM; exact rfl; exact inferInstance; exact rfl; exact inferInstance; clear hM; intro gg ww hM; simp only [putT, List.set_cons_succ, List.set_cons_zero]) | (apply wl_bs11; exact rfl; exact hM; exact rfl; exact inferInstance; exact rfl; exact rfl; clear hM; intro gg ww hM; simp only [putT, List.set_cons_succ, List.set_cons_zero]) | (apply wl_conv; exact rfl; exact hM; exact rfl; exact rfl; exact inferInstance; exact inferInstance; simp only [putT, List.set_cons_succ, List.set_cons_zero])) | (go_at_call 19; refine (HS _ _ hM inferInstance).mono ?_; rintro e1 w1 ⟨rfl, rfl⟩) | (go_at_call 17; refine (known12_any _).mono ?_; rintro e1 w1 ⟨rfl, hg⟩; replace hM := hM.call hg; clear hg))
              go_ret
              exact ⟨rfl, hM.grow⟩
            · go_wp2_with (first | ((with_reducible refine wl_shape ?_); first | (apply wl_boxa; exact rfl; exact hM; exact rfl; exact rfl; clear hM; intro gg ww hM; simp only [putT, List.set_cons_succ, List.set_cons_zero]) | (apply wl_box1; exact rfl; exact hM; exact rfl; exact rfl; exact rfl; clear hM; intro gg ww hM; simp only [putT, List.set_cons_succ, List.set_cons_zero]) | (apply wl_alloc; exact rfl; exact hM; exact rfl; exact inferInstance; clear hM; intro gg ww hM; simp only [putT, List.set_cons_succ, List.set_cons_zero]) | (apply wl_ld; exact rfl; exact hM; exact rfl; exact rfl; exact inferInstance; exact inferInstance; simp only [putT, List.set_cons_succ, List.set_cons_zero]) | (apply wl_lda; exact rfl; exact hM; exact rfl; exact rfl; exact inferInstance; exact inferInstance; exact inferInstance; exact inferInstance; simp only [putT, List.set_cons_succ, List.set_cons_zero]) | (apply wl_ldr; exact rfl; exact hM; exact rfl; exact rfl; exact inferInstance; exact inferInstance; exact inferInstance; exact inferInstance; simp only [putT, List.set_cons_succ, List.set_cons_zero]) | (apply wl_st; exact rfl; exact hM; exact rfl; exact rfl; exact rfl; exact rfl; exact inferInstance; exact inferInstance; clear hM; intro ww hM; simp only [putT, List.set_cons_succ, List.set_cons_zero]) | (apply wl_sta; exact rfl; exact hM; exact rfl; exact rfl; exact rfl; exact all_oneCell_toArray One.out; exact inferInstance; exact inferInstance; exact inferInstance; clear hM; intro ww hM; simp only [putT, List.set_cons_succ, List.set_cons_zero]) | (apply wl_bs0; exact rfl; exact hM; exact rfl; exact inferInstance; clear hM; intro gg ww hM; simp only [putT, List.set_cons_succ, List.set_cons_zero]) | (apply wl_bs1a; exact rfl; exact hM; exact rfl; exact inferInstance; exact rfl; exact inferInstance; clear hM; intro gg ww hM; simp only [putT, List.set_cons_succ, List.set_cons_zero]) | (apply wl_bs11; exact rfl; exact hM; exact rfl; exact inferInstance; exact rfl; exact rfl; clear hM; intro gg ww hM; simp only [putT, List.set_cons_succ, List.set_cons_zero]) | (apply wl_conv; exact rfl; exact hM; exact rfl; exact rfl; exact inferInstance; exact inferInstance; simp only [putT, List.set_cons_succ, List.set_cons_zero])) | (go_at_call 19; refine (HS _ _ hM inferInstance).mono ?_; rintro e1 w1 ⟨rfl, rfl⟩) | (go_at_call 17; refine (known12_any _).mono ?_; rintro e1 w1 ⟨rfl, hg⟩; replace hM := hM.call hg; clear hg))
              all_goals
                go_ret
                exact ⟨rfl, hM.grow⟩
  all_goals
    go_ret
    exact ⟨rfl, hM.grow⟩
end Go.Proofs.Ytechglhkcjgodaa
