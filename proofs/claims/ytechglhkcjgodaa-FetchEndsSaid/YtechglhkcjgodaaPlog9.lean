/- plog: Learn; Stable. -/
import Derived.Test.YtechglhkcjgodaaPlog8
import Derived.Test.YtechglhkcjgodaaMxMn
namespace Go.Proofs.Ytechglhkcjgodaa
open Go.RowKit Go.MapKept
set_option linter.unusedSimpArgs false

def PL.epv (m : PL) (p : Int) : Int := if 0 ≤ m.ep p then m.ep p else 0
theorem epf_get (m : PL) (p : Int) (hp : 0 ≤ p) : (epf m p).getD (.int .i64 0) = .int .i64 (m.epv p) := by
  unfold epf PL.epv
  by_cases h : 0 ≤ m.ep p <;> simp [h, hp]
theorem isProd_p {p e : Int} (h : PL.isProd p e = true) : 0 ≤ p ∧ p < 8 ∧ 0 ≤ e ∧ e ≤ 100 := by
  simp only [PL.isProd, Bool.and_eq_true, decide_eq_true_eq] at h
  omega
theorem learn_epf (m : PL) (p e : Int) (h8 : m.eps.length = 8) (hp : PL.isProd p e = true) : (fun j => if j = p then some (Value.int .i64 (max (m.epv p) e)) else epf m j) = epf (m.learn p e).1 := by
  have hh := isProd_p hp
  have hl : (m.learn p e).1.eps = m.eps.set p.toNat (max (m.ep p) e) := by
    unfold PL.learn
    rw [if_pos hp]
  have hep : ∀ j : Int, 0 ≤ j → (m.learn p e).1.ep j = if j = p then max (m.ep p) e else m.ep j := fun j hj => by
    unfold PL.ep
    rw [hl, List.getD_eq_getElem?_getD, List.getElem?_set]
    by_cases hjp : j = p
    · subst hjp
      rw [if_pos rfl, if_pos (by omega), if_pos rfl]
      rfl
    · rw [if_neg (by omega), if_neg hjp]
      simp
  funext j
  unfold epf
  by_cases hj : 0 ≤ j
  · rw [hep j hj]
    by_cases hjp : j = p
    · subst hjp
      rw [if_pos rfl, if_pos rfl, if_pos ⟨hj, by omega⟩]
      unfold PL.epv
      congr 2
      split <;> omega
    · rw [if_neg hjp, if_neg hjp]
  · have hjp : j ≠ p := by omega
    rw [if_neg hjp, if_neg (fun h => hj h.1), if_neg (fun h => hj h.1)]
theorem learn_rows (m : PL) (p e : Int) : (m.learn p e).1.recs = m.recs ∧ (m.learn p e).1.spans = m.spans := by
  unfold PL.learn
  split <;> exact ⟨rfl, rfl⟩

/-- What a step leaves of a log. -/
def Step (w : World) (g : Nat) (m' : PL) (S V : Nat → Prop) (w' : World) : Prop :=
  ∃ S' V', LogAt w' g m' S' V' ∧ Grow w S w' ∧ (∀ i, S' i → S i ∨ w.heap.size ≤ i) ∧ ∀ i, V' i → V i ∨ w.heap.size ≤ i
theorem Step.same {w w' : World} {g : Nat} {m : PL} {S V : Nat → Prop} (h : LogAt w g m S V) (hg : Grow w noOwn w') : Step w g m S V w' :=
  ⟨S, V, h.grow hg (fun _ _ e => e), hg.any S, fun _ hi => .inl hi, fun _ hi => .inl hi⟩

theorem LogHas.vals_keep {w w' : World} {g gm : Nat} {A B : Option Addr} {ca cb : Nat} {m : PL} {vs : List Value} {S V : Nat → Prop} (h : LogHas w g gm A B ca cb m vs S V) (hg : Grow w S w') (i : Nat) (hi : i < m.recs.length) (V' : Nat → Prop) (hV : ∀ i, V i → V' i) :
    ∃ D n c, vs[i]'(by rw [h.vl]; exact hi) = .slice D n c ∧ n ≤ c ∧ Bytes w' w'.heap.size D n m.recs[i].v ∧ ∀ ad, D = some ad → V' ad.block := by
  obtain ⟨D, n, c, e1, hc, hb, hv⟩ := h.vals i hi
  exact ⟨D, n, c, e1, hc, hb.stay hg.size (fun ad e2 => hg.block _ (h.low _ (.inr (hv ad e2))) (h.apart _ (hv ad e2))), fun ad e2 => hV _ (hv ad e2)⟩
theorem LogHas.vals_same {w w' : World} {g gm : Nat} {A B : Option Addr} {ca cb : Nat} {m m' : PL} {vs : List Value} {S V : Nat → Prop} (h : LogHas w g gm A B ca cb m vs S V) (hr : m'.recs = m.recs) (hg : Grow w S w') :
    ∀ i (hi : i < m'.recs.length), ∃ D n c, vs[i]'(by rw [h.vl, ← hr]; exact hi) = .slice D n c ∧ n ≤ c ∧ Bytes w' w'.heap.size D n m'.recs[i].v ∧ ∀ ad, D = some ad → V ad.block := fun i hi => by
  have hi' : i < m.recs.length := by rw [← hr]; exact hi
  have : m'.recs[i] = m.recs[i] := by simp [hr]
  rw [this]
  exact h.vals_keep hg i hi' V (fun _ h => h)

set_option maxRecDepth 100000 in
set_option maxHeartbeats 4000000 in
theorem Learn_any (w : World) (g gm : Nat) (A B : Option Addr) (ca cb : Nat) (m : PL) (vs : List Value) (S V : Nat → Prop) (h : LogHas w g gm A B ca cb m vs S V) (h8 : m.eps.length = 8) (p e : Int) :
    Calls Try.prog 27 #[.pointer (some ⟨g, 0, none⟩), .int .i64 p, .int .i64 e] w fun x w' => x = .returned (.int .i64 (m.learn p e).2) ∧ Step w g (m.learn p e).1 S V w' := by
  cases hp : PL.isProd p e
  · have hl : m.learn p e = (m, 1) := by unfold PL.learn; rw [hp]; rfl
    rw [hl]
    have H1 := hide hp
    clear hp hl
    go_enter Try.func27, Try.ntmps27
    go_wp2_with (go_at_call 44; refine (isProducer_any _ _ _).mono ?_; rintro e1 w2 ⟨rfl, rfl⟩; rw [unhide H1])
    go_ret
    exact ⟨rfl, Step.same ⟨gm, A, B, ca, cb, vs, h⟩ (Grow.refl _ _)⟩
  · have hh := isProd_p hp
    have hl : (m.learn p e).2 = 0 := by unfold PL.learn; rw [hp]; rfl
    have HF := hide (learn_epf m p e h8 hp)
    have HR := hide (learn_rows m p e)
    rw [hl]
    have H1 := hide hp
    clear hp hl
    have hM := h.mem
    have hl : ∃ m', m' = (m.learn p e).1 := ⟨_, rfl⟩
    obtain ⟨m', hm'⟩ := hl
    rw [← hm'] at HF HR ⊢
    clear hm'
    go_enter Try.func27, Try.ntmps27
    go_wp2_with (go_at_call 44; refine (isProducer_any _ _ _).mono ?_; rintro e1 w2 ⟨rfl, rfl⟩; rw [unhide H1])
    have hq : Quiet (fun w' => Mem w S w' (logItems g gm A B ca cb m vs)) (fun w1 w2 => Grow w1 noOwn w2) (fun _ _ => True) := ⟨fun w _ => Grow.refl w _, fun _ _ => trivial⟩
    refine wp_region_ghost_tail 13 _ rfl (by kernel_rfl) (C := fun w' => Mem w S w' (logItems g gm A B ca cb m vs)) (D := fun _ => True) (R := fun w1 w2 => Grow w1 noOwn w2) (R' := fun _ _ => True) [] [] [] (by kernel_rfl) (by kernel_rfl) (by kernel_rfl) (by kernel_rfl) hM.drew trivial (fun _ _ _ _ _ h => h) hq.1 hq.2 ?_
    simp only [List.take_succ_cons, List.take_zero, initS, List.map_cons, List.map_nil]
    repeat (first
      | (refine gw_move hq rfl _ (.inl rfl) _ rfl ?_; simp only [setD, List.set_cons_succ, List.set_cons_zero])
      | (refine gw_load1 hq rfl 80 _ rfl ⟨g, 2, none⟩ rfl _ Try.underlying80 rfl (.map (some gm)) (fun w' hC => hC.cell 2 rfl 2) ?_; simp only [setD, List.set_cons_succ, List.set_cons_zero])
      | (refine gw_lookup hq rfl 80 _ _ false rfl gm (epf m) (fun w' hC => hC.at_ 3 rfl) 3 3 Try.underlying80 Try.underlying3 (.int .i64 0) (by kernel_rfl) rfl p rfl (.int .i64 (m.epv p)) (epf_get m p hh.1) ?_; simp only [setD, List.set_cons_succ, List.set_cons_zero])
      | (refine gw_pure_ex hq rfl (fun K hK => ?_); go_simp; refine hK _ ?_; clear hK K; simp only [setD, List.set_cons_succ, List.set_cons_zero]))
    intro γ w4 hC4 hk4
    simp only [slAct, slVals, Slot.get]
    refine wp_update_mem 80 _ _ _ rfl hC4 3 gm (epf m) rfl 3 3 Try.underlying80 Try.underlying3 rfl p rfl (.int .i64 (max (m.epv p) e)) rfl ?_
    intro w5 hM5
    clear hC4 hk4
    have H5 := hide hM5
    clear hM5
    go_wp2_with fail
    go_ret
    have hM5 := unhide H5
    refine ⟨rfl, ?_⟩
    have hM6 : Mem w S w5 (logItems g gm A B ca cb m' vs) := by
      unfold logItems
      rw [← unhide HF, (unhide HR).1, (unhide HR).2]
      exact hM5
    exact h.after hM6 (by rw [(unhide HR).1]; exact h.vl) (V' := V) (fun i hi => .inl hi) (h.vals_same (unhide HR).1 hM6.grow)
theorem spn_cells {w : World} {A : Option Addr} {n B0 : Nat} {l : List Spn} (hb : Reads w B0 5 A n (spnCells l)) (hl : l.length = n) (k : Nat) (hk : k < l.length) :
    ∃ b off, A = some ⟨b, off, none⟩ ∧ b < B0 ∧ w.rangeAt b (off + k * 5) (spnVals l[k]) := by
  obtain ⟨b, off, rfl, hbB, hcell⟩ := hb.form (by omega) (by decide)
  refine ⟨b, off, rfl, hbB, fun j v hj => ?_⟩
  have hj5 : j < 5 := by have := (List.getElem?_eq_some_iff.1 hj).1; simpa [spnVals] using this
  rw [Nat.add_assoc]
  exact hcell _ v (by rw [spnCells_get l k hk j hj5]; exact hj)
theorem spn_size : (Try.prog.info? 39).map (·.size) = some 5 := by kernel_rfl
theorem spn_one (s : Spn) : (spnVals s).toArray.all (·.oneCell') = true := by simp [spnVals, Value.oneCell']
def stab (a : Int) (s : Spn) : Int := if s.k = 0 then min a s.f else a
theorem PL.stable_eq (m : PL) : m.stable = m.spans.foldl stab m.recs.length := rfl
set_option maxRecDepth 100000 in
set_option maxHeartbeats 4000000 in
theorem Stable_any (w : World) (g gm : Nat) (A B : Option Addr) (ca cb : Nat) (m : PL) (vs : List Value) (h : LogR w g gm A B ca cb m vs) (hs : m.spans.length ≤ 1000000000) :
    Calls Try.prog 37 #[.pointer (some ⟨g, 0, none⟩)] w fun x w' => x = .returned (.int .i64 m.stable) ∧ Grow w noOwn w' := by
  obtain ⟨n, hn⟩ : ∃ n, m.spans.length = n := ⟨_, rfl⟩
  obtain ⟨q, hq⟩ : ∃ q, m.recs.length = q := ⟨_, rfl⟩
  have HL : Calls Try.prog 30 #[.pointer (some ⟨g, 0, none⟩)] w fun x w' => x = .returned (.int .i64 q) ∧ w = w' := by
    have := Len_any w g gm A B ca cb m vs h
    rwa [hq] at this
  have HS : Calls Try.prog 18 #[.pointer (some ⟨g, 0, none⟩)] w fun x w' => (∃ A' c', x = .returned (.slice A' n c') ∧ n ≤ c' ∧ Reads w' w'.heap.size 5 A' n (spnCells m.spans)) ∧ Grow w noOwn w' := by
    have := Spans_any w g gm A B ca cb m vs h (by omega)
    rwa [hn] at this
  rw [hn] at hs
  have HN := hide hn
  have HQ : Hid (m.spans.foldl stab q = m.stable) := hide (by rw [m.stable_eq, hq])
  clear hn hq
  obtain ⟨st, hst⟩ : ∃ st, st = m.stable := ⟨_, rfl⟩
  rw [← hst] at HQ ⊢
  clear hst
  go_enter Try.func37, Try.ntmps37
  go_wp2_with (first
    | (go_at_call 30; refine HL.mono ?_; rintro e w4 ⟨rfl, rfl⟩)
    | (go_at_call 18; refine HS.mono ?_; rintro e w1 ⟨⟨A1, c1, rfl, hc1, hr⟩, hg⟩))
  go_loopw [3, 11] (fun u v wr => ∃ (k : Nat) (a : Int), k ≤ n ∧ u = .int .i64 a ∧ v = .int .i64 k ∧ Grow w1 noOwn wr ∧ Hid ((m.spans.drop k).foldl stab a = st)) (fun _ v _ => n - (intOf v).toNat)
  case atStart => exact ⟨0, q, Nat.zero_le _, rfl, rfl, Grow.refl _ _, HQ⟩
  case round =>
    obtain ⟨k, a, hk, rfl, rfl, hgr, hacc⟩ := hrel
    by_cases hlt : k < n
    · have hkl : k < m.spans.length := by rw [unhide HN]; exact hlt
      obtain ⟨b, off, rfl, hbB, hcr⟩ := spn_cells (hr.grow hgr (Nat.le_refl _)) (unhide HN) k hkl
      obtain ⟨s, hs0⟩ : ∃ s, s = m.spans[k] := ⟨_, rfl⟩
      rw [← hs0] at hcr
      have hacc2 : Hid ((m.spans.drop (k + 1)).foldl stab (stab a s) = st) := hide (by
        have := unhide hacc
        rw [List.drop_eq_getElem_cons hkl, List.foldl_cons, ← hs0] at this
        exact this)
      clear hacc hs0
      have hM := Mem.nil wr noOwn
      by_cases hk0 : s.k = 0
      all_goals
        have hst : Hid (stab a s = if s.k = 0 then min a s.f else a) := hide rfl
        have hk0' := hide hk0
        clear hk0
        go_wp2_with (first
          | (refine BigFrame.wpList_want rfl fun _ hK => wp_load_mid 39 _ rfl b (off + k * 5) rfl (spnVals s) _ hcr Try.underlying39 rfl (by kernel_rfl) (hK _ _ ?_))
          | (refine wpList_alloc_mem hM rfl 39 rfl #[.int .i64 0, .int .i64 0, .int .i64 0, .int .i64 0, .int .i64 0] (by kernel_rfl) ?_; clear hM; intro g5 w5 hM)
          | (refine wpList_store_mem rfl 39 _ _ rfl hM 0 _ _ _ (spnVals s).toArray rfl rfl rfl spn_size rfl (spn_one s) ?_; clear hM; intro w6 hM _; have d3 : w6.cell? ⟨g5, 3, none⟩ = some (.int .i64 s.f) := hM.cell 0 rfl 3; have d4 : w6.cell? ⟨g5, 4, none⟩ = some (.int .i64 s.k) := hM.cell 0 rfl 4; have hk1 := unhide hk0'))
        go_roundw
        case rel =>
          refine ⟨k + 1, stab a s, by omega, ?_, by go_num, hgr.then_ hM.grow, hacc2⟩
          rw [unhide hst]
          first | rw [if_pos hk1] | rw [if_neg hk1]
        case measure => simp [intOf] <;> omega
    · obtain rfl : k = n := by omega
      go_wp2
      go_ret
      refine ⟨congrArg (fun b => Ending.returned (.int .i64 b)) ?_, hg.then_ hgr⟩
      have := unhide hacc
      rw [List.drop_of_length_le (by rw [unhide HN]; exact Nat.le_refl _)] at this
      exact this
end Go.Proofs.Ytechglhkcjgodaa
