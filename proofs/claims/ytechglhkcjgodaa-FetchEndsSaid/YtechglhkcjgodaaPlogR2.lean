/- plog: the reference's log: New, Learn. -/
import Derived.Test.YtechglhkcjgodaaPlogR1
namespace Go.Proofs.Ytechglhkcjgodaa
open Go.RowKit Go.MapKept
set_option linter.unusedSimpArgs false
attribute [local irreducible] wpList Code.wp GW Calls

/-- The reference's log at block g: rows and bytes lie in blocks V. -/
structure RefHas (w : World) (g : Nat) (A B : Option Addr) (ca cb : Nat) (m : PL) (vs : List Value) (V : Nat → Prop) : Prop extends RefR w g A B ca cb m vs where
  low : ∀ i, V i → i < w.heap.size
  far : ¬ V g
  va : ∀ ad, A = some ad → V ad.block
  vb : ∀ ad, B = some ad → V ad.block
  vv : ∀ i (h : i < m.recs.length), ∃ D n c, vs[i]'(by rw [vl]; exact h) = .slice D n c ∧ ∀ ad, D = some ad → V ad.block
  cap : m.recs.length ≤ ca
def RefAt (w : World) (g : Nat) (m : PL) (V : Nat → Prop) : Prop := ∃ A B ca cb vs, RefHas w g A B ca cb m vs V
theorem Reads.stay {w w' : World} {B B' size n : Nat} {D : Option Addr} {xs : List Value} (h : Reads w B size D n xs) (hB : B ≤ B') (hk : ∀ ad, D = some ad → w'.heap[ad.block]? = w.heap[ad.block]?) : Reads w' B' size D n xs :=
  ⟨h.1, fun hn => by
    obtain ⟨ad, e, hb, hc⟩ := h.2 hn
    exact ⟨ad, e, by omega, fun j u hu => (World.cell?_of_block (by rw [block_of_add]; exact hk ad e)).trans (hc j u hu)⟩⟩
theorem RefHas.rows {w w' : World} {g : Nat} {A B : Option Addr} {ca cb : Nat} {m : PL} {vs : List Value} {V : Nat → Prop} (h : RefHas w g A B ca cb m vs V) (hs : w.heap.size ≤ w'.heap.size) (hk : ∀ i, V i → w'.heap[i]? = w.heap[i]?) : Rows w' A B m vs :=
  ⟨h.vl, h.recs.stay hs (fun ad e => hk _ (h.va ad e)), h.spans.stay hs (fun ad e => hk _ (h.vb ad e)), fun i hi => by
    obtain ⟨D, n, c, e, hc, hb⟩ := h.vals i hi
    obtain ⟨D', n', c', e', hv⟩ := h.vv i hi
    rw [e] at e'
    injection e' with e1 _ _
    exact ⟨D, n, c, e, hc, Reads.stay hb hs (fun ad e2 => hk _ (hv ad (by rw [← e1]; exact e2)))⟩⟩
theorem RefHas.keep {w w' : World} {g : Nat} {A B : Option Addr} {ca cb : Nat} {m : PL} {vs : List Value} {V : Nat → Prop} (h : RefHas w g A B ca cb m vs V) (hs : w.heap.size ≤ w'.heap.size) (hk : ∀ i, i = g ∨ V i → w'.heap[i]? = w.heap[i]?) : RefHas w' g A B ca cb m vs V :=
  ⟨⟨h.rows hs (fun i hi => hk i (.inr hi)), h.e8, (hk g (.inl rfl)).trans h.blk⟩, fun i hi => Nat.lt_of_lt_of_le (h.low i hi) hs, h.far, h.va, h.vb, h.vv, h.cap⟩
theorem RefAt.keep {w w' : World} {g : Nat} {m : PL} {V : Nat → Prop} (h : RefAt w g m V) (hs : w.heap.size ≤ w'.heap.size) (hk : ∀ i, i = g ∨ V i → w'.heap[i]? = w.heap[i]?) : RefAt w' g m V := by
  obtain ⟨A, B, ca, cb, vs, h⟩ := h
  exact ⟨A, B, ca, cb, vs, h.keep hs hk⟩
theorem RefAt.low {w : World} {g : Nat} {m : PL} {V : Nat → Prop} (h : RefAt w g m V) : ∀ i, i = g ∨ V i → i < w.heap.size := by
  obtain ⟨A, B, ca, cb, vs, h⟩ := h
  intro i hi
  rcases hi with rfl | hi
  · exact h.blk.lt
  · exact h.low i hi
theorem RefAt.grow {w w' : World} {g : Nat} {m : PL} {V own : Nat → Prop} (h : RefAt w g m V) (hg : Grow w own w') (ho : ∀ i, i = g ∨ V i → ¬ own i) : RefAt w' g m V :=
  h.keep hg.size fun i hi => hg.block i (h.low i hi) (ho i hi)
/-- What a step leaves of the reference's log. -/
def StepR (w : World) (g : Nat) (m' : PL) (V : Nat → Prop) (w' : World) : Prop := ∃ V', RefAt w' g m' V' ∧ Grow w (own1 g) w' ∧ ∀ i, V' i → V i ∨ w.heap.size ≤ i
theorem StepR.same {w w' : World} {g : Nat} {m : PL} {V : Nat → Prop} (h : RefAt w g m V) (hg : Grow w noOwn w') : StepR w g m V w' := ⟨V, h.grow hg (fun _ _ e => e), hg.any _, fun _ hi => .inl hi⟩
def eps0 (k : Nat) : List Value := List.replicate k (.int .i64 (-1)) ++ List.replicate (8 - k) (.int .i64 0)
theorem set2 (a b : Value) (l : List Value) (k : Nat) (v : Value) : (a :: b :: l).toArray.setIfInBounds (2 + k) v = (a :: b :: l.set k v).toArray := by
  rw [List.setIfInBounds_toArray, Nat.add_comm 2 k]
  rfl
theorem eps0_set (k : Nat) (hk : k < 8) : (eps0 k).set k (.int .i64 (-1)) = eps0 (k + 1) := by
  rcases (by omega : k = 0 ∨ k = 1 ∨ k = 2 ∨ k = 3 ∨ k = 4 ∨ k = 5 ∨ k = 6 ∨ k = 7) with rfl | rfl | rfl | rfl | rfl | rfl | rfl | rfl <;> rfl

set_option maxRecDepth 100000 in
set_option maxHeartbeats 4000000 in
theorem NewR_any (w : World) : Calls Try.prog 31 #[] w fun e w' => ∃ g V, e = .returned (.pointer (some ⟨g, 0, none⟩)) ∧ RefAt w' g PL.empty V ∧ Grow w noOwn w' ∧ w.heap.size ≤ g ∧ ∀ i, V i → w.heap.size ≤ i := by
  have hM := Mem.nil w noOwn
  go_enter Try.func31, Try.ntmps31
  go_wp2_with ((with_reducible refine wl_shape ?_); first | (apply wl_boxa; exact rfl; exact hM; exact rfl; exact rfl; clear hM; intro gg ww hM; simp only [putT, List.set_cons_succ, List.set_cons_zero]) | (apply wl_box1; exact rfl; exact hM; exact rfl; exact rfl; exact rfl; clear hM; intro gg ww hM; simp only [putT, List.set_cons_succ, List.set_cons_zero]) | (apply wl_alloc; exact rfl; exact hM; exact rfl; exact inferInstance; clear hM; intro gg ww hM; simp only [putT, List.set_cons_succ, List.set_cons_zero]) | (apply wl_ld; exact rfl; exact hM; exact rfl; exact rfl; exact inferInstance; exact inferInstance; simp only [putT, List.set_cons_succ, List.set_cons_zero]) | (apply wl_lda; exact rfl; exact hM; exact rfl; exact rfl; exact inferInstance; exact inferInstance; exact inferInstance; exact inferInstance; simp only [putT, List.set_cons_succ, List.set_cons_zero]) | (apply wl_ldr; exact rfl; exact hM; exact rfl; exact rfl; exact inferInstance; exact inferInstance; exact inferInstance; exact inferInstance; simp only [putT, List.set_cons_succ, List.set_cons_zero]) | (apply wl_st; exact rfl; exact hM; exact rfl; exact rfl; exact rfl; exact rfl; exact inferInstance; exact inferInstance; clear hM; intro ww hM; simp only [putT, List.set_cons_succ, List.set_cons_zero]) | (apply wl_sta; exact rfl; exact hM; exact rfl; exact rfl; exact rfl; exact all_oneCell_toArray One.out; exact inferInstance; exact inferInstance; exact inferInstance; clear hM; intro ww hM; simp only [putT, List.set_cons_succ, List.set_cons_zero]) | (apply wl_bs0; exact rfl; exact hM; exact rfl; exact inferInstance; clear hM; intro gg ww hM; simp only [putT, List.set_cons_succ, List.set_cons_zero]) | (apply wl_bs1a; exact rfl; exact hM; exact rfl; exact inferInstance; exact rfl; exact inferInstance; clear hM; intro gg ww hM; simp only [putT, List.set_cons_succ, List.set_cons_zero]) | (apply wl_bs11; exact rfl; exact hM; exact rfl; exact inferInstance; exact rfl; exact rfl; clear hM; intro gg ww hM; simp only [putT, List.set_cons_succ, List.set_cons_zero]) | (apply wl_conv; exact rfl; exact hM; exact rfl; exact rfl; exact inferInstance; exact inferInstance; simp only [putT, List.set_cons_succ, List.set_cons_zero]))
  have h0 : Mem w noOwn ww [.blk gg 45 (.slice none 0 0 :: .slice none 0 0 :: eps0 0).toArray] := hM
  go_loopw [2] (fun v wr => ∃ k : Nat, k ≤ 8 ∧ v = .int .i64 k ∧ Mem w noOwn wr [.blk gg 45 (.slice none 0 0 :: .slice none 0 0 :: eps0 k).toArray]) (fun v _ => 8 - (intOf v).toNat)
  case atStart => exact ⟨0, by omega, rfl, h0⟩
  case round =>
    obtain ⟨k, hk, rfl, hM⟩ := hrel
    by_cases hlt : k < 8
    · go_wp2_with (refine wpList_store1 rfl 3 _ _ rfl hM 0 gg (2 + k) _ _ rfl (by simp [eps0]; omega) rfl _ rfl rfl (by kernel_rfl) ?_; clear hM; intro w3 hM)
      go_roundw
      case rel => exact ⟨k + 1, by omega, by go_num, by rw [← eps0_set k hlt, ← set2]; exact hM⟩
      case measure => simp [intOf]; omega
    · obtain rfl : k = 8 := by omega
      go_wp2
      go_ret
      have hb : Blk wr gg _ _ := hM.blk 0 rfl
      have hn : w.heap.size ≤ gg := (hM.own_ 0 rfl rfl).resolve_left (fun e => e)
      exact ⟨gg, fun _ => False, rfl, ⟨none, none, 0, 0, [], ⟨⟨⟨rfl, Reads.none_, Reads.none_, fun i hi => by simp [PL.empty] at hi⟩, rfl, hb⟩, fun _ e => e.elim, fun e => e, (fun _ e => nomatch e), (fun _ e => nomatch e), (fun i hi => by simp [PL.empty] at hi), by simp [PL.empty]⟩⟩, hM.grow, hn, fun _ e => e.elim⟩

theorem eps_at {m : PL} (h8 : m.eps.length = 8) (x y : Value) (p : Nat) (hp : p < 8) : (x :: y :: m.eps.map (Value.int .i64)).toArray[2 + p]? = some (.int .i64 (m.ep p)) := by
  rw [List.getElem?_toArray, Nat.add_comm 2 p]
  simp [PL.ep, show p < m.eps.length by omega]
theorem inB (p e : Int) : (decide (0 ≤ p) && decide (p ≤ 7)) = true → (decide (0 ≤ e) && decide (e ≤ 100)) = true → PL.isProd p e = true := by
  simp [PL.isProd]; omega
set_option maxRecDepth 100000 in
set_option maxHeartbeats 4000000 in
theorem LearnR_any (w : World) (g : Nat) (m : PL) (V : Nat → Prop) (h : RefAt w g m V) (p e : Int) :
    Calls Try.prog 32 #[.pointer (some ⟨g, 0, none⟩), .int .i64 p, .int .i64 e] w fun x w' => x = .returned (.int .i64 (m.learn p e).2) ∧ StepR w g (m.learn p e).1 V w' := by
  have hsame : Hid (∀ w', Grow w noOwn w' → StepR w g m V w') := hide (fun w' hg => StepR.same h hg)
  obtain ⟨A, B, ca, cb, vs, hh⟩ := h
  have HI := fun (a b c : Int) w => in_any a b c w
  cases b1 : decide (0 ≤ p) && decide (p ≤ 7)
  · have hl : m.learn p e = (m, 1) := by unfold PL.learn; rw [if_neg]; simp [PL.isProd]; simp at b1; omega
    rw [hl]
    have B1 := hide b1
    clear hl b1
    go_enter Try.func32, Try.ntmps32
    go_wp2_with (go_at_call 52; refine (in_any _ _ _ _).mono ?_; rintro e1 w2 ⟨rfl, rfl⟩; rw [unhide B1])
    go_ret
    exact ⟨rfl, unhide hsame _ (Grow.refl _ _)⟩
  · cases b2 : decide (0 ≤ e) && decide (e ≤ 100)
    · have hl : m.learn p e = (m, 1) := by unfold PL.learn; rw [if_neg]; simp [PL.isProd]; simp at b2; omega
      rw [hl]
      have B1 := hide b1
      have B2 := hide b2
      clear hl b1 b2
      go_enter Try.func32, Try.ntmps32
      go_wp2_with (go_at_call 52; refine (in_any _ _ _ _).mono ?_; rintro e1 w2 ⟨rfl, rfl⟩; first | rw [unhide B1] | rw [unhide B2])
      go_ret
      exact ⟨rfl, unhide hsame _ (Grow.refl _ _)⟩
    · have hp := inB p e b1 b2
      have hl : m.learn p e = ({ m with eps := m.eps.set p.toNat (max (m.ep p) e) }, 0) := by unfold PL.learn; rw [if_pos hp]
      rw [hl]
      have h4 := isProd_p hp
      obtain ⟨q, rfl⟩ : ∃ q : Nat, p = q := ⟨p.toNat, by omega⟩
      have hq : q < 8 := by omega
      have B1 := hide b1
      have B2 := hide b2
      clear hl b1 b2 hp
      have hM : Mem w (own1 g) w _ := Mem.start1 hh.blk rfl
      have hc : AtA (.slice A m.recs.length ca :: .slice B m.spans.length cb :: m.eps.map (Value.int .i64)).toArray (2 + q) (.int .i64 (m.ep q)) := ⟨eps_at hh.e8 _ _ q hq⟩
      go_enter Try.func32, Try.ntmps32
      go_wp2_with (go_at_call 52; refine (in_any _ _ _ _).mono ?_; rintro e1 w2 ⟨rfl, rfl⟩; first | rw [unhide B1] | rw [unhide B2])
      refine wp_region_memT 13 [] [] [] _ rfl hM (by kernel_rfl) (by kernel_rfl) (by kernel_rfl) (by kernel_rfl) (by kernel_rfl) ?_; simp only [List.take_succ_cons, List.take_zero]; simp only [initS, Act.put, List.setIfInBounds_toArray, List.set_cons_succ, List.set_cons_zero, List.map_cons, List.map_nil]
      repeat (first | (apply gl_move; (first | exact .inl rfl | exact .inr rfl); exact rfl; exact rfl; simp only [setD, List.set_cons_succ, List.set_cons_zero]) | (apply gl_ld; exact rfl; exact rfl; exact rfl; exact inferInstance; exact inferInstance; simp only [setD, List.set_cons_succ, List.set_cons_zero]) | (apply gl_lda; exact rfl; exact rfl; exact rfl; exact inferInstance; exact inferInstance; exact inferInstance; exact inferInstance; simp only [setD, List.set_cons_succ, List.set_cons_zero]) | (apply gl_ldr; exact rfl; exact rfl; exact rfl; exact inferInstance; exact inferInstance; exact inferInstance; exact inferInstance; simp only [setD, List.set_cons_succ, List.set_cons_zero]) | (apply gl_cmp true; exact rfl; exact rfl; exact rfl; exact rfl; (simp only [cmpB, Option.some.injEq, decide_eq_true_eq, ne_eq]; omega); simp only [setD, List.set_cons_succ, List.set_cons_zero]) | (apply gl_cmp false; exact rfl; exact rfl; exact rfl; exact rfl; (simp only [cmpB, Option.some.injEq, decide_eq_false_iff_not, ne_eq]; omega); simp only [setD, List.set_cons_succ, List.set_cons_zero]) | (apply gl_pick; exact rfl; exact rfl; exact rfl; exact rfl; exact rfl; simp only [setD, List.set_cons_succ, List.set_cons_zero, cond_true, cond_false]) | (apply gl_conv; exact rfl; exact rfl; exact rfl; exact inferInstance; exact inferInstance; simp only [setD, List.set_cons_succ, List.set_cons_zero]) | (apply gl_skip; exact rfl; simp only [setD, List.set_cons_succ, List.set_cons_zero]) | (apply gl_pure; exact rfl; intro K hK; go_simp; refine hK _ ?_; clear hK K; simp only [setD, List.set_cons_succ, List.set_cons_zero]))
      refine gw_nil ?_; intro γ w4 hC' hk'; simp only [slAct, slVals, Slot.get]
      refine wp_store1 3 _ _ rfl hC'.1 0 g (2 + q) _ _ rfl (by have := hh.e8; simp; omega) rfl _ rfl rfl (by kernel_rfl) ?_
      intro w5 hM5
      have H5 := hide hM5
      clear hM5 hC' hk' hM hc
      go_wp2_with fail
      go_ret
      refine ⟨rfl, V, ⟨A, B, ca, cb, vs, ?_⟩, (unhide H5).grow, fun _ hi => .inl hi⟩
      have hM5 := unhide H5
      have hb : Blk w5 g _ _ := hM5.blk 0 rfl
      rw [set2] at hb
      have hr := hh.rows hM5.grow.size (fun i hi => hM5.grow.block i (hh.low i hi) (fun (e : i = g) => hh.far (e ▸ hi)))
      exact ⟨⟨⟨hr.vl, hr.recs, hr.spans, hr.vals⟩, by simpa using hh.e8, by rw [List.map_set]; exact hb⟩, fun i hi => Nat.lt_of_lt_of_le (hh.low i hi) hM5.grow.size, hh.far, hh.va, hh.vb, hh.vv, hh.cap⟩
end Go.Proofs.Ytechglhkcjgodaa
