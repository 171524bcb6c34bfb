/- plog: rows of records and of transactions, compared. -/
import Derived.Test.YtechglhkcjgodaaPlogR2
namespace Go.Proofs.Ytechglhkcjgodaa
open Go.RowKit Go.MapKept
set_option linter.unusedSimpArgs false
attribute [local irreducible] wpList Code.wp GW Calls

def recEq (a b : Rec) : Bool := decide (a.p = b.p) && decide (a.e = b.e) && decide (a.t = b.t) && decide (a.s = b.s) && (a.v == b.v)
theorem recEq_iff (a b : Rec) : recEq a b = true ↔ a = b := by
  obtain ⟨p, e, t, s, v⟩ := a
  obtain ⟨p', e', t', s', v'⟩ := b
  simp [recEq, and_assoc]
set_option maxRecDepth 100000 in
set_option maxHeartbeats 4000000 in
theorem Same_any (w : World) (a b : Rec) (n1 c1 n2 c2 : Nat) (A1 A2 : Option Addr) (h1 : Bytes w w.heap.size A1 n1 a.v) (h2 : Bytes w w.heap.size A2 n2 b.v) :
    Calls Try.prog 40 #[.agg #[.int .i64 a.p, .int .i64 a.e, .int .i64 a.t, .int .i64 a.s, .slice A1 n1 c1], .agg #[.int .i64 b.p, .int .i64 b.e, .int .i64 b.t, .int .i64 b.s, .slice A2 n2 c2]] w fun x w' => x = .returned (.bool (recEq a b)) ∧ Grow w noOwn w' := by
  have hM := Mem.nil w noOwn
  have HB := hide (strOf_beq a.v b.v)
  obtain ⟨p, e, t, s, v⟩ := a
  obtain ⟨p', e', t', s', v'⟩ := b
  dsimp only at h1 h2 HB ⊢
  have i1 := rdsB_no h1
  have i2 := rdsB_no h2
  obtain ⟨ans, hans⟩ : ∃ ans, ans = recEq ⟨p, e, t, s, v⟩ ⟨p', e', t', s', v'⟩ := ⟨_, rfl⟩
  rw [← hans]
  have HA : Hid (ans = (decide (p = p') && decide (e = e') && decide (t = t') && decide (s = s') && (v == v'))) := hide hans
  clear hans
  rcases (if x1 : p = p' then if x2 : e = e' then if x3 : t = t' then if x4 : s = s' then .inr (.inr (.inr (.inr ⟨x1, x2, x3, x4⟩))) else .inr (.inr (.inr (.inl ⟨x1, x2, x3, x4⟩))) else .inr (.inr (.inl ⟨x1, x2, x3⟩)) else .inr (.inl ⟨x1, x2⟩) else .inl x1 :
    ¬ p = p' ∨ (p = p' ∧ ¬ e = e') ∨ (p = p' ∧ e = e' ∧ ¬ t = t') ∨ (p = p' ∧ e = e' ∧ t = t' ∧ ¬ s = s') ∨ (p = p' ∧ e = e' ∧ t = t' ∧ s = s')) with x1 | ⟨rfl, x1⟩ | ⟨rfl, rfl, x1⟩ | ⟨rfl, rfl, rfl, x1⟩ | ⟨rfl, rfl, rfl, rfl⟩
  iterate 4
    · have hf : Hid (ans = false) := hide (by rw [unhide HA]; simp [x1])
      go_enter Try.func40, Try.ntmps40
      go_wp2_with ((with_reducible refine wl_shape ?_); first | (apply wl_boxa; exact rfl; exact hM; exact rfl; exact rfl; clear hM; intro gg ww hM; simp only [putT, List.set_cons_succ, List.set_cons_zero]) | (apply wl_box1; exact rfl; exact hM; exact rfl; exact rfl; exact rfl; clear hM; intro gg ww hM; simp only [putT, List.set_cons_succ, List.set_cons_zero]) | (apply wl_alloc; exact rfl; exact hM; exact rfl; exact inferInstance; clear hM; intro gg ww hM; simp only [putT, List.set_cons_succ, List.set_cons_zero]) | (apply wl_ld; exact rfl; exact hM; exact rfl; exact rfl; exact inferInstance; exact inferInstance; simp only [putT, List.set_cons_succ, List.set_cons_zero]) | (apply wl_lda; exact rfl; exact hM; exact rfl; exact rfl; exact inferInstance; exact inferInstance; exact inferInstance; exact inferInstance; simp only [putT, List.set_cons_succ, List.set_cons_zero]) | (apply wl_ldr; exact rfl; exact hM; exact rfl; exact rfl; exact inferInstance; exact inferInstance; exact inferInstance; exact inferInstance; simp only [putT, List.set_cons_succ, List.set_cons_zero]) | (apply wl_st; exact rfl; exact hM; exact rfl; exact rfl; exact rfl; exact rfl; exact inferInstance; exact inferInstance; clear hM; intro ww hM; simp only [putT, List.set_cons_succ, List.set_cons_zero]) | (apply wl_sta; exact rfl; exact hM; exact rfl; exact rfl; exact rfl; exact all_oneCell_toArray One.out; exact inferInstance; exact inferInstance; exact inferInstance; clear hM; intro ww hM; simp only [putT, List.set_cons_succ, List.set_cons_zero]) | (apply wl_bs0; exact rfl; exact hM; exact rfl; exact inferInstance; clear hM; intro gg ww hM; simp only [putT, List.set_cons_succ, List.set_cons_zero]) | (apply wl_bs1a; exact rfl; exact hM; exact rfl; exact inferInstance; exact rfl; exact inferInstance; clear hM; intro gg ww hM; simp only [putT, List.set_cons_succ, List.set_cons_zero]) | (apply wl_bs11; exact rfl; exact hM; exact rfl; exact inferInstance; exact rfl; exact rfl; clear hM; intro gg ww hM; simp only [putT, List.set_cons_succ, List.set_cons_zero]) | (apply wl_conv; exact rfl; exact hM; exact rfl; exact rfl; exact inferInstance; exact inferInstance; simp only [putT, List.set_cons_succ, List.set_cons_zero]))
      go_ret
      exact ⟨congrArg (fun b => Ending.returned (.bool b)) (unhide hf).symm, hM.grow⟩
  · have hf : Hid (ans = (v == v')) := hide (by rw [unhide HA]; simp)
    go_enter Try.func40, Try.ntmps40
    go_wp2_with ((with_reducible refine wl_shape ?_); first | (apply wl_boxa; exact rfl; exact hM; exact rfl; exact rfl; clear hM; intro gg ww hM; simp only [putT, List.set_cons_succ, List.set_cons_zero]) | (apply wl_box1; exact rfl; exact hM; exact rfl; exact rfl; exact rfl; clear hM; intro gg ww hM; simp only [putT, List.set_cons_succ, List.set_cons_zero]) | (apply wl_alloc; exact rfl; exact hM; exact rfl; exact inferInstance; clear hM; intro gg ww hM; simp only [putT, List.set_cons_succ, List.set_cons_zero]) | (apply wl_ld; exact rfl; exact hM; exact rfl; exact rfl; exact inferInstance; exact inferInstance; simp only [putT, List.set_cons_succ, List.set_cons_zero]) | (apply wl_lda; exact rfl; exact hM; exact rfl; exact rfl; exact inferInstance; exact inferInstance; exact inferInstance; exact inferInstance; simp only [putT, List.set_cons_succ, List.set_cons_zero]) | (apply wl_ldr; exact rfl; exact hM; exact rfl; exact rfl; exact inferInstance; exact inferInstance; exact inferInstance; exact inferInstance; simp only [putT, List.set_cons_succ, List.set_cons_zero]) | (apply wl_st; exact rfl; exact hM; exact rfl; exact rfl; exact rfl; exact rfl; exact inferInstance; exact inferInstance; clear hM; intro ww hM; simp only [putT, List.set_cons_succ, List.set_cons_zero]) | (apply wl_sta; exact rfl; exact hM; exact rfl; exact rfl; exact rfl; exact all_oneCell_toArray One.out; exact inferInstance; exact inferInstance; exact inferInstance; clear hM; intro ww hM; simp only [putT, List.set_cons_succ, List.set_cons_zero]) | (apply wl_bs0; exact rfl; exact hM; exact rfl; exact inferInstance; clear hM; intro gg ww hM; simp only [putT, List.set_cons_succ, List.set_cons_zero]) | (apply wl_bs1a; exact rfl; exact hM; exact rfl; exact inferInstance; exact rfl; exact inferInstance; clear hM; intro gg ww hM; simp only [putT, List.set_cons_succ, List.set_cons_zero]) | (apply wl_bs11; exact rfl; exact hM; exact rfl; exact inferInstance; exact rfl; exact rfl; clear hM; intro gg ww hM; simp only [putT, List.set_cons_succ, List.set_cons_zero]) | (apply wl_conv; exact rfl; exact hM; exact rfl; exact rfl; exact inferInstance; exact inferInstance; simp only [putT, List.set_cons_succ, List.set_cons_zero]))
    go_ret
    exact ⟨congrArg (fun b => Ending.returned (.bool b)) ((unhide HB).trans (unhide hf).symm), hM.grow⟩

instance (l : List Spn) : One (spnCells l) := ⟨oneCells_spn l⟩
instance (s : Spn) : One (spnVals s) := ⟨fun u hu => by
  simp [spnVals] at hu
  rcases hu with rfl | rfl | rfl | rfl | rfl <;> rfl⟩
instance (r : Rec) (A : Option Addr) (n c : Nat) : One (recVals r (.slice A n c)) := ⟨fun u hu => by
  simp [recVals] at hu
  rcases hu with rfl | rfl | rfl | rfl | rfl <;> rfl⟩
instance (s : Spn) : SzL (spnVals s) 5 := ⟨rfl⟩
instance (r : Rec) (v : Value) : SzL (recVals r v) 5 := ⟨rfl⟩
instance (r : Rec) (v : Value) : AtA (recVals r v).toArray 0 (.int .i64 r.p) := ⟨rfl⟩
instance (r : Rec) (v : Value) : AtA (recVals r v).toArray 1 (.int .i64 r.e) := ⟨rfl⟩
instance (r : Rec) (v : Value) : AtA (recVals r v).toArray 2 (.int .i64 r.t) := ⟨rfl⟩
instance (r : Rec) (v : Value) : AtA (recVals r v).toArray 3 (.int .i64 r.s) := ⟨rfl⟩
instance (r : Rec) (v : Value) : AtA (recVals r v).toArray 4 v := ⟨rfl⟩
instance (r : Rec) (v u : Value) : PutA (recVals r v).toArray 4 u (recVals r u).toArray := ⟨rfl, by simp [recVals]⟩
instance (s : Spn) : AtA (spnVals s).toArray 0 (.int .i64 s.p) := ⟨rfl⟩
instance (s : Spn) : AtA (spnVals s).toArray 1 (.int .i64 s.e) := ⟨rfl⟩
instance (s : Spn) : AtA (spnVals s).toArray 2 (.int .i64 s.t) := ⟨rfl⟩
instance (s : Spn) : AtA (spnVals s).toArray 3 (.int .i64 s.f) := ⟨rfl⟩
instance (s : Spn) : AtA (spnVals s).toArray 4 (.int .i64 s.k) := ⟨rfl⟩
theorem rec_range {w : World} {A : Option Addr} {n : Nat} {l : List Rec} {vs : List Value} (hb : Reads w w.heap.size 5 A n (recCells l vs)) (hv : vs.length = l.length) (hl : l.length = n) (k : Nat) (hk : k < l.length) :
    ∃ b off, A = some ⟨b, off, none⟩ ∧ b < w.heap.size ∧ w.rangeAt b (off + k * 5) (recVals l[k] (vs[k]'(by omega))) := by
  obtain ⟨b, off, rfl, hbB, hcell⟩ := hb.form (by omega) (by decide)
  refine ⟨b, off, rfl, hbB, fun j v hj => ?_⟩
  have hj5 : j < 5 := by have := (List.getElem?_eq_some_iff.1 hj).1; simpa [recVals] using this
  rw [Nat.add_assoc]
  exact hcell _ v (by rw [recCells_get l vs hv k hk j hj5]; exact hj)
/-- A slice of records, as it is read. -/
structure RecsR (w : World) (A : Option Addr) (n : Nat) (l : List Rec) (vs : List Value) : Prop where
  vl : vs.length = l.length
  len : l.length = n
  cells : Reads w w.heap.size 5 A n (recCells l vs)
  vals : ∀ i (h : i < l.length), ValOf w (vs[i]'(by rw [vl]; exact h)) l[i].v
set_option maxRecDepth 100000 in
set_option maxHeartbeats 4000000 in
theorem RecordsEq_any (w : World) (n1 c1 n2 c2 : Nat) (A1 A2 : Option Addr) (l1 l2 : List Rec) (v1 v2 : List Value) (hn : n1 ≤ 1000000000) (h1 : RecsR w A1 n1 l1 v1) (h2 : RecsR w A2 n2 l2 v2) :
    Calls Try.prog 16 #[.slice A1 n1 c1, .slice A2 n2 c2] w fun x w' => x = .returned (.bool (decide (l1 = l2))) ∧ Grow w noOwn w' := by
  obtain ⟨ans, hans⟩ : ∃ ans, ans = decide (l1 = l2) := ⟨_, rfl⟩
  rw [← hans]
  have HA := hide hans
  have Z1 := hide h1.len
  have Z2 := hide h2.len
  clear hans
  by_cases hne : n1 = n2
  · subst hne
    go_enter Try.func16, Try.ntmps16
    go_wp2
    go_loopw [5] (fun v wr => ∃ k : Nat, k ≤ n1 ∧ v = .int .i64 k ∧ Grow w noOwn wr ∧ Hid (l1.take k = l2.take k)) (fun v _ => n1 - (intOf v).toNat)
    case atStart => exact ⟨0, Nat.zero_le _, rfl, Grow.refl _ _, hide rfl⟩
    case round =>
      obtain ⟨k, hk, rfl, hg, hsame⟩ := hrel
      by_cases hlt : k < n1
      · have k1 : k < l1.length := by rw [unhide Z1]; exact hlt
        have k2 : k < l2.length := by rw [unhide Z2]; exact hlt
        obtain ⟨b1, o1, rfl, hb1, hr1⟩ := rec_range h1.cells h1.vl (unhide Z1) k k1
        obtain ⟨b2, o2, rfl, hb2, hr2⟩ := rec_range h2.cells h2.vl (unhide Z2) k k2
        obtain ⟨D1, n3, c3, x1, _, y1⟩ := h1.vals k k1
        obtain ⟨D2, n4, c4, x2, _, y2⟩ := h2.vals k k2
        rw [x1] at hr1
        rw [x2] at hr2
        obtain ⟨r1, q1⟩ : ∃ r, r = l1[k] := ⟨_, rfl⟩
        obtain ⟨r2, q2⟩ : ∃ r, r = l2[k] := ⟨_, rfl⟩
        rw [← q1] at hr1 y1
        rw [← q2] at hr2 y2
        have i1 := oldR_no hr1 hb1
        have i2 := oldR_no hr2 hb2
        have hM : Mem w noOwn wr [] := ⟨hg, (fun _ h => by cases h), List.Pairwise.nil, (fun _ h => by cases h)⟩
        have hstep : Hid (recEq r1 r2 = true → l1.take (k + 1) = l2.take (k + 1)) := hide (fun h => by
          rw [List.take_succ_eq_append_getElem k1, List.take_succ_eq_append_getElem k2, unhide hsame, ← q1, ← q2, (recEq_iff r1 r2).1 h])
        have hstop : Hid (recEq r1 r2 = false → ans = false) := hide (fun h => by
          rw [unhide HA]
          refine decide_eq_false (fun e => ?_)
          have : r1 = r2 := by rw [q1, q2]; simp [e]
          rw [(recEq_iff r1 r2).2 this] at h
          cases h)
        clear hr1 hr2 x1 x2 q1 q2 hsame
        have hC : ∀ w', Grow w noOwn w' → Calls Try.prog 40 #[.agg (recVals r1 (.slice D1 n3 c3)).toArray, .agg (recVals r2 (.slice D2 n4 c4)).toArray] w' fun x w'' => x = .returned (.bool (recEq r1 r2)) ∧ Grow w' noOwn w'' := fun w' hg' =>
          Same_any w' r1 r2 n3 c3 n4 c4 D1 D2 (bytesUp y1 hg') (bytesUp y2 hg')
        cases hq : recEq r1 r2
        all_goals
          rw [hq] at hC
          have HQ := hide hq
          clear hq
          go_wp2_with fail
          refine wp_region_mem [] [] [] hM (by kernel_rfl) (by kernel_rfl) (by kernel_rfl) (by kernel_rfl) ?_; simp only [initS, Act.put, List.setIfInBounds_toArray, List.set_cons_succ, List.set_cons_zero, List.map_cons, List.map_nil]
          repeat (first | (refine gl_call (f := 40) rfl rfl (by rfl) #[.agg (recVals r1 (.slice D1 n3 c3)).toArray, .agg (recVals r2 (.slice D2 n4 c4)).toArray] rfl _ (fun γ w => by go_simp) (fun w' hC' => (hC w' hC'.1.grow)) ?_; simp only [setD, List.set_cons_succ, List.set_cons_zero]) | (apply gl_move; (first | exact .inl rfl | exact .inr rfl); exact rfl; exact rfl; simp only [setD, List.set_cons_succ, List.set_cons_zero]) | (apply gl_ld; exact rfl; exact rfl; exact rfl; exact inferInstance; exact inferInstance; simp only [setD, List.set_cons_succ, List.set_cons_zero]) | (apply gl_lda; exact rfl; exact rfl; exact rfl; exact inferInstance; exact inferInstance; exact inferInstance; exact inferInstance; simp only [setD, List.set_cons_succ, List.set_cons_zero]) | (apply gl_ldr; exact rfl; exact rfl; exact rfl; exact inferInstance; exact inferInstance; exact inferInstance; exact inferInstance; simp only [setD, List.set_cons_succ, List.set_cons_zero]) | (apply gl_cmp true; exact rfl; exact rfl; exact rfl; exact rfl; (simp only [cmpB, Option.some.injEq, decide_eq_true_eq, ne_eq]; omega); simp only [setD, List.set_cons_succ, List.set_cons_zero]) | (apply gl_cmp false; exact rfl; exact rfl; exact rfl; exact rfl; (simp only [cmpB, Option.some.injEq, decide_eq_false_iff_not, ne_eq]; omega); simp only [setD, List.set_cons_succ, List.set_cons_zero]) | (apply gl_pick; exact rfl; exact rfl; exact rfl; exact rfl; exact rfl; simp only [setD, List.set_cons_succ, List.set_cons_zero, cond_true, cond_false]) | (apply gl_conv; exact rfl; exact rfl; exact rfl; exact inferInstance; exact inferInstance; simp only [setD, List.set_cons_succ, List.set_cons_zero]) | (apply gl_skip; exact rfl; simp only [setD, List.set_cons_succ, List.set_cons_zero]) | (apply gl_pure; exact rfl; intro K hK; go_simp; refine hK _ ?_; clear hK K; simp only [setD, List.set_cons_succ, List.set_cons_zero]))
          refine gw_nil ?_; intro γ w4 hC' hk'; simp only [slAct, slVals, Slot.get]
          have hg4 := hC'.1.grow
          clear hk' hC' hM hC
          go_wp2_with fail
        · go_ret
          exact ⟨congrArg (fun b => Ending.returned (.bool b)) (unhide hstop (unhide HQ)).symm, hg4⟩
        · go_roundw
          case rel => exact ⟨k + 1, by omega, by go_num, hg4, hide (unhide hstep (unhide HQ))⟩
          case measure => simp [intOf]; omega
      · obtain rfl : k = n1 := by omega
        go_wp2
        go_ret
        refine ⟨congrArg (fun b => Ending.returned (.bool b)) ?_, hg⟩
        rw [unhide HA]
        have := unhide hsame
        rw [List.take_of_length_le (by rw [unhide Z1]; exact Nat.le_refl _), List.take_of_length_le (by rw [unhide Z2]; exact Nat.le_refl _)] at this
        exact (decide_eq_true this).symm
  · have hf : Hid (ans = false) := hide (by rw [unhide HA]; exact decide_eq_false (fun e => hne (by rw [← h1.len, ← h2.len, e])))
    have hne' : ¬ (n1 : Int) = n2 := by omega
    have b1 := bne_iff_ne.2 hne'
    go_enter Try.func16, Try.ntmps16
    go_wp2
    go_ret
    exact ⟨congrArg (fun b => Ending.returned (.bool b)) (unhide hf).symm, Grow.refl _ _⟩
theorem spn_ext (a b : Spn) : a = b ↔ a.p = b.p ∧ a.e = b.e ∧ a.t = b.t ∧ a.f = b.f ∧ a.k = b.k := by
  obtain ⟨p, e, t, f, k⟩ := a
  obtain ⟨p', e', t', f', k'⟩ := b
  simp
@[go_sem high] theorem equalIn_spn (w : World) (a b : Spn) : (Op.equalIn 10000 39 (.agg (spnVals a).toArray) (.agg (spnVals b).toArray)).run Try.prog w = .ok (decide (a = b)) w := by
  have u3 := Try.underlying3
  have a3 := Try.isAgg3
  have z3 := Try.sizeOf3
  have hS : Try.prog.underlying 39 = some (.struct (Try.prog.fieldsOf 39)) := by kernel_rfl
  have hp : Try.prog.stoodInHeld 39 = false := by kernel_rfl
  obtain ⟨p, e, t, f, k⟩ := a
  obtain ⟨p', e', t', f', k'⟩ := b
  simp only [spnVals]
  rw [show (10000 : Nat) = 9999 + 1 from rfl, run_equalIn_agg w 9999 39 _ _ hS hp]
  simp only [Program.fieldsOf, Try.underlying39]
  go_simp
  by_cases h1 : p = p' <;> by_cases h2 : e = e' <;> by_cases h3 : t = t' <;> by_cases h4 : f = f' <;> by_cases h5 : k = k' <;> simp [h1, h2, h3, h4, h5]
theorem guard_spn : Try.prog.eqGuardType Try.prog.depth 39 = false := by kernel_rfl
set_option maxRecDepth 100000 in
set_option maxHeartbeats 4000000 in
theorem SpansEq_any (w : World) (n1 c1 n2 c2 : Nat) (A1 A2 : Option Addr) (l1 l2 : List Spn) (z1 : l1.length = n1) (z2 : l2.length = n2) (hn : n1 ≤ 1000000000) (h1 : Reads w w.heap.size 5 A1 n1 (spnCells l1)) (h2 : Reads w w.heap.size 5 A2 n2 (spnCells l2)) :
    Calls Try.prog 24 #[.slice A1 n1 c1, .slice A2 n2 c2] w fun x w' => x = .returned (.bool (decide (l1 = l2))) ∧ Grow w noOwn w' := by
  obtain ⟨ans, hans⟩ : ∃ ans, ans = decide (l1 = l2) := ⟨_, rfl⟩
  rw [← hans]
  have HA := hide hans
  have Z1 := hide z1
  have Z2 := hide z2
  clear hans
  have gd := guard_spn
  by_cases hne : n1 = n2
  · subst hne
    clear z1 z2
    go_enter Try.func24, Try.ntmps24
    go_wp2
    go_loopw [5] (fun v wr => ∃ k : Nat, k ≤ n1 ∧ v = .int .i64 k ∧ Grow w noOwn wr ∧ Hid (l1.take k = l2.take k)) (fun v _ => n1 - (intOf v).toNat)
    case atStart => exact ⟨0, Nat.zero_le _, rfl, Grow.refl _ _, hide rfl⟩
    case round =>
      obtain ⟨k, hk, rfl, hg, hsame⟩ := hrel
      by_cases hlt : k < n1
      · have k1 : k < l1.length := by rw [unhide Z1]; exact hlt
        have k2 : k < l2.length := by rw [unhide Z2]; exact hlt
        obtain ⟨b1, o1, rfl, hb1, hr1⟩ := spn_cells h1 (unhide Z1) k k1
        obtain ⟨b2, o2, rfl, hb2, hr2⟩ := spn_cells h2 (unhide Z2) k k2
        obtain ⟨r1, q1⟩ : ∃ r, r = l1[k] := ⟨_, rfl⟩
        obtain ⟨r2, q2⟩ : ∃ r, r = l2[k] := ⟨_, rfl⟩
        rw [← q1] at hr1
        rw [← q2] at hr2
        have i1 := oldR_no hr1 hb1
        have i2 := oldR_no hr2 hb2
        have hM : Mem w noOwn wr [] := ⟨hg, (fun _ h => by cases h), List.Pairwise.nil, (fun _ h => by cases h)⟩
        have hstep : Hid (r1 = r2 → l1.take (k + 1) = l2.take (k + 1)) := hide (fun h => by
          rw [List.take_succ_eq_append_getElem k1, List.take_succ_eq_append_getElem k2, unhide hsame, ← q1, ← q2, h])
        have hstop : Hid (r1 ≠ r2 → ans = false) := hide (fun h => by
          rw [unhide HA]
          exact decide_eq_false (fun e => h (by rw [q1, q2]; simp [e])))
        clear hr1 hr2 q1 q2 hsame
        by_cases hq : r1 = r2
        · have HQ := hide hq
          have hd : decide (r1 = r2) = true := decide_eq_true hq
          clear hq
          go_wp2_with fail
          refine wp_region_mem [] [] [] hM (by kernel_rfl) (by kernel_rfl) (by kernel_rfl) (by kernel_rfl) ?_; simp only [initS, Act.put, List.setIfInBounds_toArray, List.set_cons_succ, List.set_cons_zero, List.map_cons, List.map_nil]
          repeat (first | (apply gl_move; (first | exact .inl rfl | exact .inr rfl); exact rfl; exact rfl; simp only [setD, List.set_cons_succ, List.set_cons_zero]) | (apply gl_ld; exact rfl; exact rfl; exact rfl; exact inferInstance; exact inferInstance; simp only [setD, List.set_cons_succ, List.set_cons_zero]) | (apply gl_lda; exact rfl; exact rfl; exact rfl; exact inferInstance; exact inferInstance; exact inferInstance; exact inferInstance; simp only [setD, List.set_cons_succ, List.set_cons_zero]) | (apply gl_ldr; exact rfl; exact rfl; exact rfl; exact inferInstance; exact inferInstance; exact inferInstance; exact inferInstance; simp only [setD, List.set_cons_succ, List.set_cons_zero]) | (apply gl_cmp true; exact rfl; exact rfl; exact rfl; exact rfl; (simp only [cmpB, Option.some.injEq, decide_eq_true_eq, ne_eq]; omega); simp only [setD, List.set_cons_succ, List.set_cons_zero]) | (apply gl_cmp false; exact rfl; exact rfl; exact rfl; exact rfl; (simp only [cmpB, Option.some.injEq, decide_eq_false_iff_not, ne_eq]; omega); simp only [setD, List.set_cons_succ, List.set_cons_zero]) | (apply gl_pick; exact rfl; exact rfl; exact rfl; exact rfl; exact rfl; simp only [setD, List.set_cons_succ, List.set_cons_zero, cond_true, cond_false]) | (apply gl_conv; exact rfl; exact rfl; exact rfl; exact inferInstance; exact inferInstance; simp only [setD, List.set_cons_succ, List.set_cons_zero]) | (apply gl_skip; exact rfl; simp only [setD, List.set_cons_succ, List.set_cons_zero]) | (apply gl_pure; exact rfl; intro K hK; go_simp; refine hK _ ?_; clear hK K; simp only [setD, List.set_cons_succ, List.set_cons_zero]))
          refine gw_nil ?_; intro γ w4 hC' hk'; simp only [slAct, slVals, Slot.get]
          have hg4 := hC'.1.grow
          clear hk' hC' hM
          go_wp2_with fail
          go_roundw
          case rel => exact ⟨k + 1, by omega, by go_num, hg4, hide (unhide hstep (unhide HQ))⟩
          case measure => simp [intOf]; omega
        · have HQ := hide hq
          have hd : decide (r1 = r2) = false := decide_eq_false hq
          clear hq
          go_wp2_with fail
          refine wp_region_mem [] [] [] hM (by kernel_rfl) (by kernel_rfl) (by kernel_rfl) (by kernel_rfl) ?_; simp only [initS, Act.put, List.setIfInBounds_toArray, List.set_cons_succ, List.set_cons_zero, List.map_cons, List.map_nil]
          repeat (first | (apply gl_move; (first | exact .inl rfl | exact .inr rfl); exact rfl; exact rfl; simp only [setD, List.set_cons_succ, List.set_cons_zero]) | (apply gl_ld; exact rfl; exact rfl; exact rfl; exact inferInstance; exact inferInstance; simp only [setD, List.set_cons_succ, List.set_cons_zero]) | (apply gl_lda; exact rfl; exact rfl; exact rfl; exact inferInstance; exact inferInstance; exact inferInstance; exact inferInstance; simp only [setD, List.set_cons_succ, List.set_cons_zero]) | (apply gl_ldr; exact rfl; exact rfl; exact rfl; exact inferInstance; exact inferInstance; exact inferInstance; exact inferInstance; simp only [setD, List.set_cons_succ, List.set_cons_zero]) | (apply gl_cmp true; exact rfl; exact rfl; exact rfl; exact rfl; (simp only [cmpB, Option.some.injEq, decide_eq_true_eq, ne_eq]; omega); simp only [setD, List.set_cons_succ, List.set_cons_zero]) | (apply gl_cmp false; exact rfl; exact rfl; exact rfl; exact rfl; (simp only [cmpB, Option.some.injEq, decide_eq_false_iff_not, ne_eq]; omega); simp only [setD, List.set_cons_succ, List.set_cons_zero]) | (apply gl_pick; exact rfl; exact rfl; exact rfl; exact rfl; exact rfl; simp only [setD, List.set_cons_succ, List.set_cons_zero, cond_true, cond_false]) | (apply gl_conv; exact rfl; exact rfl; exact rfl; exact inferInstance; exact inferInstance; simp only [setD, List.set_cons_succ, List.set_cons_zero]) | (apply gl_skip; exact rfl; simp only [setD, List.set_cons_succ, List.set_cons_zero]) | (apply gl_pure; exact rfl; intro K hK; go_simp; refine hK _ ?_; clear hK K; simp only [setD, List.set_cons_succ, List.set_cons_zero]))
          refine gw_nil ?_; intro γ w4 hC' hk'; simp only [slAct, slVals, Slot.get]
          have hg4 := hC'.1.grow
          clear hk' hC' hM
          go_wp2_with fail
          go_ret
          exact ⟨congrArg (fun b => Ending.returned (.bool b)) (unhide hstop (unhide HQ)).symm, hg4⟩
      · obtain rfl : k = n1 := by omega
        go_wp2
        go_ret
        refine ⟨congrArg (fun b => Ending.returned (.bool b)) ?_, hg⟩
        rw [unhide HA]
        have := unhide hsame
        rw [List.take_of_length_le (by rw [unhide Z1]; exact Nat.le_refl _), List.take_of_length_le (by rw [unhide Z2]; exact Nat.le_refl _)] at this
        exact (decide_eq_true this).symm
  · have hf : Hid (ans = false) := hide (by rw [unhide HA]; exact decide_eq_false (fun e => hne (by rw [← z1, ← z2, e])))
    clear z1 z2
    have hne' : ¬ (n1 : Int) = n2 := by omega
    have b1 := bne_iff_ne.2 hne'
    go_enter Try.func24, Try.ntmps24
    go_wp2
    go_ret
    exact ⟨congrArg (fun b => Ending.returned (.bool b)) (unhide hf).symm, Grow.refl _ _⟩
end Go.Proofs.Ytechglhkcjgodaa
