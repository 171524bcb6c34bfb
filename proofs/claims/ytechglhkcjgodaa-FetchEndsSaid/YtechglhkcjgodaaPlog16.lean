/- plog: Append of a record that does not fit; bytes.Clone. -/
import Derived.Test.YtechglhkcjgodaaPlog15
namespace Go.Proofs.Ytechglhkcjgodaa
open Go.RowKit Go.MapKept
set_option linter.unusedSimpArgs false

/-- bytes.Clone: the row is its own. -/
theorem Clone_own (w : World) (n c : Nat) (A : Option Addr) (l : List (BitVec 8)) (hc : n ≤ c) (hb : Bytes w w.heap.size A n l) (hn : n ≤ 140737488350000) :
    Calls Try.prog 50 #[.slice A n c] w fun e w' => (∃ A' c', e = .returned (.slice A' n c') ∧ w'.ownsRow 0 5 1 (.slice A' n c') n (l.map V8) ∧ ∀ g, (Value.slice A' n c').ownBlock = some g → w.heap.size ≤ g) ∧ Grow w noOwn w' := by
  have hM := Mem.nil w noOwn
  cases A with
  | none =>
    have hn0 : n = 0 := by
      rcases Nat.eq_zero_or_pos n with h | h
      · exact h
      · obtain ⟨ad, e, _⟩ := hb.2 h; cases e
    subst hn0
    go_enter Try.func50, Try.ntmps50
    go_wp2
    go_ret
    have hl : l = [] := by have := hb.len; simpa using this
    subst hl
    exact ⟨⟨none, 0, rfl, World.ownsRow_nil w 0 _ 1, fun g hg => by simp [Value.ownBlock] at hg⟩, hM.grow⟩
  | some ad =>
    have H := hide hc
    clear hc
    go_enter Try.func50, Try.ntmps50
    go_wp2_with (first
      | (refine wpList_buildSlice_row rfl 40 0 #[] rfl hM 5 Try.underlying40 (.int .u8 0) 1 1 u8row (by omega) (by omega) [] (by simp [slCells, Instr.fill]) rfl ?_; clear hM; intro g1 w1 hM)
      | (refine wpList_append_row rfl _ _ 40 rfl hM 0 _ 5 1 0 [] rfl rfl Try.underlying40 (.int .u8 0) 1 u8row rfl (by decide) w.heap.size (some ad) n c (l.map V8) rfl (hM.reads hb (Nat.le_refl _) (fun _ _ e => e)) (oneCells_V8 l) (by unfold maxLen; omega) (by omega) n (by omega) (l.map V8) (by simp) ?_; clear hM; intro A2 c2 w2 hM))
    have hrow := hM.row 0 rfl
    go_ret
    exact ⟨⟨A2, c2, rfl, hrow, fun g hg => (hM.own_ 0 rfl hg).resolve_left (fun e => e)⟩, hM.grow⟩

set_option maxRecDepth 100000 in
set_option maxHeartbeats 8000000 in
theorem Append_nofit (w : World) (g gm : Nat) (A B : Option Addr) (ca cb : Nat) (m : PL) (vs : List Value) (S V : Nat → Prop) (h : LogHas w g gm A B ca cb m vs S V) (r : Rec) (n c : Nat) (D : Option Addr) (hb : Bytes w w.heap.size D n r.v) (hr : PL.isRec r = true) (hlen : m.recs.length ≤ 1000) (hep : 0 ≤ m.ep r.p ∧ r.e = m.ep r.p) (hsl : m.spans.length ≤ 1000000) (hin : ∀ x ∈ m.recs, PL.isRec x = true) (hi : m.recs.findIdx? (sameRec r) = none) (hf : m.fits r ≠ 0) :
    Calls Try.prog 28 #[.pointer (some ⟨g, 0, none⟩), .agg #[.int .i64 r.p, .int .i64 r.e, .int .i64 r.t, .int .i64 r.s, .slice D n c]] w fun x w' => x = .returned (.tuple #[.int .i64 (m.append r).2.1, .int .i64 (m.append r).2.2]) ∧ Step w g (m.append r).1 S V w' := by
  have hl : r.v.length = n := hb.len
  have HI : ∀ w1, Calls Try.prog 45 #[.agg #[.int .i64 r.p, .int .i64 r.e, .int .i64 r.t, .int .i64 r.s, .slice D n c]] w1 fun x w' => x = .returned (.bool true) ∧ Grow w1 noOwn w' := fun w1 => by
    have := isRecord_any r.p r.e r.t r.s n c D r.v hl w1
    rwa [hr] at this
  have hp := (isRec_p hr).1
  obtain ⟨ev, hev⟩ : ∃ ev, ev = r.e := ⟨_, rfl⟩
  have hlk : (.tuple #[(epf m r.p).getD (.int .i64 0), .bool (epf m r.p).isSome] : Value) = .tuple #[.int .i64 ev, .bool true] := by
    rw [epf_get m r.p hp, epf_some m r.p hp, show m.epv r.p = ev by rw [hev, hep.2]; exact if_pos hep.1]
    simp [hep.1]
  have hap : m.append r = (m, 0, m.fits r) := by rw [append_new m r hr hep.1 hep.2 hi, if_neg hf]
  have HA : ∀ w1, Grow w noOwn w1 → Calls Try.prog 46 #[.pointer (some ⟨g, 0, none⟩), .agg #[.int .i64 r.p, .int .i64 r.e, .int .i64 r.t, .int .i64 r.s, .slice D n c]] w1 fun x w' => x = .returned (.int .i64 (-1)) ∧ Grow w1 noOwn w' := fun w1 hg => by
    have := again_any w1 g gm A B ca cb m vs (h.read.grow hg) (by omega) r n c D
    rwa [show m.againAt r = -1 from by unfold PL.againAt; rw [show m.recs.findIdx? (fun x => decide (x.p = r.p) && decide (x.e = r.e) && decide (x.s = r.s)) = none from hi]] at this
  have HFit : ∀ w1, Grow w noOwn w1 → Calls Try.prog 48 #[.pointer (some ⟨g, 0, none⟩), .agg #[.int .i64 r.p, .int .i64 r.e, .int .i64 r.t, .int .i64 r.s, .slice D n c]] w1 fun x w' => x = .returned (.int .i64 (m.fits r)) ∧ Grow w1 noOwn w' := fun w1 hg =>
    fits_any w1 g gm A B ca cb m vs (h.read.grow hg) hin hlen (by omega) r n c D
  rw [hap]
  obtain ⟨fe, hfe⟩ : ∃ fe, fe = m.fits r := ⟨_, rfl⟩
  rw [← hfe] at hf HFit ⊢
  have hsame : Hid (∀ w', Grow w noOwn w' → Step w g m S V w') := hide (fun w' hg => Step.same ⟨gm, A, B, ca, cb, vs, h⟩ hg)
  have HK := hide hlk
  clear hl hr hep hlk hp hi hap hfe
  have hR := h.read
  have hM := Mem.nil w noOwn
  have tok : True := trivial
  go_enter Try.func28, Try.ntmps28
  go_wp2_with (first
    | (have _t := tok; refine wpList_box_mem hM rfl 42 _ rfl (.agg #[.int .i64 r.p, .int .i64 r.e, .int .i64 r.t, .int .i64 r.s, .slice D n c]) rfl (recVals r (.slice D n c)).toArray rfl ?_; clear tok hM; intro g1 w1 hM)
    | (refine BigFrame.wpList_want rfl fun _ hK => wp_load_blk 42 _ rfl hM 0 g1 _ _ rfl rfl _ Try.underlying42 rfl (by kernel_rfl) (hK _ _ ?_))
    | (go_at_call 45; refine (HI w1).mono ?_; rintro e1 w2 ⟨rfl, hg⟩; replace hM := hM.call hg))
  have hq : Quiet (fun w' => Mem w noOwn w' [.blk g1 42 (recVals r (.slice D n c)).toArray]) (fun w1 w2 => Grow w1 noOwn w2) (fun _ _ => True) := ⟨fun w _ => Grow.refl w _, fun _ _ => trivial⟩
  refine wp_region_ghost (C := fun w' => Mem w noOwn w' [.blk g1 42 (recVals r (.slice D n c)).toArray]) (D := fun _ => True) (R := fun w1 w2 => Grow w1 noOwn w2) (R' := fun _ _ => True) [] [] [] (by kernel_rfl) (by kernel_rfl) (by kernel_rfl) (by kernel_rfl) hM.drew trivial (fun _ _ _ _ _ h => h) hq.1 hq.2 ?_
  simp only [initS, Act.put, List.setIfInBounds_toArray, List.set_cons_succ, List.set_cons_zero, List.map_cons, List.map_nil]
  repeat (first
    | (refine gw_move hq rfl _ (.inl rfl) _ rfl ?_; simp only [setD, List.set_cons_succ, List.set_cons_zero])
    | (refine gw_load1 hq rfl 80 _ rfl ⟨g, 2, none⟩ rfl _ Try.underlying80 rfl (.map (some gm)) (fun w' hC => (hR.grow hC.grow).blk.cell 2) ?_; simp only [setD, List.set_cons_succ, List.set_cons_zero])
    | (refine gw_load1 hq rfl 3 _ rfl ⟨g1, 0, none⟩ rfl _ Try.underlying3 rfl (.int .i64 r.p) (fun w' hC => hC.cell 0 rfl 0) ?_; simp only [setD, List.set_cons_succ, List.set_cons_zero])
    | (refine gw_lookup hq rfl 80 _ _ true rfl gm (epf m) (fun w' hC => (hR.grow hC.grow).map) 3 3 Try.underlying80 Try.underlying3 (.int .i64 0) (by kernel_rfl) rfl r.p rfl (.tuple #[.int .i64 ev, .bool true]) (unhide HK) ?_; simp only [setD, List.set_cons_succ, List.set_cons_zero])
    | (refine gw_pure_ex hq rfl (fun K hK => ?_); go_simp; refine hK _ ?_; clear hK K; simp only [setD, List.set_cons_succ, List.set_cons_zero]))
  intro γ w4 hC4 hk4
  simp only [slAct, slVals, Slot.get]
  have d1 : w4.cell? ⟨g1, 1, none⟩ = some (.int .i64 r.e) := hC4.cell 0 rfl 1
  clear hM hk4
  have b1 := bne_iff_ne.2 hf
  go_wp2_with (first
    | (refine BigFrame.wpList_want rfl fun _ hK => wp_load_blk 42 _ rfl hC4 0 g1 _ _ rfl rfl _ Try.underlying42 rfl (by kernel_rfl) (hK _ _ ?_))
    | (go_at_call 46; refine (HA _ hC4.grow).mono ?_; rintro e1 w5 ⟨rfl, hg5⟩; replace hC4 := hC4.call hg5)
    | (go_at_call 48; refine (HFit _ hC4.grow).mono ?_; rintro e1 w6 ⟨rfl, hg6⟩; replace hC4 := hC4.call hg6))
  go_ret2
  exact ⟨rfl, unhide hsame _ hC4.grow⟩
end Go.Proofs.Ytechglhkcjgodaa
