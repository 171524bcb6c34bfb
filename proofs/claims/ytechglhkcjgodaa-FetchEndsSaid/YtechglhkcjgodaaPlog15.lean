/- plog: Append of a record that is there. -/
import Derived.Test.YtechglhkcjgodaaPlog14
namespace Go.Proofs.Ytechglhkcjgodaa
open Go.RowKit Go.MapKept
set_option linter.unusedSimpArgs false

theorem bytes_up {w w' : World} {n : Nat} {D : Option Addr} {l : List (BitVec 8)} (hb : Bytes w w.heap.size D n l) (hg : Grow w noOwn w') : Bytes w' w'.heap.size D n l := Reads.more (Reads.grow hb hg (Nat.le_refl _)) hg.size

set_option maxRecDepth 100000 in
set_option maxHeartbeats 8000000 in
theorem Append_old (w : World) (g gm : Nat) (A B : Option Addr) (ca cb : Nat) (m : PL) (vs : List Value) (S V : Nat → Prop) (h : LogHas w g gm A B ca cb m vs S V) (r : Rec) (n c : Nat) (D : Option Addr) (hb : Bytes w w.heap.size D n r.v) (hr : PL.isRec r = true) (hlen : m.recs.length ≤ 1000) (hep : 0 ≤ m.ep r.p ∧ r.e = m.ep r.p) (i : Nat) (hi : m.recs.findIdx? (sameRec r) = some i) :
    Calls Try.prog 28 #[.pointer (some ⟨g, 0, none⟩), .agg #[.int .i64 r.p, .int .i64 r.e, .int .i64 r.t, .int .i64 r.s, .slice D n c]] w fun x w' => x = .returned (.tuple #[.int .i64 (m.append r).2.1, .int .i64 (m.append r).2.2]) ∧ Step w g (m.append r).1 S V w' := by
  have hl : r.v.length = n := hb.len
  have HI : ∀ w1, Calls Try.prog 45 #[.agg #[.int .i64 r.p, .int .i64 r.e, .int .i64 r.t, .int .i64 r.s, .slice D n c]] w1 fun x w' => x = .returned (.bool true) ∧ Grow w1 noOwn w' := fun w1 => by
    have := isRecord_any r.p r.e r.t r.s n c D r.v hl w1
    rwa [hr] at this
  have hp := (isRec_p hr).1
  obtain ⟨ev, hev⟩ : ∃ ev, ev = r.e := ⟨_, rfl⟩
  have hlk : (.tuple #[(epf m r.p).getD (.int .i64 0), .bool (epf m r.p).isSome] : Value) = .tuple #[.int .i64 ev, .bool true] := by
    rw [epf_get m r.p hp, epf_some m r.p hp, show m.epv r.p = ev by rw [hev, hep.2]; exact if_pos hep.1]
    simp [hep.1]
  have hap := append_old m r i hr hep.1 hep.2 hi
  have hil : i < m.recs.length := by
    rw [List.findIdx?_eq_some_iff_getElem] at hi
    exact hi.1
  have HA : ∀ w1, Grow w noOwn w1 → Calls Try.prog 46 #[.pointer (some ⟨g, 0, none⟩), .agg #[.int .i64 r.p, .int .i64 r.e, .int .i64 r.t, .int .i64 r.s, .slice D n c]] w1 fun x w' => x = .returned (.int .i64 i) ∧ Grow w1 noOwn w' := fun w1 hg => by
    have := again_any w1 g gm A B ca cb m vs (h.read.grow hg) (by omega) r n c D
    rwa [show m.againAt r = i from by unfold PL.againAt; rw [show m.recs.findIdx? (fun x => decide (x.p = r.p) && decide (x.e = r.e) && decide (x.s = r.s)) = some i from hi]] at this
  have hgd : m.recs.getD i r = m.recs[i] := by simp [hil]
  rw [hgd] at hap
  have hsame : Hid (∀ w', Grow w noOwn w' → Step w g m S V w') := hide (fun w' hg => Step.same ⟨gm, A, B, ca, cb, vs, h⟩ hg)
  have HK := hide hlk
  obtain ⟨D1, n1, c1, hv1, _, hb1, _⟩ := h.vals i hil
  obtain ⟨b, off, rfl, hbB, _, _, k2, _, k4⟩ := rec_cells h.read.recs h.vl rfl i hil
  rw [hv1] at k4
  obtain ⟨xt, hxt⟩ : ∃ xt, xt = m.recs[i].t := ⟨_, rfl⟩
  obtain ⟨xv, hxv⟩ : ∃ xv, xv = m.recs[i].v := ⟨_, rfl⟩
  rw [← hxt, ← hxv] at hap
  rw [← hxt] at k2
  rw [← hxv] at hb1
  have hcase : (xt ≠ r.t ∧ m.append r = (m, 0, 1)) ∨ (xt = r.t ∧ (xv == r.v) = false ∧ m.append r = (m, 0, 1)) ∨ (xt = r.t ∧ (xv == r.v) = true ∧ m.append r = (m, (i : Int), 0)) := by
    by_cases a1 : xt = r.t
    · by_cases a2 : xv = r.v
      · exact .inr (.inr ⟨a1, by simp [a2], by rw [hap, if_pos ⟨a1, a2⟩]⟩)
      · exact .inr (.inl ⟨a1, by simp [a2], by rw [hap, if_neg (fun h => a2 h.2)]⟩)
    · exact .inl ⟨a1, by rw [hap, if_neg (fun h => a1 h.1)]⟩
  clear hl hr hep hlk hp hi hap hgd hv1 hxt hxv
  have hR := h.read
  have hM := Mem.nil w noOwn
  have tok : True := trivial
  go_enter Try.func28, Try.ntmps28
  go_wp2_with (first
    | (have _t := tok; refine wpList_box_mem hM rfl 42 _ rfl (.agg #[.int .i64 r.p, .int .i64 r.e, .int .i64 r.t, .int .i64 r.s, .slice D n c]) rfl (recVals r (.slice D n c)).toArray rfl ?_; clear tok hM; intro g1 w1 hM)
    | (refine BigFrame.wpList_want rfl fun _ hK => wp_load_blk 42 _ rfl hM 0 g1 _ _ rfl rfl _ Try.underlying42 rfl (by kernel_rfl) (hK _ _ ?_))
    | (go_at_call 45; refine (HI w1).mono ?_; rintro e1 w2 ⟨rfl, hg⟩; replace hM := hM.call hg))
  have hq : Quiet (fun w' => Mem w noOwn w' [.blk g1 42 (recVals r (.slice D n c)).toArray]) (fun w1 w2 => Grow w1 noOwn w2) (fun _ _ => True) := ⟨fun w _ => Grow.refl w _, fun _ _ => trivial⟩
  refine wp_region_ghost (C := fun w' => Mem w noOwn w' [.blk g1 42 (recVals r (.slice D n c)).toArray]) (D := fun _ => True) (R := fun w1 w2 => Grow w1 noOwn w2) (R' := fun _ _ => True) [] [] [] (by kernel_rfl) (by kernel_rfl) (by kernel_rfl) (by kernel_rfl) hM.drew trivial (fun _ _ _ _ _ h => h) hq.1 hq.2 ?_
  simp only [initS, Act.put, List.setIfInBounds_toArray, List.set_cons_succ, List.set_cons_zero, List.map_cons, List.map_nil]
  repeat (first
    | (refine gw_move hq rfl _ (.inl rfl) _ rfl ?_; simp only [setD, List.set_cons_succ, List.set_cons_zero])
    | (refine gw_load1 hq rfl 80 _ rfl ⟨g, 2, none⟩ rfl _ Try.underlying80 rfl (.map (some gm)) (fun w' hC => (hR.grow hC.grow).blk.cell 2) ?_; simp only [setD, List.set_cons_succ, List.set_cons_zero])
    | (refine gw_load1 hq rfl 3 _ rfl ⟨g1, 0, none⟩ rfl _ Try.underlying3 rfl (.int .i64 r.p) (fun w' hC => hC.cell 0 rfl 0) ?_; simp only [setD, List.set_cons_succ, List.set_cons_zero])
    | (refine gw_lookup hq rfl 80 _ _ true rfl gm (epf m) (fun w' hC => (hR.grow hC.grow).map) 3 3 Try.underlying80 Try.underlying3 (.int .i64 0) (by kernel_rfl) rfl r.p rfl (.tuple #[.int .i64 ev, .bool true]) (unhide HK) ?_; simp only [setD, List.set_cons_succ, List.set_cons_zero])
    | (refine gw_pure_ex hq rfl (fun K hK => ?_); go_simp; refine hK _ ?_; clear hK K; simp only [setD, List.set_cons_succ, List.set_cons_zero]))
  intro γ w4 hC4 hk4
  simp only [slAct, slVals, Slot.get]
  have d1 : w4.cell? ⟨g1, 1, none⟩ = some (.int .i64 r.e) := hC4.cell 0 rfl 1
  clear hM hk4
  go_wp2_with (first
    | (refine BigFrame.wpList_want rfl fun _ hK => wp_load_blk 42 _ rfl hC4 0 g1 _ _ rfl rfl _ Try.underlying42 rfl (by kernel_rfl) (hK _ _ ?_))
    | (go_at_call 46; refine (HA _ hC4.grow).mono ?_; rintro e1 w5 ⟨rfl, hg5⟩; replace hC4 := hC4.call hg5))
  rcases hcase with ⟨hne, hx⟩ | ⟨rfl, he, hx⟩ | ⟨rfl, he, hx⟩
  · replace hx := hide hx
    refine wp_region_ghost (C := fun w' => Mem w noOwn w' [.blk g1 42 (recVals r (.slice D n c)).toArray]) (D := fun _ => True) (R := fun w1 w2 => Grow w1 noOwn w2) (R' := fun _ _ => True) [] [] [] (by kernel_rfl) (by kernel_rfl) (by kernel_rfl) (by kernel_rfl) hC4.drew trivial (fun _ _ _ _ _ h => h) hq.1 hq.2 ?_
    simp only [initS, Act.put, List.setIfInBounds_toArray, List.set_cons_succ, List.set_cons_zero, List.map_cons, List.map_nil]
    repeat (first
      | (refine gw_move hq rfl _ (.inl rfl) _ rfl ?_; simp only [setD, List.set_cons_succ, List.set_cons_zero])
      | (refine gw_load1 hq rfl 29 _ rfl ⟨g, 0, none⟩ rfl _ Try.underlying29 rfl (.slice (some ⟨b, off, none⟩) m.recs.length ca) (fun w' hC => (hR.grow hC.grow).blk.cell 0) ?_; simp only [setD, List.set_cons_succ, List.set_cons_zero])
      | (refine gw_load1 hq rfl 3 _ rfl ⟨b, off + i * 5 + 2, none⟩ rfl _ Try.underlying3 rfl (.int .i64 xt) (fun w' hC => (hC.grow.keep (p := ⟨b, off + i * 5 + 2, none⟩) hbB (fun e => e)).trans k2) ?_; simp only [setD, List.set_cons_succ, List.set_cons_zero])
      | (refine gw_load1 hq rfl 3 _ rfl ⟨g1, 2, none⟩ rfl _ Try.underlying3 rfl (.int .i64 r.t) (fun w' hC => hC.cell 0 rfl 2) ?_; simp only [setD, List.set_cons_succ, List.set_cons_zero])
      | (refine gw_load1 hq rfl 40 _ rfl ⟨b, off + i * 5 + 4, none⟩ rfl _ Try.underlying40 rfl (.slice D1 n1 c1) (fun w' hC => (hC.grow.keep (p := ⟨b, off + i * 5 + 4, none⟩) hbB (fun e => e)).trans k4) ?_; simp only [setD, List.set_cons_succ, List.set_cons_zero])
      | (refine gw_load1 hq rfl 40 _ rfl ⟨g1, 4, none⟩ rfl _ Try.underlying40 rfl (.slice D n c) (fun w' hC => hC.cell 0 rfl 4) ?_; simp only [setD, List.set_cons_succ, List.set_cons_zero])
      | (refine gw_cmp hq rfl _ _ _ _ _ rfl _ _ _ rfl rfl true (by simp only [cmpB, Option.some.injEq, decide_eq_true_eq, ne_eq]; omega) ?_; simp only [setD, List.set_cons_succ, List.set_cons_zero])
      | (refine gw_cmp hq rfl _ _ _ _ _ rfl _ _ _ rfl rfl false (by simp only [cmpB, Option.some.injEq, decide_eq_false_iff_not, ne_eq]; omega) ?_; simp only [setD, List.set_cons_succ, List.set_cons_zero])
      | (refine gw_skip rfl ?_; simp only [setD, List.set_cons_succ, List.set_cons_zero])
      | (refine gw_pure_ex hq rfl (fun K hK => ?_); go_simp; refine hK _ ?_; clear hK K; simp only [setD, List.set_cons_succ, List.set_cons_zero]))
    intro γ2 w6 hC6 hk6
    simp only [slAct, slVals, Slot.get]
    go_wp2
    go_ret2
    rw [unhide hx]
    exact ⟨rfl, unhide hsame _ hC6.grow⟩
  · replace hx := hide hx
    have hE1 := hide he
    clear he
    refine wp_region_ghost (C := fun w' => Mem w noOwn w' [.blk g1 42 (recVals r (.slice D n c)).toArray]) (D := fun _ => True) (R := fun w1 w2 => Grow w1 noOwn w2) (R' := fun _ _ => True) [] [] [] (by kernel_rfl) (by kernel_rfl) (by kernel_rfl) (by kernel_rfl) hC4.drew trivial (fun _ _ _ _ _ h => h) hq.1 hq.2 ?_
    simp only [initS, Act.put, List.setIfInBounds_toArray, List.set_cons_succ, List.set_cons_zero, List.map_cons, List.map_nil]
    repeat (first
      | (refine gw_move hq rfl _ (.inl rfl) _ rfl ?_; simp only [setD, List.set_cons_succ, List.set_cons_zero])
      | (refine gw_load1 hq rfl 29 _ rfl ⟨g, 0, none⟩ rfl _ Try.underlying29 rfl (.slice (some ⟨b, off, none⟩) m.recs.length ca) (fun w' hC => (hR.grow hC.grow).blk.cell 0) ?_; simp only [setD, List.set_cons_succ, List.set_cons_zero])
      | (refine gw_load1 hq rfl 3 _ rfl ⟨b, off + i * 5 + 2, none⟩ rfl _ Try.underlying3 rfl (.int .i64 r.t) (fun w' hC => (hC.grow.keep (p := ⟨b, off + i * 5 + 2, none⟩) hbB (fun e => e)).trans k2) ?_; simp only [setD, List.set_cons_succ, List.set_cons_zero])
      | (refine gw_load1 hq rfl 3 _ rfl ⟨g1, 2, none⟩ rfl _ Try.underlying3 rfl (.int .i64 r.t) (fun w' hC => hC.cell 0 rfl 2) ?_; simp only [setD, List.set_cons_succ, List.set_cons_zero])
      | (refine gw_load1 hq rfl 40 _ rfl ⟨b, off + i * 5 + 4, none⟩ rfl _ Try.underlying40 rfl (.slice D1 n1 c1) (fun w' hC => (hC.grow.keep (p := ⟨b, off + i * 5 + 4, none⟩) hbB (fun e => e)).trans k4) ?_; simp only [setD, List.set_cons_succ, List.set_cons_zero])
      | (refine gw_load1 hq rfl 40 _ rfl ⟨g1, 4, none⟩ rfl _ Try.underlying40 rfl (.slice D n c) (fun w' hC => hC.cell 0 rfl 4) ?_; simp only [setD, List.set_cons_succ, List.set_cons_zero])
      | (refine gw_cmp hq rfl _ _ _ _ _ rfl _ _ _ rfl rfl true (by simp only [cmpB, Option.some.injEq, decide_eq_true_eq, ne_eq]; omega) ?_; simp only [setD, List.set_cons_succ, List.set_cons_zero])
      | (refine gw_cmp hq rfl _ _ _ _ _ rfl _ _ _ rfl rfl false (by simp only [cmpB, Option.some.injEq, decide_eq_false_iff_not, ne_eq]; omega) ?_; simp only [setD, List.set_cons_succ, List.set_cons_zero])
      | (refine gw_skip rfl ?_; simp only [setD, List.set_cons_succ, List.set_cons_zero])
      | (refine gw_call rfl (by rfl) 47 _ _ rfl #[.slice D1 n1 c1, .slice D n c] rfl (.bool false) (fun γ w => by go_simp) (fun w' hC => (by
            have hE := Equal_any w' n1 c1 n c D1 D xv r.v (bytes_up hb1 hC.grow) (bytes_up hb hC.grow)
            rw [unhide hE1] at hE
            exact hE.mono fun e w'' ⟨h1, h2⟩ => ⟨h1, h2 ▸ hC, h2 ▸ Grow.refl _ _⟩)) ?_; simp only [setD, List.set_cons_succ, List.set_cons_zero])
      | (refine gw_pure_ex hq rfl (fun K hK => ?_); go_simp; refine hK _ ?_; clear hK K; simp only [setD, List.set_cons_succ, List.set_cons_zero]))
    intro γ2 w6 hC6 hk6
    simp only [slAct, slVals, Slot.get]
    go_wp2
    go_ret2
    rw [unhide hx]
    exact ⟨rfl, unhide hsame _ hC6.grow⟩
  · replace hx := hide hx
    have hE1 := hide he
    clear he
    refine wp_region_ghost (C := fun w' => Mem w noOwn w' [.blk g1 42 (recVals r (.slice D n c)).toArray]) (D := fun _ => True) (R := fun w1 w2 => Grow w1 noOwn w2) (R' := fun _ _ => True) [] [] [] (by kernel_rfl) (by kernel_rfl) (by kernel_rfl) (by kernel_rfl) hC4.drew trivial (fun _ _ _ _ _ h => h) hq.1 hq.2 ?_
    simp only [initS, Act.put, List.setIfInBounds_toArray, List.set_cons_succ, List.set_cons_zero, List.map_cons, List.map_nil]
    repeat (first
      | (refine gw_move hq rfl _ (.inl rfl) _ rfl ?_; simp only [setD, List.set_cons_succ, List.set_cons_zero])
      | (refine gw_load1 hq rfl 29 _ rfl ⟨g, 0, none⟩ rfl _ Try.underlying29 rfl (.slice (some ⟨b, off, none⟩) m.recs.length ca) (fun w' hC => (hR.grow hC.grow).blk.cell 0) ?_; simp only [setD, List.set_cons_succ, List.set_cons_zero])
      | (refine gw_load1 hq rfl 3 _ rfl ⟨b, off + i * 5 + 2, none⟩ rfl _ Try.underlying3 rfl (.int .i64 r.t) (fun w' hC => (hC.grow.keep (p := ⟨b, off + i * 5 + 2, none⟩) hbB (fun e => e)).trans k2) ?_; simp only [setD, List.set_cons_succ, List.set_cons_zero])
      | (refine gw_load1 hq rfl 3 _ rfl ⟨g1, 2, none⟩ rfl _ Try.underlying3 rfl (.int .i64 r.t) (fun w' hC => hC.cell 0 rfl 2) ?_; simp only [setD, List.set_cons_succ, List.set_cons_zero])
      | (refine gw_load1 hq rfl 40 _ rfl ⟨b, off + i * 5 + 4, none⟩ rfl _ Try.underlying40 rfl (.slice D1 n1 c1) (fun w' hC => (hC.grow.keep (p := ⟨b, off + i * 5 + 4, none⟩) hbB (fun e => e)).trans k4) ?_; simp only [setD, List.set_cons_succ, List.set_cons_zero])
      | (refine gw_load1 hq rfl 40 _ rfl ⟨g1, 4, none⟩ rfl _ Try.underlying40 rfl (.slice D n c) (fun w' hC => hC.cell 0 rfl 4) ?_; simp only [setD, List.set_cons_succ, List.set_cons_zero])
      | (refine gw_cmp hq rfl _ _ _ _ _ rfl _ _ _ rfl rfl true (by simp only [cmpB, Option.some.injEq, decide_eq_true_eq, ne_eq]; omega) ?_; simp only [setD, List.set_cons_succ, List.set_cons_zero])
      | (refine gw_cmp hq rfl _ _ _ _ _ rfl _ _ _ rfl rfl false (by simp only [cmpB, Option.some.injEq, decide_eq_false_iff_not, ne_eq]; omega) ?_; simp only [setD, List.set_cons_succ, List.set_cons_zero])
      | (refine gw_skip rfl ?_; simp only [setD, List.set_cons_succ, List.set_cons_zero])
      | (refine gw_call rfl (by rfl) 47 _ _ rfl #[.slice D1 n1 c1, .slice D n c] rfl (.bool true) (fun γ w => by go_simp) (fun w' hC => (by
            have hE := Equal_any w' n1 c1 n c D1 D xv r.v (bytes_up hb1 hC.grow) (bytes_up hb hC.grow)
            rw [unhide hE1] at hE
            exact hE.mono fun e w'' ⟨h1, h2⟩ => ⟨h1, h2 ▸ hC, h2 ▸ Grow.refl _ _⟩)) ?_; simp only [setD, List.set_cons_succ, List.set_cons_zero])
      | (refine gw_pure_ex hq rfl (fun K hK => ?_); go_simp; refine hK _ ?_; clear hK K; simp only [setD, List.set_cons_succ, List.set_cons_zero]))
    intro γ2 w6 hC6 hk6
    simp only [slAct, slVals, Slot.get]
    go_wp2
    go_ret2
    rw [unhide hx]
    exact ⟨rfl, unhide hsame _ hC6.grow⟩
end Go.Proofs.Ytechglhkcjgodaa
