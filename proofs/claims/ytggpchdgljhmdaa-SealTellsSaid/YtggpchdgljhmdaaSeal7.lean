/- The laws of the rings, walked (3). -/
import Derived.Test.YtggpchdgljhmdaaSeal6
namespace Go.Proofs.Ytggpchdgljhmdaa
open Go.RowKit
set_option linter.unusedSimpArgs false

theorem RingAt.grow {w w' : World} {p : Value} {T : TypeId} {ks : List (List (BitVec 8))} (h : RingAt w p T ks) (hg : Grow w noOwn w') : RingAt w' p T ks := by
  obtain ⟨g, A, c, hp, hr⟩ := h
  exact ⟨g, A, c, hp, hr.grow hg⟩

set_option maxRecDepth 100000 in
set_option maxHeartbeats 2000000 in
theorem SealTells_any (w : World) (m i : Int) (n c : Nat) (B : Option Addr) (seed tag l : List (BitVec 8)) (hs : seed.length = 32) (ht : tag.length = 32) (hb : Bytes w w.heap.size B n l) :
    Calls Try.prog 7 #[.int .i64 m, .agg (hv seed), .int .i64 i, .slice B n c, .agg (hv tag)] w fun e w' => e = .returned (.bool true) ∧ Grow w noOwn w' := by
  have hM := Mem.nil w noOwn
  by_cases hn : n ≤ 2000
  · have tok1 : True := trivial
    go_enter Try.func7, Try.ntmps7
    go_wp2_with (first
      | (have _t := tok1; refine wpList_box_mem hM rfl 25 _ rfl (.agg (hv seed)) rfl (hv seed) rfl ?_; clear tok1 hM; intro g6 w6 hM)
      | (refine wpList_box_mem hM rfl 25 _ rfl (.agg (hv tag)) rfl (hv tag) rfl ?_; clear hM; intro g9 w9 hM))
    have hq : Quiet (fun w' => Grow w9 noOwn w') (fun w1 w2 => Grow w1 noOwn w2) (fun _ _ => True) := ⟨fun w _ => Grow.refl w _, fun _ _ => trivial⟩
    have hb9 := gro_up hM.grow hb
    have hblk6 : ∀ w', Grow w9 noOwn w' → Blk w' g6 25 (hv seed) := fun w' hg => hg.blk (hM.blk 1 rfl) (fun e => e)
    have hblk9 : ∀ w', Grow w9 noOwn w' → Blk w' g9 25 (hv tag) := fun w' hg => hg.blk (hM.blk 0 rfl) (fun e => e)
    refine wp_region_ghost (C := fun w' => Grow w9 noOwn w') (D := fun _ => True) (R := fun w1 w2 => Grow w1 noOwn w2) (R' := fun _ _ => True) [] [2, 5, 6, 7] [6, 7] (by kernel_rfl) (by kernel_rfl) (by kernel_rfl) (by kernel_rfl) ((Grow.refl w9 noOwn).drew) trivial (fun _ _ _ _ _ h => h) hq.1 hq.2 ?_
    simp only [initS, List.map_cons, List.map_nil]
    repeat (first
      | (refine gw_move hq rfl _ (.inl rfl) _ rfl ?_; simp only [setD, List.set_cons_succ, List.set_cons_zero])
      | (refine gw_moveP hq rfl (by rfl) 18 (.inr rfl) (fun v w' => RingAt w' v 65 (keysOf seed (cnt m))) rfl (fun v w1 w2 _ _ hg h => h.grow hg) ?_; simp only [setD, List.set_cons_succ, List.set_cons_zero])
      | (refine gw_moveP hq rfl (by rfl) 21 (.inr rfl) (fun v w' => RingAt w' v 42 (keysOf seed (cnt m))) rfl (fun v w1 w2 _ _ hg h => h.grow hg) ?_; simp only [setD, List.set_cons_succ, List.set_cons_zero])
      | (refine gw_load_blk hq rfl 25 _ rfl g6 25 (hv seed) rfl hblk6 _ Try.underlying25 rfl (size32 _ hs) ?_; simp only [setD, List.set_cons_succ, List.set_cons_zero])
      | (refine gw_callP rfl (by rfl) (by rfl) 25 _ _ rfl #[.int .i64 m, .agg (hv seed)] rfl (fun v w' => RingAt w' v 65 (keysOf seed (cnt m))) (fun v w1 w2 _ _ hg h => h.grow hg) (fun γ w => by go_simp) (fun w' hC => (New_any w' m seed hs).mono fun e w'' ⟨⟨p, he, hr⟩, hg⟩ => ⟨p, he, hC.then_ hg, hg, hr⟩) ?_; simp only [setD, List.set_cons_succ, List.set_cons_zero])
      | (refine gw_callP rfl (by rfl) (by rfl) 26 _ _ rfl #[.int .i64 m, .agg (hv seed)] rfl (fun v w' => RingAt w' v 42 (keysOf seed (cnt m))) (fun v w1 w2 _ _ hg h => h.grow hg) (fun γ w => by go_simp) (fun w' hC => (RNew_any w' m seed hs).mono fun e w'' ⟨⟨p, he, hr⟩, hg⟩ => ⟨p, he, hC.then_ hg, hg, hr⟩) ?_; simp only [setD, List.set_cons_succ, List.set_cons_zero]))
    intro γ w1 hC1 hk
    obtain ⟨g, A, d, e1, hr⟩ := hk 6 11 _ rfl rfl rfl
    obtain ⟨g2, A2, d2, e2, hr2⟩ := hk 7 12 _ rfl rfl rfl
    clear hk hq
    simp only [slAct, slVals, Slot.get, Nat.reduceAdd, e1, e2]
    have hb1 := gro_up hC1 hb9
    have hblk1 := hblk9 w1 hC1
    have hg1 := hM.grow.then_ hC1
    clear hblk6 hblk9 hC1 hM hb9
    obtain ⟨ks, hks⟩ : ∃ ks, ks = keysOf seed (cnt m) := ⟨_, rfl⟩
    rw [← hks] at hr hr2
    clear hks e1 e2
    go_wp2_with fail
    have hq : Quiet (fun w' => Grow w1 noOwn w') (fun w1 w2 => Grow w1 noOwn w2) (fun _ _ => True) := ⟨fun w _ => Grow.refl w _, fun _ _ => trivial⟩
    have hblk : ∀ w', Grow w1 noOwn w' → Blk w' g9 25 (hv tag) := fun w' hg => hg.blk hblk1 (fun e => e)
    have hsl := sealOf_length ks i l
    have hsl2 := hide (sealOf_length ks i l)
    refine wp_region_ghost (C := fun w' => Grow w1 noOwn w') (D := fun _ => True) (R := fun w1 w2 => Grow w1 noOwn w2) (R' := fun _ _ => True) [] [] [] (by kernel_rfl) (by kernel_rfl) (by kernel_rfl) (by kernel_rfl) ((Grow.refl w1 noOwn).drew) trivial (fun _ _ _ _ _ h => h) hq.1 hq.2 ?_
    simp only [initS, List.map_cons, List.map_nil]
    have hcase : (i < 0 ∧ checkOf ks i l (sealOf ks i l) = false) ∨ (0 ≤ i ∧ i < ks.length ∧ checkOf ks i l (sealOf ks i l) = true) ∨ (0 ≤ i ∧ (ks.length : Int) ≤ i ∧ checkOf ks i l (sealOf ks i l) = false) := by
      by_cases h1 : 0 ≤ i
      · by_cases h2 : i < ks.length
        · exact .inr (.inl ⟨h1, h2, checkOf_own ks i l ⟨h1, h2⟩⟩)
        · exact .inr (.inr ⟨h1, by omega, checkOf_out ks i l _ (by omega)⟩)
      · exact .inl ⟨by omega, checkOf_out ks i l _ (by omega)⟩
    rcases hcase with ⟨i1, hch⟩ | ⟨i1, i2, hch⟩ | ⟨i1, i2, hch⟩
    all_goals
      have hch := hide hch
    all_goals
      repeat (first
        | (refine gw_move hq rfl _ (.inl rfl) _ rfl ?_; simp only [setD, List.set_cons_succ, List.set_cons_zero])
        | (refine gw_skip rfl ?_; simp only [setD, List.set_cons_succ, List.set_cons_zero])
        | (refine gw_cmp hq rfl _ _ _ _ _ rfl _ _ _ rfl rfl true (by simp only [cmpB, Option.some.injEq, decide_eq_true_eq, ne_eq]; omega) ?_; simp only [setD, List.set_cons_succ, List.set_cons_zero])
        | (refine gw_cmp hq rfl _ _ _ _ _ rfl _ _ _ rfl rfl false (by simp only [cmpB, Option.some.injEq, decide_eq_false_iff_not, ne_eq]; omega) ?_; simp only [setD, List.set_cons_succ, List.set_cons_zero])
        | (refine gw_pick hq rfl _ _ _ rfl _ _ _ rfl rfl rfl ?_; simp only [setD, List.set_cons_succ, List.set_cons_zero, cond_true, cond_false])
        | (refine gw_load_blk hq rfl 25 _ rfl g9 25 (hv tag) rfl hblk _ Try.underlying25 rfl (size32 _ ht) ?_; simp only [setD, List.set_cons_succ, List.set_cons_zero])
        | (refine gw_load1 hq rfl 40 _ rfl ⟨g2, 0, none⟩ rfl _ Try.underlying40 rfl (.slice A2 ks.length d2) (fun w' hC => (hr2.grow hC).blk.cell 0) ?_; simp only [setD, List.set_cons_succ, List.set_cons_zero])
        | (refine gw_call rfl (by rfl) 27 _ _ rfl #[.pointer (some ⟨g, 0, none⟩)] rfl (.int .i64 ks.length) (fun γ w => by go_simp) (fun w' hC => (Nodes_any w' g d A ks (hr.grow hC)).mono fun e w'' ⟨he, hw⟩ => ⟨he, by rw [← hw]; exact hC, by rw [← hw]; exact Grow.refl _ _⟩) ?_; simp only [setD, List.set_cons_succ, List.set_cons_zero])
        | (refine gw_call rfl (by rfl) 28 _ _ rfl #[.pointer (some ⟨g, 0, none⟩), .int .i64 i, .slice B n c] rfl (.agg (hv (sealOf ks i l))) (fun γ w => by go_simp) (fun w' hC => (Seal_any w' g d n c A B ks i l (hr.grow hC) (gro_up hC hb1) (by omega)).mono fun e w'' he => ⟨he.1, hC.then_ he.2, he.2⟩) ?_; simp only [setD, List.set_cons_succ, List.set_cons_zero])
        | (refine gw_call rfl (by rfl) 29 _ _ rfl #[.pointer (some ⟨g2, 0, none⟩), .int .i64 i, .slice B n c] rfl (.agg (hv (sealOf ks i l))) (fun γ w => by go_simp) (fun w' hC => (RSeal_any w' g2 d2 n c A2 B ks i l (hr2.grow hC) (gro_up hC hb1) (by omega)).mono fun e w'' he => ⟨he.1, hC.then_ he.2, he.2⟩) ?_; simp only [setD, List.set_cons_succ, List.set_cons_zero])
        | (refine gw_call rfl (by rfl) 30 _ _ rfl #[.pointer (some ⟨g, 0, none⟩), .int .i64 i, .slice B n c, .agg (hv tag)] rfl (.bool (checkOf ks i l tag)) (fun γ w => by go_simp) (fun w' hC => (Check_any w' g d n c A B ks i l tag (hr.grow hC) (gro_up hC hb1) (by omega) ht).mono fun e w'' he => ⟨he.1, hC.then_ he.2, he.2⟩) ?_; simp only [setD, List.set_cons_succ, List.set_cons_zero])
        | (refine gw_call rfl (by rfl) 31 _ _ rfl #[.pointer (some ⟨g2, 0, none⟩), .int .i64 i, .slice B n c, .agg (hv tag)] rfl (.bool (checkOf ks i l tag)) (fun γ w => by go_simp) (fun w' hC => (RCheck_any w' g2 d2 n c A2 B ks i l tag (hr2.grow hC) (gro_up hC hb1) (by omega) ht).mono fun e w'' he => ⟨he.1, hC.then_ he.2, he.2⟩) ?_; simp only [setD, List.set_cons_succ, List.set_cons_zero])
        | (refine gw_call rfl (by rfl) 30 _ _ rfl #[.pointer (some ⟨g, 0, none⟩), .int .i64 i, .slice B n c, .agg (hv (sealOf ks i l))] rfl (.bool true) (fun γ w => by go_simp) (fun w' hC => (Check_any w' g d n c A B ks i l _ (hr.grow hC) (gro_up hC hb1) (by omega) (unhide hsl2)).mono fun e w'' he => ⟨he.1.trans (congrArg (fun b => Ending.returned (.bool b)) (unhide hch)), hC.then_ he.2, he.2⟩) ?_; simp only [setD, List.set_cons_succ, List.set_cons_zero])
        | (refine gw_call rfl (by rfl) 30 _ _ rfl #[.pointer (some ⟨g, 0, none⟩), .int .i64 i, .slice B n c, .agg (hv (sealOf ks i l))] rfl (.bool false) (fun γ w => by go_simp) (fun w' hC => (Check_any w' g d n c A B ks i l _ (hr.grow hC) (gro_up hC hb1) (by omega) (unhide hsl2)).mono fun e w'' he => ⟨he.1.trans (congrArg (fun b => Ending.returned (.bool b)) (unhide hch)), hC.then_ he.2, he.2⟩) ?_; simp only [setD, List.set_cons_succ, List.set_cons_zero])
        | (refine gw_call rfl (by rfl) 32 _ _ rfl #[] rfl (.bool true) (fun γ w => by go_simp) (fun w' hC => (known4_any w').mono fun e w'' he => ⟨he.1, hC.then_ he.2, he.2⟩) ?_; simp only [setD, List.set_cons_succ, List.set_cons_zero])
        | (refine gw_pure_ex hq rfl (fun K hK => ?_); go_simp; refine hK _ ?_; clear hK K; simp only [setD, List.set_cons_succ, List.set_cons_zero]))
      intro γ w4 hC4 _
      simp only [slAct, slVals, Slot.get]
      go_wp2_with fail
      go_ret
      exact ⟨rfl, hg1.then_ hC4⟩
  · go_enter Try.func7, Try.ntmps7
    go_wp2_with (first
      | (refine wpList_box_mem hM rfl 25 _ rfl (.agg (hv seed)) rfl (hv seed) rfl ?_; clear hM; intro g6 w6 hM)
      | (refine wpList_box_mem hM rfl 25 _ rfl (.agg (hv tag)) rfl (hv tag) rfl ?_; clear hM; intro g9 w9 hM))
    go_ret
    exact ⟨rfl, hM.grow⟩
end Go.Proofs.Ytggpchdgljhmdaa
