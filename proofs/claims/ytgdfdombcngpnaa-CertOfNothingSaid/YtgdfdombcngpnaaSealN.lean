/- The laws of the rings, walked. -/
import Derived.Test.YtgdfdombcngpnaaSeal4
namespace Go.Proofs.Ytgdfdombcngpnaa
open Go.RowKit
set_option linter.unusedSimpArgs false

theorem sealOf_nil (i : Int) (l : List (BitVec 8)) : sealOf [] i l = zeros32 := sealOf_out [] i l (by simp)
set_option maxRecDepth 100000 in
theorem Seal_nil (w : World) (n d : Nat) (B : Option Addr) (i : Int) :
    Calls Try.prog 43 #[.pointer none, .int .i64 i, .slice B n d] w fun e w' => e = .returned (.agg (hv zeros32)) ∧ Grow w noOwn w' := by
  have hM := Mem.nil w noOwn
  by_cases h0 : i < 0
  all_goals
    try have h1 : 0 ≤ i := by omega
    go_enter Try.func43, Try.ntmps43
    go_wp2_with (first
      | (refine wpList_alloc_mem hM rfl 30 rfl _ zero32 ?_; clear hM; intro g6 w6 hM)
      | (go_at_call 62; refine (Nodes_nil _).mono ?_; rintro e w7 ⟨rfl, rfl⟩)
      | (refine wpList_build_to rfl 30 _ rfl (hv zeros32) (by kernel_rfl) ?_)
      | (refine wpList_store_mem rfl 30 _ _ rfl hM 0 _ _ _ (hv zeros32) rfl rfl rfl (size32 _ rfl) rfl (oneCells8 _) ?_; clear hM; intro w9 hM _))
    exact bodyPost_row rfl rfl _ _ _ (hM.blk 0 rfl) rfl (.array 32 5) (by kernel_rfl) rfl (size32 _ rfl) ⟨rfl, hM.grow⟩

set_option maxRecDepth 100000 in
set_option maxHeartbeats 400000 in
theorem Check_nil (w : World) (n d : Nat) (B : Option Addr) (i : Int) (tag : List (BitVec 8)) :
    Calls Try.prog 57 #[.pointer none, .int .i64 i, .slice B n d, .agg (hv tag)] w fun e w' => e = .returned (.bool false) ∧ Grow w noOwn w' := by
  have hM := Mem.nil w noOwn
  go_enter Try.func57, Try.ntmps57
  go_wp2_with (refine wpList_box_mem hM rfl 30 _ rfl (.agg (hv tag)) rfl (hv tag) rfl ?_; clear hM; intro g7 w7 hM)
  have hq : Quiet (fun w' => Grow w7 noOwn w') (fun w1 w2 => Grow w1 noOwn w2) (fun _ _ => True) := ⟨fun w _ => Grow.refl w _, fun _ _ => trivial⟩
  refine wp_region_ghost (C := fun w' => Grow w7 noOwn w') (D := fun _ => True) (R := fun w1 w2 => Grow w1 noOwn w2) (R' := fun _ _ => True) [] [] [] (by kernel_rfl) (by kernel_rfl) (by kernel_rfl) (by kernel_rfl) ((Grow.refl w7 noOwn).drew) trivial (fun _ _ _ _ _ h => h) hq.1 hq.2 ?_
  simp only [initS, List.map_cons, List.map_nil]
  by_cases e1 : 0 ≤ i
  all_goals
    repeat (first
      | (refine gw_move hq rfl _ (.inl rfl) _ rfl ?_; simp only [setD, List.set_cons_succ, List.set_cons_zero])
      | (refine gw_skip rfl ?_; simp only [setD, List.set_cons_succ, List.set_cons_zero])
      | (refine gw_cmp hq rfl _ _ _ _ _ rfl _ _ _ rfl rfl true (by simp only [cmpB, Option.some.injEq, decide_eq_true_eq, ne_eq]; omega) ?_; simp only [setD, List.set_cons_succ, List.set_cons_zero])
      | (refine gw_cmp hq rfl _ _ _ _ _ rfl _ _ _ rfl rfl false (by simp only [cmpB, Option.some.injEq, decide_eq_false_iff_not, ne_eq]; omega) ?_; simp only [setD, List.set_cons_succ, List.set_cons_zero])
      | (refine gw_pick hq rfl _ _ _ rfl _ _ _ rfl rfl rfl ?_; simp only [setD, List.set_cons_succ, List.set_cons_zero, cond_true, cond_false])
      | (refine gw_call rfl (by rfl) 62 _ _ rfl #[.pointer none] rfl (.int .i64 0) (fun γ w => by go_simp) (fun w' hC => (Nodes_nil w').mono fun e w'' ⟨he, hw⟩ => ⟨he, by rw [← hw]; exact hC, by rw [← hw]; exact Grow.refl _ _⟩) ?_; simp only [setD, List.set_cons_succ, List.set_cons_zero])
      | (refine gw_pure_ex hq rfl (fun K hK => ?_); go_simp; refine hK _ ?_; clear hK K; simp only [setD, List.set_cons_succ, List.set_cons_zero]))
    intro γ w4 hC4 _
    simp only [slAct, slVals, Slot.get]
    go_wp2_with fail
    go_ret
    exact ⟨rfl, hM.grow.then_ hC4⟩
end Go.Proofs.Ytgdfdombcngpnaa
