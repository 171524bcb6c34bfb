/- The laws of the rings, walked. -/
import Derived.Test.YtggpchdgljhmdaaSeal4
namespace Go.Proofs.Ytggpchdgljhmdaa
open Go.RowKit
set_option linter.unusedSimpArgs false

theorem sealOf_nil (i : Int) (l : List (BitVec 8)) : sealOf [] i l = zeros32 := sealOf_out [] i l (by simp)
set_option maxRecDepth 100000 in
theorem Seal_nil (w : World) (n d : Nat) (B : Option Addr) (i : Int) :
    Calls Try.prog 28 #[.pointer none, .int .i64 i, .slice B n d] w fun e w' => e = .returned (.agg (hv zeros32)) ∧ Grow w noOwn w' := by
  have hM := Mem.nil w noOwn
  by_cases h0 : i < 0
  all_goals
    try have h1 : 0 ≤ i := by omega
    go_enter Try.func28, Try.ntmps28
    go_wp2_with (first
      | (refine wpList_alloc_mem hM rfl 25 rfl _ zero32 ?_; clear hM; intro g6 w6 hM)
      | (go_at_call 27; refine (Nodes_nil _).mono ?_; rintro e w7 ⟨rfl, rfl⟩)
      | (refine wpList_build_to rfl 25 _ rfl (hv zeros32) (by kernel_rfl) ?_)
      | (refine wpList_store_mem rfl 25 _ _ rfl hM 0 _ _ _ (hv zeros32) rfl rfl rfl (size32 _ rfl) rfl (oneCells8 _) ?_; clear hM; intro w9 hM _))
    exact bodyPost_row rfl rfl _ _ _ (hM.blk 0 rfl) rfl (.array 32 5) (by kernel_rfl) rfl (size32 _ rfl) ⟨rfl, hM.grow⟩

set_option maxRecDepth 100000 in
set_option maxHeartbeats 400000 in
theorem Check_nil (w : World) (n d : Nat) (B : Option Addr) (i : Int) (tag : List (BitVec 8)) :
    Calls Try.prog 30 #[.pointer none, .int .i64 i, .slice B n d, .agg (hv tag)] w fun e w' => e = .returned (.bool false) ∧ Grow w noOwn w' := by
  have hM := Mem.nil w noOwn
  go_enter Try.func30, Try.ntmps30
  go_wp2_with (refine wpList_box_mem hM rfl 25 _ rfl (.agg (hv tag)) rfl (hv tag) rfl ?_; clear hM; intro g7 w7 hM)
  have hq : Quiet (fun w' => Grow w7 noOwn w') (fun w1 w2 => Grow w1 noOwn w2) (fun _ _ => True) := ⟨fun w _ => Grow.refl w _, fun _ _ => trivial⟩
  refine wp_region_ghost (C := fun w' => Grow w7 noOwn w') (D := fun _ => True) (R := fun w1 w2 => Grow w1 noOwn w2) (R' := fun _ _ => True) [] [] [] (by kernel_rfl) (by kernel_rfl) (by kernel_rfl) (by kernel_rfl) ((Grow.refl w7 noOwn).drew) trivial (fun _ _ _ _ _ h => h) hq.1 hq.2 ?_
  simp only [initS, List.map_cons, List.map_nil]
  by_cases e1 : 0 ≤ i
  all_goals
    repeat (first
      | (refine gw_move hq rfl _ (.inl rfl) _ rfl ?_; simp only [setD, List.set_cons_succ, List.set_cons_zero])
      | (refine gw_skip rfl ?_; simp only [setD, List.set_cons_succ, List.set_cons_zero])
      | (refine gw_cmp hq rfl _ _ _ _ _ rfl _ _ _ rfl rfl true (by simp only [cmpB, Option.some.injEq, decide_eq_true_eq, ne_eq]; omega) ?_; simp only [setD, List.set_cons_succ, List.set_cons_zero])
      | (refine gw_cmp hq rfl _ _ _ _ _ rfl _ _ _ rfl rfl false (by simp only [cmpB, Option.some.injEq, decide_eq_false_iff_not, ne_eq]; omega) ?_; simp only [setD, List.set_cons_succ, List.set_cons_zero])
      | (refine gw_pick hq rfl _ _ _ rfl _ _ _ rfl rfl rfl ?_; simp only [setD, List.set_cons_succ, List.set_cons_zero, cond_true, cond_false])
      | (refine gw_call rfl (by rfl) 27 _ _ rfl #[.pointer none] rfl (.int .i64 0) (fun γ w => by go_simp) (fun w' hC => (Nodes_nil w').mono fun e w'' ⟨he, hw⟩ => ⟨he, by rw [← hw]; exact hC, by rw [← hw]; exact Grow.refl _ _⟩) ?_; simp only [setD, List.set_cons_succ, List.set_cons_zero])
      | (refine gw_pure_ex hq rfl (fun K hK => ?_); go_simp; refine hK _ ?_; clear hK K; simp only [setD, List.set_cons_succ, List.set_cons_zero]))
    intro γ w4 hC4 _
    simp only [slAct, slVals, Slot.get]
    go_wp2_with fail
    go_ret
    exact ⟨rfl, hM.grow.then_ hC4⟩

def seed1 (b : BitVec 8) : List (BitVec 8) := b :: List.replicate 31 0
theorem seed1_length (b : BitVec 8) : (seed1 b).length = 32 := rfl
theorem cnt4 : cnt 4 = 4 := by decide
theorem checkOf_own (ks : List (List (BitVec 8))) (i : Int) (l : List (BitVec 8)) (h : 0 ≤ i ∧ i < ks.length) : checkOf ks i l (sealOf ks i l) = true := by
  unfold checkOf; simp [h]
theorem bytes_none (w : World) : Bytes w w.heap.size none 0 [] := Reads.none_

set_option maxRecDepth 100000 in
theorem known4_any (w : World) : Calls Try.prog 32 #[] w fun e w' => e = .returned (.bool true) ∧ Grow w noOwn w' := by
  have hk := hide (keysOf_length (seed1 1#8) 4)
  have hq4 : quorumOf 4 = 3 := by unfold quorumOf faultsOf wrap64; omega
  have hf4 : faultsOf 4 = 1 := by unfold faultsOf; omega
  have HQ := hide hq4
  have HF := hide hf4
  clear hq4 hf4
  go_enter Try.func32, Try.ntmps32
  go_wp2_with (first
    | (refine wpList_build_to rfl 25 _ rfl (hv (seed1 1#8)) (by kernel_rfl) ?_)
    | (go_at_call 25; refine (New_any _ 4 (seed1 1#8) rfl).mono ?_; rintro e w1 ⟨⟨p, rfl, g, A, c, rfl, hr⟩, hg⟩; rw [cnt4] at hr)
    | (go_at_call 27; refine (Nodes_any _ g c A _ hr).mono ?_; rintro e w2 ⟨rfl, rfl⟩; rw [unhide hk])
    | (go_at_call 33; refine (Quorum_any _ 4 (by omega)).mono ?_; rintro e w2 ⟨rfl, rfl⟩; rw [unhide HQ])
    | (go_at_call 34; refine (Faults_any _ 4 (by omega)).mono ?_; rintro e w2 ⟨rfl, rfl⟩; rw [unhide HF])
    | (go_at_call 28; refine (Seal_any _ g c 0 0 A none _ 2 [] hr (bytes_none _) (by omega)).mono ?_; rintro e w3 ⟨rfl, hg3⟩; replace hr := hr.grow hg3)
    | (go_at_call 30; refine (Check_any _ g c 0 0 A none _ 2 [] _ hr (bytes_none _) (by omega) (sealOf_length _ _ _)).mono ?_; rintro e w4 ⟨rfl, hg4⟩; rw [checkOf_own (keysOf (seed1 1#8) 4) 2 [] (by rw [unhide hk]; omega)]))
  go_ret
  exact ⟨rfl, (hg.then_ hg3).then_ hg4⟩

theorem SealCounts_any (w : World) (n : Int) (hn : n ≤ 9223372036854775807) : Calls Try.prog 9 #[.int .i64 n] w fun e w' => e = .returned (.bool true) ∧ Grow w noOwn w' := by
  go_enter Try.func9, Try.ntmps9
  go_wp2_with (first
    | (go_at_call 34; refine (Faults_any _ n hn).mono ?_; rintro e w2 ⟨rfl, rfl⟩)
    | (go_at_call 35; refine (RFaults_any _ n hn).mono ?_; rintro e w2 ⟨rfl, rfl⟩)
    | (go_at_call 33; refine (Quorum_any _ n hn).mono ?_; rintro e w2 ⟨rfl, rfl⟩)
    | (go_at_call 36; refine (RQuorum_any _ n hn).mono ?_; rintro e w2 ⟨rfl, rfl⟩)
    | (go_at_call 32; refine (known4_any _).mono ?_; rintro e w4 ⟨rfl, hg⟩))
  go_ret
  exact ⟨rfl, hg⟩
theorem SealEnough_any (w : World) (f : Int) : Calls Try.prog 8 #[.int .i64 f] w fun e w' => e = .returned (.bool true) ∧ Grow w noOwn w' := by
  by_cases h : 0 ≤ f ∧ f ≤ 1000000
  · obtain ⟨h0, h1⟩ := h
    have hf : faultsOf (3 * f + 1) = f := by unfold faultsOf; rw [show max (3 * f + 1) 1 = 3 * f + 1 by omega]; omega
    have hq : quorumOf (3 * f + 1) = 2 * f + 1 := by unfold quorumOf; rw [hf]; unfold wrap64; omega
    have HQ := hide hq
    have HF := hide hf
    clear hq hf
    go_enter Try.func8, Try.ntmps8
    go_wp2_with (first
      | (go_at_call 33; refine (Quorum_any _ (3 * f + 1) (by omega)).mono ?_; rintro e w2 ⟨rfl, rfl⟩; rw [unhide HQ])
      | (go_at_call 34; refine (Faults_any _ (3 * f + 1) (by omega)).mono ?_; rintro e w2 ⟨rfl, rfl⟩; rw [unhide HF])
      | (go_at_call 32; refine (known4_any _).mono ?_; rintro e w4 ⟨rfl, hg⟩))
    all_goals (try (exfalso; omega))
    go_ret
    exact ⟨rfl, hg⟩
  · have h' : f < 0 ∨ 1000000 < f := by omega
    rcases h' with h' | h'
    all_goals
      go_enter Try.func8, Try.ntmps8
      go_wp2_with (go_at_call 32; refine (known4_any _).mono ?_; rintro e w4 ⟨rfl, hg⟩)
      try (exfalso; omega)
      go_ret
      exact ⟨rfl, hg⟩
end Go.Proofs.Ytggpchdgljhmdaa
