/- Checks; the example that every law runs. -/
import Derived.Test.YtkcmnhmbpamehaaSeal3
import Derived.Test.YtkcmnhmbpamehaaHashEq
namespace Go.Proofs.Ytkcmnhmbpamehaa
set_option linter.unusedSimpArgs false
open Go.RowKit

theorem gro_up {w w' : World} {m : Nat} {B : Option Addr} {q : List (BitVec 8)} (hg : Grow w noOwn w') (hb : Bytes w w.heap.size B m q) : Bytes w' w'.heap.size B m q := (hb.grow hg (Nat.le_refl _) (fun _ _ e => e)).more hg.size

set_option maxRecDepth 100000 in
set_option maxHeartbeats 400000 in
theorem Check_any (w : World) (g c n d : Nat) (A B : Option Addr) (ks : List (List (BitVec 8))) (i : Int) (l tag : List (BitVec 8)) (h : RingIs w g A c 56 ks) (hb : Bytes w w.heap.size B n l) (hn : n ≤ 140737488340000) (ht : tag.length = 32) :
    Calls Try.prog 70 #[.pointer (some ⟨g, 0, none⟩), .int .i64 i, .slice B n d, .agg (hv tag)] w fun e w' => e = .returned (.bool (checkOf ks i l tag)) ∧ Grow w noOwn w' := by
  have hM := Mem.nil w noOwn
  have hs32 := sealOf_length ks i l
  obtain ⟨b1, hb1⟩ : ∃ b : Bool, b = decide (0 ≤ i) := ⟨_, rfl⟩
  obtain ⟨b2, hb2⟩ : ∃ b : Bool, b = decide (i < (ks.length : Int)) := ⟨_, rfl⟩
  have hres : checkOf ks i l tag = (bif b1 then (bif b2 then sealOf ks i l == tag else false) else false) := by
    unfold checkOf
    subst hb1; subst hb2
    by_cases h1 : 0 ≤ i <;> by_cases h2 : i < (ks.length : Int) <;> simp [h1, h2]
  rw [hres]
  go_enter Try.func70, Try.ntmps70
  go_wp2_with (refine wpList_box_mem hM rfl 26 _ rfl (.agg (hv tag)) rfl (hv tag) rfl ?_; clear hM; intro g7 w7 hM)
  have h7 := h.grow hM.grow
  have hb7 := gro_up hM.grow hb
  have hblk : ∀ w', Grow w7 noOwn w' → Blk w' g7 26 (hv tag) := fun w' hg => hg.blk (hM.blk 0 rfl) (fun e => e)
  have hq : Quiet (fun w' => Grow w7 noOwn w') (fun w1 w2 => Grow w1 noOwn w2) (fun _ _ => True) := ⟨fun w _ => Grow.refl w _, fun _ _ => trivial⟩
  refine wp_region_ghost (C := fun w' => Grow w7 noOwn w') (D := fun _ => True) (R := fun w1 w2 => Grow w1 noOwn w2) (R' := fun _ _ => True) [] [] [] (by kernel_rfl) (by kernel_rfl) (by kernel_rfl) (by kernel_rfl) ((Grow.refl w7 noOwn).drew) trivial (fun _ _ _ _ _ h => h) hq.1 hq.2 ?_
  simp only [initS, List.map_cons, List.map_nil]
  cases b1 <;> cases b2
  all_goals
    have e1 := hb1.symm
    have e2 := hb2.symm
    simp only [decide_eq_true_eq, decide_eq_false_iff_not, Int.not_le, Int.not_lt] at e1 e2
    clear hb1 hb2 hres
    try (exfalso; omega)
  all_goals
    repeat (first
      | (refine gw_move hq rfl _ (.inl rfl) _ rfl ?_; simp only [setD, List.set_cons_succ, List.set_cons_zero])
      | (refine gw_skip rfl ?_; simp only [setD, List.set_cons_succ, List.set_cons_zero])
      | (refine gw_cmp hq rfl _ _ _ _ _ rfl _ _ _ rfl rfl true (by simp only [cmpB, Option.some.injEq, decide_eq_true_eq, ne_eq]; omega) ?_; simp only [setD, List.set_cons_succ, List.set_cons_zero])
      | (refine gw_cmp hq rfl _ _ _ _ _ rfl _ _ _ rfl rfl false (by simp only [cmpB, Option.some.injEq, decide_eq_false_iff_not, ne_eq]; omega) ?_; simp only [setD, List.set_cons_succ, List.set_cons_zero])
      | (refine gw_load_blk hq rfl 26 _ rfl g7 26 (hv tag) rfl hblk _ Try.underlying26 rfl (size32 _ ht) ?_; simp only [setD, List.set_cons_succ, List.set_cons_zero])
      | (refine gw_pick hq rfl _ _ _ rfl _ _ _ rfl rfl rfl ?_; simp only [setD, List.set_cons_succ, List.set_cons_zero, cond_true, cond_false])
      | (refine gw_call rfl (by rfl) 46 _ _ rfl #[.pointer (some ⟨g, 0, none⟩)] rfl (.int .i64 ks.length) (fun γ w => by go_simp) (fun w' hC => (Nodes_any w' g c A ks (h7.grow hC)).mono fun e w'' ⟨he, hw⟩ => ⟨he, by rw [← hw]; exact hC, by rw [← hw]; exact Grow.refl _ _⟩) ?_; simp only [setD, List.set_cons_succ, List.set_cons_zero])
      | (refine gw_call rfl (by rfl) 83 _ _ rfl #[.pointer (some ⟨g, 0, none⟩), .int .i64 i, .slice B n d] rfl (.agg (hv (sealOf ks i l))) (fun γ w => by go_simp) (fun w' hC => (Seal_any w' g c n d A B ks i l (h7.grow hC) (gro_up hC hb7) hn).mono fun e w'' he => ⟨he.1, hC.then_ he.2, he.2⟩) ?_; simp only [setD, List.set_cons_succ, List.set_cons_zero])
      | (refine gw_pure_ex hq rfl (fun K hK => ?_); go_simp; refine hK _ ?_; clear hK K; simp only [setD, List.set_cons_succ, List.set_cons_zero]))
    intro γ w4 hC4 _
    simp only [slAct, slVals, Slot.get]
    go_wp2_with fail
    go_ret
    exact ⟨rfl, hM.grow.then_ hC4⟩
set_option maxRecDepth 100000 in
set_option maxHeartbeats 400000 in
theorem RCheck_any (w : World) (g c n d : Nat) (A B : Option Addr) (ks : List (List (BitVec 8))) (i : Int) (l tag : List (BitVec 8)) (h : RingIs w g A c 58 ks) (hb : Bytes w w.heap.size B n l) (hn : n ≤ 140737488340000) (ht : tag.length = 32) :
    Calls Try.prog 69 #[.pointer (some ⟨g, 0, none⟩), .int .i64 i, .slice B n d, .agg (hv tag)] w fun e w' => e = .returned (.bool (checkOf ks i l tag)) ∧ Grow w noOwn w' := by
  have hM := Mem.nil w noOwn
  have hs32 := sealOf_length ks i l
  obtain ⟨b1, hb1⟩ : ∃ b : Bool, b = decide (0 ≤ i) := ⟨_, rfl⟩
  obtain ⟨b2, hb2⟩ : ∃ b : Bool, b = decide (i < (ks.length : Int)) := ⟨_, rfl⟩
  have hres : checkOf ks i l tag = (bif b1 then (bif b2 then sealOf ks i l == tag else false) else false) := by
    unfold checkOf
    subst hb1; subst hb2
    by_cases h1 : 0 ≤ i <;> by_cases h2 : i < (ks.length : Int) <;> simp [h1, h2]
  rw [hres]
  go_enter Try.func69, Try.ntmps69
  go_wp2_with (refine wpList_box_mem hM rfl 26 _ rfl (.agg (hv tag)) rfl (hv tag) rfl ?_; clear hM; intro g7 w7 hM)
  have h7 := h.grow hM.grow
  have hb7 := gro_up hM.grow hb
  have hblk : ∀ w', Grow w7 noOwn w' → Blk w' g7 26 (hv tag) := fun w' hg => hg.blk (hM.blk 0 rfl) (fun e => e)
  have hq : Quiet (fun w' => Grow w7 noOwn w') (fun w1 w2 => Grow w1 noOwn w2) (fun _ _ => True) := ⟨fun w _ => Grow.refl w _, fun _ _ => trivial⟩
  refine wp_region_ghost (C := fun w' => Grow w7 noOwn w') (D := fun _ => True) (R := fun w1 w2 => Grow w1 noOwn w2) (R' := fun _ _ => True) [] [] [] (by kernel_rfl) (by kernel_rfl) (by kernel_rfl) (by kernel_rfl) ((Grow.refl w7 noOwn).drew) trivial (fun _ _ _ _ _ h => h) hq.1 hq.2 ?_
  simp only [initS, List.map_cons, List.map_nil]
  cases b1 <;> cases b2
  all_goals
    have e1 := hb1.symm
    have e2 := hb2.symm
    simp only [decide_eq_true_eq, decide_eq_false_iff_not, Int.not_le, Int.not_lt] at e1 e2
    clear hb1 hb2 hres
    try (exfalso; omega)
  all_goals
    repeat (first
      | (refine gw_move hq rfl _ (.inl rfl) _ rfl ?_; simp only [setD, List.set_cons_succ, List.set_cons_zero])
      | (refine gw_skip rfl ?_; simp only [setD, List.set_cons_succ, List.set_cons_zero])
      | (refine gw_cmp hq rfl _ _ _ _ _ rfl _ _ _ rfl rfl true (by simp only [cmpB, Option.some.injEq, decide_eq_true_eq, ne_eq]; omega) ?_; simp only [setD, List.set_cons_succ, List.set_cons_zero])
      | (refine gw_cmp hq rfl _ _ _ _ _ rfl _ _ _ rfl rfl false (by simp only [cmpB, Option.some.injEq, decide_eq_false_iff_not, ne_eq]; omega) ?_; simp only [setD, List.set_cons_succ, List.set_cons_zero])
      | (refine gw_load_blk hq rfl 26 _ rfl g7 26 (hv tag) rfl hblk _ Try.underlying26 rfl (size32 _ ht) ?_; simp only [setD, List.set_cons_succ, List.set_cons_zero])
      | (refine gw_load1 hq rfl 54 _ rfl ⟨g, 0, none⟩ rfl _ Try.underlying54 rfl (.slice A ks.length c) (fun w' hC => (h7.grow hC).blk.cell 0) ?_; simp only [setD, List.set_cons_succ, List.set_cons_zero])
      | (refine gw_pick hq rfl _ _ _ rfl _ _ _ rfl rfl rfl ?_; simp only [setD, List.set_cons_succ, List.set_cons_zero, cond_true, cond_false])
      | (refine gw_call rfl (by rfl) 27 _ _ rfl #[.pointer (some ⟨g, 0, none⟩), .int .i64 i, .slice B n d] rfl (.agg (hv (sealOf ks i l))) (fun γ w => by go_simp) (fun w' hC => (RSeal_any w' g c n d A B ks i l (h7.grow hC) (gro_up hC hb7) hn).mono fun e w'' he => ⟨he.1, hC.then_ he.2, he.2⟩) ?_; simp only [setD, List.set_cons_succ, List.set_cons_zero])
      | (refine gw_pure_ex hq rfl (fun K hK => ?_); go_simp; refine hK _ ?_; clear hK K; simp only [setD, List.set_cons_succ, List.set_cons_zero]))
    intro γ w4 hC4 _
    simp only [slAct, slVals, Slot.get]
    go_wp2_with fail
    go_ret
    exact ⟨rfl, hM.grow.then_ hC4⟩
end Go.Proofs.Ytkcmnhmbpamehaa
