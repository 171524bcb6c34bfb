/- The laws of the rings, walked (2). -/
import Derived.Test.YtggpchdgljhmdaaSeal5
namespace Go.Proofs.Ytggpchdgljhmdaa
open Go.RowKit
set_option linter.unusedSimpArgs false

@[go_sem] theorem zeros_lit : (Value.agg #[.int .u8 0, .int .u8 0, .int .u8 0, .int .u8 0, .int .u8 0, .int .u8 0, .int .u8 0, .int .u8 0, .int .u8 0, .int .u8 0, .int .u8 0, .int .u8 0, .int .u8 0, .int .u8 0, .int .u8 0, .int .u8 0, .int .u8 0, .int .u8 0, .int .u8 0, .int .u8 0, .int .u8 0, .int .u8 0, .int .u8 0, .int .u8 0, .int .u8 0, .int .u8 0, .int .u8 0, .int .u8 0, .int .u8 0, .int .u8 0, .int .u8 0, .int .u8 0]) = .agg (hv zeros32) := rfl
theorem checkOf_out (ks : List (List (BitVec 8))) (i : Int) (l t : List (BitVec 8)) (h : ¬ (0 ≤ i ∧ i < ks.length)) : checkOf ks i l t = false := by
  unfold checkOf; simp only [h, decide_false, Bool.false_and]
set_option maxRecDepth 100000 in
theorem SealOfNothing_any (w : World) (i : Int) (n c : Nat) (A : Option Addr) (tag : List (BitVec 8)) (ht : tag.length = 32) :
    Calls Try.prog 10 #[.int .i64 i, .slice A n c, .agg (hv tag)] w fun e w' => e = .returned (.bool true) ∧ Grow w noOwn w' := by
  have hM := Mem.nil w noOwn
  have hz : zeros32.length = 32 := rfl
  by_cases hn : n ≤ 500
  · go_enter Try.func10, Try.ntmps10
    go_wp2_with (first
      | (refine wpList_box_mem hM rfl 25 _ rfl (.agg (hv tag)) rfl (hv tag) rfl ?_; clear hM; intro g7 w7 hM)
      | (go_at_call 27; refine (Nodes_nil _).mono ?_; rintro e w2 ⟨rfl, rfl⟩)
      | (go_at_call 28; refine (Seal_nil _ n c A i).mono ?_; rintro e w3 ⟨rfl, hg⟩; replace hM := hM.call hg; clear hg)
      | (refine wpList_build_to rfl 25 #[] rfl (hv zeros32) (by kernel_rfl) ?_)
      | (refine wpList_load_mem rfl 25 _ rfl hM 0 _ _ _ rfl rfl (.array 32 5) (by kernel_rfl) rfl (size32 _ ht) ?_)
      | (go_at_call 30; refine (Check_nil _ n c A _ _).mono ?_; rintro e w4 ⟨rfl, hg⟩; replace hM := hM.call hg; clear hg)
      | (go_at_call 32; refine (known4_any _).mono ?_; rintro e w5 ⟨rfl, hg⟩; replace hM := hM.call hg; clear hg))
    go_ret
    exact ⟨rfl, hM.grow⟩
  · go_enter Try.func10, Try.ntmps10
    go_wp2_with (first
      | (refine wpList_box_mem hM rfl 25 _ rfl (.agg (hv tag)) rfl (hv tag) rfl ?_; clear hM; intro g7 w7 hM))
    go_ret
    exact ⟨rfl, hM.grow⟩

set_option maxRecDepth 100000 in
theorem SealBounds_any (w : World) (n i : Int) :
    Calls Try.prog 13 #[.int .i64 n, .int .i64 i] w fun e w' => e = .returned (.bool true) ∧ Grow w noOwn w' := by
  have hM := Mem.nil w noOwn
  have hz : zeros32.length = 32 := rfl
  have hc := hide (cnt_int n)
  have hkl := hide (keysOf_length (seed1 7#8) (cnt n))
  by_cases hi : 0 ≤ i ∧ i < min (max n 1) 10
  · obtain ⟨hi0, hi1⟩ := hi
    go_enter Try.func13, Try.ntmps13
    go_wp2_with (first
      | (refine wpList_build_to rfl 25 #[(0, .const (.int .u8 7))] rfl (hv (seed1 7#8)) (by kernel_rfl) ?_)
      | (go_at_call 25; refine (New_any _ n (seed1 7#8) rfl).mono ?_; rintro e w1 ⟨⟨p, rfl, g, A, c, rfl, hr⟩, hg⟩; replace hM := hM.call hg; clear hg)
      | (go_at_call 27; refine (Nodes_any _ g c A _ hr).mono ?_; rintro e w2 ⟨rfl, rfl⟩; rw [unhide hkl, unhide hc])
      | (go_at_call 28; refine (Seal_any _ g c 0 0 A none _ i [] hr (bytes_none _) (by omega)).mono ?_; rintro e w3 ⟨rfl, hg⟩; replace hr := hr.grow hg; replace hM := hM.call hg; clear hg)
      | (go_at_call 30; refine (Check_any _ g c 0 0 A none _ i [] _ hr (bytes_none _) (by omega) (sealOf_length _ _ _)).mono ?_; rintro e w4 ⟨rfl, hg⟩; replace hM := hM.call hg; clear hg; rw [checkOf_own (keysOf (seed1 7#8) (cnt n)) i [] (by rw [unhide hkl, unhide hc]; omega)])
      | (go_at_call 32; refine (known4_any _).mono ?_; rintro e w5 ⟨rfl, hg⟩; replace hM := hM.call hg; clear hg))
    go_ret
    exact ⟨rfl, hM.grow⟩
  · have hi' : i < 0 ∨ (0 ≤ i ∧ min (max n 1) 10 ≤ i) := by omega
    have Hi := hide hi
    clear hi
    rcases hi' with hi' | ⟨hi1, hi'⟩
    all_goals
      go_enter Try.func13, Try.ntmps13
      go_wp2_with (first
        | (go_at_call 25; refine (New_any _ n (seed1 7#8) rfl).mono ?_; rintro e w1 ⟨⟨p, rfl, g, A, c, rfl, hr⟩, hg⟩; replace hM := hM.call hg; clear hg)
        | (refine wpList_build_to rfl 25 #[(0, .const (.int .u8 7))] rfl (hv (seed1 7#8)) (by kernel_rfl) ?_)
        | (refine wpList_build_to rfl 25 #[] rfl (hv zeros32) (by kernel_rfl) ?_)
        | (go_at_call 27; refine (Nodes_any _ g c A _ hr).mono ?_; rintro e w2 ⟨rfl, rfl⟩; rw [unhide hkl, unhide hc])
        | (go_at_call 28; refine (Seal_any _ g c 0 0 A none _ i [] hr (bytes_none _) (by omega)).mono ?_; rintro e w3 ⟨rfl, hg⟩; replace hr := hr.grow hg; replace hM := hM.call hg; clear hg; rw [sealOf_out (keysOf (seed1 7#8) (cnt n)) i [] (by rw [unhide hkl, unhide hc]; exact unhide Hi)])
        | (go_at_call 30; refine (Check_any _ g c 0 0 A none _ i [] zeros32 hr (bytes_none _) (by omega) rfl).mono ?_; rintro e w4 ⟨rfl, hg⟩; replace hM := hM.call hg; clear hg; rw [checkOf_out (keysOf (seed1 7#8) (cnt n)) i [] zeros32 (by rw [unhide hkl, unhide hc]; exact unhide Hi)])
        | (go_at_call 32; refine (known4_any _).mono ?_; rintro e w5 ⟨rfl, hg⟩; replace hM := hM.call hg; clear hg))
      go_ret
      exact ⟨rfl, hM.grow⟩
end Go.Proofs.Ytggpchdgljhmdaa
