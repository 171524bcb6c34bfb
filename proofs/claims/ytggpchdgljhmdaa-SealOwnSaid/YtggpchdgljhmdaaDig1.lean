/- The small functions of package digest. -/
import Derived.Test.YtggpchdgljhmdaaProg
import Derived.Test.YtggpchdgljhmdaaSha
import Derived.Deep.QuietTactic
import Derived.BigQuiet
namespace Go.Proofs.Ytggpchdgljhmdaa
open Go.RowKit

theorem turn_any (x : BitVec 32) (n : Int) (w : World) (h0 : 0 ≤ n) (h1 : n ≤ 32) :
    Calls Try.prog 50 #[V32 x, .int .u64 n] w fun e w' => e = .returned (V32 (rotr x n.toNat)) ∧ w' = w := by
  have a1 : 32 - n ≤ 32 := by omega
  have a2 : (32 - n).toNat = 32 - n.toNat := by omega
  go_enter Try.func50, Try.ntmps50
  go_wp2
  go_ret
  exact ⟨by simp [rotr], rfl⟩
theorem s0_any (x : BitVec 32) (w : World) :
    Calls Try.prog 43 #[V32 x] w fun e w' => e = .returned (V32 (fs0 x)) ∧ w' = w := by
  go_enter Try.func43, Try.ntmps43
  go_wp2_with (go_at_call 50; refine (turn_any _ _ _ (by omega) (by omega)).mono ?_; rintro e w' ⟨rfl, rfl⟩)
  go_ret
  exact ⟨rfl, rfl⟩
theorem s1_any (x : BitVec 32) (w : World) :
    Calls Try.prog 44 #[V32 x] w fun e w' => e = .returned (V32 (fs1 x)) ∧ w' = w := by
  go_enter Try.func44, Try.ntmps44
  go_wp2_with (go_at_call 50; refine (turn_any _ _ _ (by omega) (by omega)).mono ?_; rintro e w' ⟨rfl, rfl⟩)
  go_ret
  exact ⟨rfl, rfl⟩
theorem b0_any (x : BitVec 32) (w : World) :
    Calls Try.prog 47 #[V32 x] w fun e w' => e = .returned (V32 (fb0 x)) ∧ w' = w := by
  go_enter Try.func47, Try.ntmps47
  go_wp2_with (go_at_call 50; refine (turn_any _ _ _ (by omega) (by omega)).mono ?_; rintro e w' ⟨rfl, rfl⟩)
  go_ret
  exact ⟨rfl, rfl⟩
theorem b1_any (x : BitVec 32) (w : World) :
    Calls Try.prog 45 #[V32 x] w fun e w' => e = .returned (V32 (fb1 x)) ∧ w' = w := by
  go_enter Try.func45, Try.ntmps45
  go_wp2_with (go_at_call 50; refine (turn_any _ _ _ (by omega) (by omega)).mono ?_; rintro e w' ⟨rfl, rfl⟩)
  go_ret
  exact ⟨rfl, rfl⟩
theorem choose_any (x y z : BitVec 32) (w : World) :
    Calls Try.prog 46 #[V32 x, V32 y, V32 z] w fun e w' => e = .returned (V32 (fch x y z)) ∧ w' = w := by
  go_enter Try.func46, Try.ntmps46
  go_wp2
  go_ret
  exact ⟨rfl, rfl⟩
theorem most_any (x y z : BitVec 32) (w : World) :
    Calls Try.prog 48 #[V32 x, V32 y, V32 z] w fun e w' => e = .returned (V32 (fmj x y z)) ∧ w' = w := by
  go_enter Try.func48, Try.ntmps48
  go_wp2
  go_ret
  exact ⟨rfl, rfl⟩
theorem r_any (x : BitVec 32) (n : Int) (w : World) (h0 : 0 ≤ n) (h1 : n ≤ 32) :
    Calls Try.prog 49 #[V32 x, .int .u64 n] w fun e w' => e = .returned (V32 (rotr x n.toNat)) ∧ w' = w := by
  have a1 : 32 - n ≤ 32 := by omega
  have a2 : (32 - n).toNat = 32 - n.toNat := by omega
  go_enter Try.func49, Try.ntmps49
  go_wp2
  go_ret
  exact ⟨by simp [rotr], rfl⟩
end Go.Proofs.Ytggpchdgljhmdaa
