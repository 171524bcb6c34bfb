/- The small functions of package digest. -/
import Derived.Test.YtkcmnhmbpamehaaProg
import Derived.Test.YtkcmnhmbpamehaaSha
import Derived.Deep.QuietTactic
import Derived.BigQuiet
namespace Go.Proofs.Ytkcmnhmbpamehaa
open Go.RowKit

theorem turn_any (x : BitVec 32) (n : Int) (w : World) (h0 : 0 ≤ n) (h1 : n ≤ 32) :
    Calls Try.prog 63 #[V32 x, .int .u64 n] w fun e w' => e = .returned (V32 (rotr x n.toNat)) ∧ w' = w := by
  have a1 : 32 - n ≤ 32 := by omega
  have a2 : (32 - n).toNat = 32 - n.toNat := by omega
  go_enter Try.func63, Try.ntmps63
  go_wp2
  go_ret
  exact ⟨by simp [rotr], rfl⟩
theorem s0_any (x : BitVec 32) (w : World) :
    Calls Try.prog 50 #[V32 x] w fun e w' => e = .returned (V32 (fs0 x)) ∧ w' = w := by
  go_enter Try.func50, Try.ntmps50
  go_wp2_with (go_at_call 63; refine (turn_any _ _ _ (by omega) (by omega)).mono ?_; rintro e w' ⟨rfl, rfl⟩)
  go_ret
  exact ⟨rfl, rfl⟩
theorem s1_any (x : BitVec 32) (w : World) :
    Calls Try.prog 51 #[V32 x] w fun e w' => e = .returned (V32 (fs1 x)) ∧ w' = w := by
  go_enter Try.func51, Try.ntmps51
  go_wp2_with (go_at_call 63; refine (turn_any _ _ _ (by omega) (by omega)).mono ?_; rintro e w' ⟨rfl, rfl⟩)
  go_ret
  exact ⟨rfl, rfl⟩
theorem b0_any (x : BitVec 32) (w : World) :
    Calls Try.prog 54 #[V32 x] w fun e w' => e = .returned (V32 (fb0 x)) ∧ w' = w := by
  go_enter Try.func54, Try.ntmps54
  go_wp2_with (go_at_call 63; refine (turn_any _ _ _ (by omega) (by omega)).mono ?_; rintro e w' ⟨rfl, rfl⟩)
  go_ret
  exact ⟨rfl, rfl⟩
theorem b1_any (x : BitVec 32) (w : World) :
    Calls Try.prog 52 #[V32 x] w fun e w' => e = .returned (V32 (fb1 x)) ∧ w' = w := by
  go_enter Try.func52, Try.ntmps52
  go_wp2_with (go_at_call 63; refine (turn_any _ _ _ (by omega) (by omega)).mono ?_; rintro e w' ⟨rfl, rfl⟩)
  go_ret
  exact ⟨rfl, rfl⟩
theorem choose_any (x y z : BitVec 32) (w : World) :
    Calls Try.prog 53 #[V32 x, V32 y, V32 z] w fun e w' => e = .returned (V32 (fch x y z)) ∧ w' = w := by
  go_enter Try.func53, Try.ntmps53
  go_wp2
  go_ret
  exact ⟨rfl, rfl⟩
theorem most_any (x y z : BitVec 32) (w : World) :
    Calls Try.prog 55 #[V32 x, V32 y, V32 z] w fun e w' => e = .returned (V32 (fmj x y z)) ∧ w' = w := by
  go_enter Try.func55, Try.ntmps55
  go_wp2
  go_ret
  exact ⟨rfl, rfl⟩
theorem r_any (x : BitVec 32) (n : Int) (w : World) (h0 : 0 ≤ n) (h1 : n ≤ 32) :
    Calls Try.prog 56 #[V32 x, .int .u64 n] w fun e w' => e = .returned (V32 (rotr x n.toNat)) ∧ w' = w := by
  have a1 : 32 - n ≤ 32 := by omega
  have a2 : (32 - n).toNat = 32 - n.toNat := by omega
  go_enter Try.func56, Try.ntmps56
  go_wp2
  go_ret
  exact ⟨by simp [rotr], rfl⟩
end Go.Proofs.Ytkcmnhmbpamehaa
