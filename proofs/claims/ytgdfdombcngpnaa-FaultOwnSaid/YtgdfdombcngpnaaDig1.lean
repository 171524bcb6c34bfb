/- The small functions of package digest. -/
import Derived.Test.YtgdfdombcngpnaaProg
import Derived.Test.YtgdfdombcngpnaaSha
import Derived.Deep.QuietTactic
import Derived.BigQuiet
namespace Go.Proofs.Ytgdfdombcngpnaa
open Go.RowKit

theorem turn_any (x : BitVec 32) (n : Int) (w : World) (h0 : 0 ≤ n) (h1 : n ≤ 32) :
    Calls Try.prog 116 #[V32 x, .int .u64 n] w fun e w' => e = .returned (V32 (rotr x n.toNat)) ∧ w' = w := by
  have a1 : 32 - n ≤ 32 := by omega
  have a2 : (32 - n).toNat = 32 - n.toNat := by omega
  go_enter Try.func116, Try.ntmps116
  go_wp2
  go_ret
  exact ⟨by simp [rotr], rfl⟩
theorem s0_any (x : BitVec 32) (w : World) :
    Calls Try.prog 93 #[V32 x] w fun e w' => e = .returned (V32 (fs0 x)) ∧ w' = w := by
  go_enter Try.func93, Try.ntmps93
  go_wp2_with (go_at_call 116; refine (turn_any _ _ _ (by omega) (by omega)).mono ?_; rintro e w' ⟨rfl, rfl⟩)
  go_ret
  exact ⟨rfl, rfl⟩
theorem s1_any (x : BitVec 32) (w : World) :
    Calls Try.prog 94 #[V32 x] w fun e w' => e = .returned (V32 (fs1 x)) ∧ w' = w := by
  go_enter Try.func94, Try.ntmps94
  go_wp2_with (go_at_call 116; refine (turn_any _ _ _ (by omega) (by omega)).mono ?_; rintro e w' ⟨rfl, rfl⟩)
  go_ret
  exact ⟨rfl, rfl⟩
theorem b0_any (x : BitVec 32) (w : World) :
    Calls Try.prog 97 #[V32 x] w fun e w' => e = .returned (V32 (fb0 x)) ∧ w' = w := by
  go_enter Try.func97, Try.ntmps97
  go_wp2_with (go_at_call 116; refine (turn_any _ _ _ (by omega) (by omega)).mono ?_; rintro e w' ⟨rfl, rfl⟩)
  go_ret
  exact ⟨rfl, rfl⟩
theorem b1_any (x : BitVec 32) (w : World) :
    Calls Try.prog 95 #[V32 x] w fun e w' => e = .returned (V32 (fb1 x)) ∧ w' = w := by
  go_enter Try.func95, Try.ntmps95
  go_wp2_with (go_at_call 116; refine (turn_any _ _ _ (by omega) (by omega)).mono ?_; rintro e w' ⟨rfl, rfl⟩)
  go_ret
  exact ⟨rfl, rfl⟩
theorem choose_any (x y z : BitVec 32) (w : World) :
    Calls Try.prog 96 #[V32 x, V32 y, V32 z] w fun e w' => e = .returned (V32 (fch x y z)) ∧ w' = w := by
  go_enter Try.func96, Try.ntmps96
  go_wp2
  go_ret
  exact ⟨rfl, rfl⟩
theorem most_any (x y z : BitVec 32) (w : World) :
    Calls Try.prog 98 #[V32 x, V32 y, V32 z] w fun e w' => e = .returned (V32 (fmj x y z)) ∧ w' = w := by
  go_enter Try.func98, Try.ntmps98
  go_wp2
  go_ret
  exact ⟨rfl, rfl⟩
theorem r_any (x : BitVec 32) (n : Int) (w : World) (h0 : 0 ≤ n) (h1 : n ≤ 32) :
    Calls Try.prog 99 #[V32 x, .int .u64 n] w fun e w' => e = .returned (V32 (rotr x n.toNat)) ∧ w' = w := by
  have a1 : 32 - n ≤ 32 := by omega
  have a2 : (32 - n).toNat = 32 - n.toNat := by omega
  go_enter Try.func99, Try.ntmps99
  go_wp2
  go_ret
  exact ⟨by simp [rotr], rfl⟩
end Go.Proofs.Ytgdfdombcngpnaa
