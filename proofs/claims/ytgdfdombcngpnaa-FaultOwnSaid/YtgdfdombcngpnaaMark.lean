/- wire: a mark's bytes; cert.ValueSum, MarkVote, Accepts. -/
import Derived.Test.YtgdfdombcngpnaaKn6
namespace Go.Proofs.Ytgdfdombcngpnaa
open Go.RowKit Go.MapKept
set_option linter.unusedSimpArgs false
set_option linter.unusedVariables false
/-- A mark. -/
structure Mk where
  k : Int
  p : Int
  e : Int
  t : Int
  deriving DecidableEq
def mkc (m : Mk) : List Value := [.int .i64 m.k, .int .i64 m.p, .int .i64 m.e, .int .i64 m.t]
def inB (n lo hi : Int) : Bool := decide (lo ≤ n) && decide (n ≤ hi)
def prodB (p e t : Int) : Bool := inB p 0 7 && inB e 0 100 && inB t 0 100
def markOk (m : Mk) : Bool := inB m.k 1 3 && prodB m.p m.e m.t && (!decide (m.k = 1) || decide (m.t = 0))
def markB (m : Mk) : List (BitVec 8) := numsB [3, m.k, m.p, m.e, m.t]
theorem markB_len (m : Mk) : (markB m).length ≤ 45 := numsB_len _
instance (m : Mk) : AtA (mkc m).toArray 0 (.int .i64 m.k) := ⟨rfl⟩
instance (m : Mk) : AtA (mkc m).toArray 1 (.int .i64 m.p) := ⟨rfl⟩
instance (m : Mk) : AtA (mkc m).toArray 2 (.int .i64 m.e) := ⟨rfl⟩
instance (m : Mk) : AtA (mkc m).toArray 3 (.int .i64 m.t) := ⟨rfl⟩
instance (m : Mk) : SzA (mkc m).toArray 4 := ⟨rfl⟩
attribute [local irreducible] wpList Code.wp GW Calls
theorem IsIn_any (w : World) (n lo hi : Int) : Calls Try.prog 111 #[.int .i64 n, .int .i64 lo, .int .i64 hi] w fun e w' => e = .returned (.bool (inB n lo hi)) ∧ w = w' := by
  unfold inB
  rcases (by omega : n < lo ∨ ¬ n < lo) with h | h
  · have h1 : decide (lo ≤ n) = false := decide_eq_false (by omega)
    rw [h1, Bool.false_and]
    go_enter Try.func111, Try.ntmps111
    go_wp2_with (first | (rw [h1]))
    go_ret
    first | exact ⟨rfl, rfl⟩ | (refine ⟨?_, rfl⟩; simp)
  · have h1 : decide (lo ≤ n) = true := decide_eq_true (by omega)
    rw [h1, Bool.true_and]
    go_enter Try.func111, Try.ntmps111
    go_wp2_with (first | (rw [h1]))
    go_ret
    first | exact ⟨rfl, rfl⟩ | (refine ⟨?_, rfl⟩; simp)
theorem IsProducer_any (w : World) (p e t : Int) : Calls Try.prog 112 #[.int .i64 p, .int .i64 e, .int .i64 t] w fun x w' => x = .returned (.bool (prodB p e t)) ∧ w = w' := by
  unfold prodB
  cases h1 : inB p 0 7 <;> cases h2 : inB e 0 100
  all_goals
    go_enter Try.func112, Try.ntmps112
    go_wp2_with (first
      | (go_at_call 111; refine (IsIn_any _ p 0 7).mono ?_; rw [h1]; rintro e1 w1 ⟨rfl, rfl⟩)
      | (go_at_call 111; refine (IsIn_any _ e 0 100).mono ?_; rw [h2]; rintro e1 w1 ⟨rfl, rfl⟩)
      | (go_at_call 111; refine (IsIn_any _ t 0 100).mono ?_; rintro e1 w1 ⟨rfl, rfl⟩))
    go_ret
    simp
set_option maxRecDepth 100000 in
set_option maxHeartbeats 4000000 in
theorem IsMark_any (w : World) (m : Mk) : Calls Try.prog 89 #[.agg (mkc m).toArray] w fun x w' => x = .returned (.bool (markOk m)) ∧ Grow w noOwn w' := by
  obtain ⟨b, hb⟩ : ∃ b, b = markOk m := ⟨_, rfl⟩
  rw [← hb]
  have HB := hide hb
  clear hb
  have hM := Mem.nil w noOwn
  rcases (by cases inB m.k 1 3 <;> cases prodB m.p m.e m.t <;> simp : (inB m.k 1 3 = false) ∨ (inB m.k 1 3 = true ∧ prodB m.p m.e m.t = false) ∨ (inB m.k 1 3 = true ∧ prodB m.p m.e m.t = true)) with h1 | ⟨h1, h2⟩ | ⟨h1, h2⟩
  · have hf : false = b := by rw [unhide HB]; simp [markOk, h1]
    have HF := hide hf
    clear hf
    go_enter Try.func89, Try.ntmps89
    go_wp2_with (first
      | ((with_reducible refine wl_shape ?_); first | (apply wl_boxa; exact rfl; exact hM; exact rfl; exact rfl; clear hM; intro gg ww hM; simp only [putT, List.set_cons_succ, List.set_cons_zero]) | (apply wl_box1; exact rfl; exact hM; exact rfl; exact rfl; exact rfl; clear hM; intro gg ww hM; simp only [putT, List.set_cons_succ, List.set_cons_zero]) | (apply wl_alloc; exact rfl; exact hM; exact rfl; exact inferInstance; clear hM; intro gg ww hM; simp only [putT, List.set_cons_succ, List.set_cons_zero]) | (apply wl_ld; exact rfl; exact hM; exact rfl; exact rfl; exact inferInstance; exact inferInstance; simp only [putT, List.set_cons_succ, List.set_cons_zero]) | (apply wl_lda; exact rfl; exact hM; exact rfl; exact rfl; exact inferInstance; exact inferInstance; exact inferInstance; exact inferInstance; simp only [putT, List.set_cons_succ, List.set_cons_zero]) | (apply wl_ldr; exact rfl; exact hM; exact rfl; exact rfl; exact inferInstance; exact inferInstance; exact inferInstance; exact inferInstance; simp only [putT, List.set_cons_succ, List.set_cons_zero]) | (apply wl_st; exact rfl; exact hM; exact rfl; exact rfl; exact rfl; exact rfl; exact inferInstance; exact inferInstance; clear hM; intro ww hM; simp only [putT, List.set_cons_succ, List.set_cons_zero]) | (apply wl_sta; exact rfl; exact hM; exact rfl; exact rfl; exact rfl; exact all_oneCell_toArray One.out; exact inferInstance; exact inferInstance; exact inferInstance; clear hM; intro ww hM; simp only [putT, List.set_cons_succ, List.set_cons_zero]) | (apply wl_bs0; exact rfl; exact hM; exact rfl; exact inferInstance; clear hM; intro gg ww hM; simp only [putT, List.set_cons_succ, List.set_cons_zero]) | (apply wl_bs1a; exact rfl; exact hM; exact rfl; exact inferInstance; exact rfl; exact inferInstance; clear hM; intro gg ww hM; simp only [putT, List.set_cons_succ, List.set_cons_zero]) | (apply wl_bs11; exact rfl; exact hM; exact rfl; exact inferInstance; exact rfl; exact rfl; clear hM; intro gg ww hM; simp only [putT, List.set_cons_succ, List.set_cons_zero]) | (apply wl_conv; exact rfl; exact hM; exact rfl; exact rfl; exact inferInstance; exact inferInstance; simp only [putT, List.set_cons_succ, List.set_cons_zero]))
      | (go_at_call 111; refine (IsIn_any _ m.k 1 3).mono ?_; rw [h1]; rintro e1 w1 ⟨rfl, rfl⟩))
    go_ret
    exact ⟨by rw [← unhide HF]; rfl, hM.grow⟩
  · have hf : false = b := by rw [unhide HB]; simp [markOk, h1, h2]
    have HF := hide hf
    clear hf
    go_enter Try.func89, Try.ntmps89
    go_wp2_with (first
      | ((with_reducible refine wl_shape ?_); first | (apply wl_boxa; exact rfl; exact hM; exact rfl; exact rfl; clear hM; intro gg ww hM; simp only [putT, List.set_cons_succ, List.set_cons_zero]) | (apply wl_box1; exact rfl; exact hM; exact rfl; exact rfl; exact rfl; clear hM; intro gg ww hM; simp only [putT, List.set_cons_succ, List.set_cons_zero]) | (apply wl_alloc; exact rfl; exact hM; exact rfl; exact inferInstance; clear hM; intro gg ww hM; simp only [putT, List.set_cons_succ, List.set_cons_zero]) | (apply wl_ld; exact rfl; exact hM; exact rfl; exact rfl; exact inferInstance; exact inferInstance; simp only [putT, List.set_cons_succ, List.set_cons_zero]) | (apply wl_lda; exact rfl; exact hM; exact rfl; exact rfl; exact inferInstance; exact inferInstance; exact inferInstance; exact inferInstance; simp only [putT, List.set_cons_succ, List.set_cons_zero]) | (apply wl_ldr; exact rfl; exact hM; exact rfl; exact rfl; exact inferInstance; exact inferInstance; exact inferInstance; exact inferInstance; simp only [putT, List.set_cons_succ, List.set_cons_zero]) | (apply wl_st; exact rfl; exact hM; exact rfl; exact rfl; exact rfl; exact rfl; exact inferInstance; exact inferInstance; clear hM; intro ww hM; simp only [putT, List.set_cons_succ, List.set_cons_zero]) | (apply wl_sta; exact rfl; exact hM; exact rfl; exact rfl; exact rfl; exact all_oneCell_toArray One.out; exact inferInstance; exact inferInstance; exact inferInstance; clear hM; intro ww hM; simp only [putT, List.set_cons_succ, List.set_cons_zero]) | (apply wl_bs0; exact rfl; exact hM; exact rfl; exact inferInstance; clear hM; intro gg ww hM; simp only [putT, List.set_cons_succ, List.set_cons_zero]) | (apply wl_bs1a; exact rfl; exact hM; exact rfl; exact inferInstance; exact rfl; exact inferInstance; clear hM; intro gg ww hM; simp only [putT, List.set_cons_succ, List.set_cons_zero]) | (apply wl_bs11; exact rfl; exact hM; exact rfl; exact inferInstance; exact rfl; exact rfl; clear hM; intro gg ww hM; simp only [putT, List.set_cons_succ, List.set_cons_zero]) | (apply wl_conv; exact rfl; exact hM; exact rfl; exact rfl; exact inferInstance; exact inferInstance; simp only [putT, List.set_cons_succ, List.set_cons_zero]))
      | (go_at_call 111; refine (IsIn_any _ m.k 1 3).mono ?_; rw [h1]; rintro e1 w1 ⟨rfl, rfl⟩)
      | (go_at_call 112; refine (IsProducer_any _ m.p m.e m.t).mono ?_; rw [h2]; rintro e1 w1 ⟨rfl, rfl⟩))
    go_ret
    exact ⟨by rw [← unhide HF]; rfl, hM.grow⟩
  · by_cases hk : m.k = 1
    · have hf : decide (m.t = 0) = b := by rw [unhide HB]; unfold markOk; rw [h1, h2]; simp [hk]
      have HF := hide hf
      have hkb : (m.k != 1) = false := by simp [hk]
      clear hf hk
      go_enter Try.func89, Try.ntmps89
      go_wp2_with (first
        | ((with_reducible refine wl_shape ?_); first | (apply wl_boxa; exact rfl; exact hM; exact rfl; exact rfl; clear hM; intro gg ww hM; simp only [putT, List.set_cons_succ, List.set_cons_zero]) | (apply wl_box1; exact rfl; exact hM; exact rfl; exact rfl; exact rfl; clear hM; intro gg ww hM; simp only [putT, List.set_cons_succ, List.set_cons_zero]) | (apply wl_alloc; exact rfl; exact hM; exact rfl; exact inferInstance; clear hM; intro gg ww hM; simp only [putT, List.set_cons_succ, List.set_cons_zero]) | (apply wl_ld; exact rfl; exact hM; exact rfl; exact rfl; exact inferInstance; exact inferInstance; simp only [putT, List.set_cons_succ, List.set_cons_zero]) | (apply wl_lda; exact rfl; exact hM; exact rfl; exact rfl; exact inferInstance; exact inferInstance; exact inferInstance; exact inferInstance; simp only [putT, List.set_cons_succ, List.set_cons_zero]) | (apply wl_ldr; exact rfl; exact hM; exact rfl; exact rfl; exact inferInstance; exact inferInstance; exact inferInstance; exact inferInstance; simp only [putT, List.set_cons_succ, List.set_cons_zero]) | (apply wl_st; exact rfl; exact hM; exact rfl; exact rfl; exact rfl; exact rfl; exact inferInstance; exact inferInstance; clear hM; intro ww hM; simp only [putT, List.set_cons_succ, List.set_cons_zero]) | (apply wl_sta; exact rfl; exact hM; exact rfl; exact rfl; exact rfl; exact all_oneCell_toArray One.out; exact inferInstance; exact inferInstance; exact inferInstance; clear hM; intro ww hM; simp only [putT, List.set_cons_succ, List.set_cons_zero]) | (apply wl_bs0; exact rfl; exact hM; exact rfl; exact inferInstance; clear hM; intro gg ww hM; simp only [putT, List.set_cons_succ, List.set_cons_zero]) | (apply wl_bs1a; exact rfl; exact hM; exact rfl; exact inferInstance; exact rfl; exact inferInstance; clear hM; intro gg ww hM; simp only [putT, List.set_cons_succ, List.set_cons_zero]) | (apply wl_bs11; exact rfl; exact hM; exact rfl; exact inferInstance; exact rfl; exact rfl; clear hM; intro gg ww hM; simp only [putT, List.set_cons_succ, List.set_cons_zero]) | (apply wl_conv; exact rfl; exact hM; exact rfl; exact rfl; exact inferInstance; exact inferInstance; simp only [putT, List.set_cons_succ, List.set_cons_zero]))
        | (rw [hkb])
        | (go_at_call 111; refine (IsIn_any _ m.k 1 3).mono ?_; rw [h1]; rintro e1 w1 ⟨rfl, rfl⟩)
        | (go_at_call 112; refine (IsProducer_any _ m.p m.e m.t).mono ?_; rw [h2]; rintro e1 w1 ⟨rfl, rfl⟩))
      go_ret
      exact ⟨by rw [← unhide HF]; rfl, hM.grow⟩
    · have hf : true = b := by rw [unhide HB]; unfold markOk; rw [h1, h2]; simp [hk]
      have HF := hide hf
      have hkb : (m.k != 1) = true := by simp [hk]
      clear hf hk
      go_enter Try.func89, Try.ntmps89
      go_wp2_with (first
        | ((with_reducible refine wl_shape ?_); first | (apply wl_boxa; exact rfl; exact hM; exact rfl; exact rfl; clear hM; intro gg ww hM; simp only [putT, List.set_cons_succ, List.set_cons_zero]) | (apply wl_box1; exact rfl; exact hM; exact rfl; exact rfl; exact rfl; clear hM; intro gg ww hM; simp only [putT, List.set_cons_succ, List.set_cons_zero]) | (apply wl_alloc; exact rfl; exact hM; exact rfl; exact inferInstance; clear hM; intro gg ww hM; simp only [putT, List.set_cons_succ, List.set_cons_zero]) | (apply wl_ld; exact rfl; exact hM; exact rfl; exact rfl; exact inferInstance; exact inferInstance; simp only [putT, List.set_cons_succ, List.set_cons_zero]) | (apply wl_lda; exact rfl; exact hM; exact rfl; exact rfl; exact inferInstance; exact inferInstance; exact inferInstance; exact inferInstance; simp only [putT, List.set_cons_succ, List.set_cons_zero]) | (apply wl_ldr; exact rfl; exact hM; exact rfl; exact rfl; exact inferInstance; exact inferInstance; exact inferInstance; exact inferInstance; simp only [putT, List.set_cons_succ, List.set_cons_zero]) | (apply wl_st; exact rfl; exact hM; exact rfl; exact rfl; exact rfl; exact rfl; exact inferInstance; exact inferInstance; clear hM; intro ww hM; simp only [putT, List.set_cons_succ, List.set_cons_zero]) | (apply wl_sta; exact rfl; exact hM; exact rfl; exact rfl; exact rfl; exact all_oneCell_toArray One.out; exact inferInstance; exact inferInstance; exact inferInstance; clear hM; intro ww hM; simp only [putT, List.set_cons_succ, List.set_cons_zero]) | (apply wl_bs0; exact rfl; exact hM; exact rfl; exact inferInstance; clear hM; intro gg ww hM; simp only [putT, List.set_cons_succ, List.set_cons_zero]) | (apply wl_bs1a; exact rfl; exact hM; exact rfl; exact inferInstance; exact rfl; exact inferInstance; clear hM; intro gg ww hM; simp only [putT, List.set_cons_succ, List.set_cons_zero]) | (apply wl_bs11; exact rfl; exact hM; exact rfl; exact inferInstance; exact rfl; exact rfl; clear hM; intro gg ww hM; simp only [putT, List.set_cons_succ, List.set_cons_zero]) | (apply wl_conv; exact rfl; exact hM; exact rfl; exact rfl; exact inferInstance; exact inferInstance; simp only [putT, List.set_cons_succ, List.set_cons_zero]))
        | (rw [hkb])
        | (go_at_call 111; refine (IsIn_any _ m.k 1 3).mono ?_; rw [h1]; rintro e1 w1 ⟨rfl, rfl⟩)
        | (go_at_call 112; refine (IsProducer_any _ m.p m.e m.t).mono ?_; rw [h2]; rintro e1 w1 ⟨rfl, rfl⟩))
      go_ret
      exact ⟨by rw [← unhide HF]; rfl, hM.grow⟩
end Go.Proofs.Ytgdfdombcngpnaa
