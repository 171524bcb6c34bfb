/- The laws of the rings, walked (4). -/
import Derived.Test.YtggpchdgljhmdaaSeal6
import Derived.Test.YtggpchdgljhmdaaLawC
namespace Go.Proofs.Ytggpchdgljhmdaa
open Go.RowKit
set_option linter.unusedSimpArgs false

@[go_sem] theorem V8_eql0 (t : TypeId) (x : BitVec 8) : binOp .eql t (V8 x) (.int .u8 0) = pure (.bool (x == 0#8)) := by
  have := V8_eql t x 0#8
  exact this
theorem and31 (n : Int) : ∃ m : Nat, bits .and .i64 n 31 = m ∧ m < 32 := by
  have h31 : (BitVec.ofInt 64 31).toNat = 2 ^ 5 - 1 := by decide
  have key : (BitVec.ofInt 64 n &&& BitVec.ofInt 64 31).toNat = (n % ((2 ^ 64 : Nat) : Int)).toNat % 2 ^ 5 := by
    rw [BitVec.toNat_and, BitVec.toNat_ofInt, h31, Nat.and_two_pow_sub_one_eq_mod]
  refine ⟨(n % ((2 ^ 64 : Nat) : Int)).toNat % 2 ^ 5, ?_, by omega⟩
  show IntKind.i64.wrap ((BitVec.ofInt 64 n &&& BitVec.ofInt 64 31).toNat : Nat) = _
  rw [key, IntKind.wrap_i64]
  omega
theorem xor_ne {t : List (BitVec 8)} {m : Nat} (hm : m < t.length) {x : BitVec 8} (hx : x ≠ 0) : t.set m (t.getD m 0 ^^^ x) ≠ t := by
  intro e
  have h1 := congrArg (·[m]?) e
  simp [hm] at h1
  have h2 : t[m] ^^^ (t[m] ^^^ x) = t[m] ^^^ t[m] := by rw [h1]
  rw [← BitVec.xor_assoc, BitVec.xor_self, BitVec.zero_xor] at h2
  exact hx h2

theorem checkOf_ne (ks : List (List (BitVec 8))) (i : Int) (l t : List (BitVec 8)) (h : t ≠ sealOf ks i l) : checkOf ks i l t = false := by
  unfold checkOf
  have : (sealOf ks i l == t) = false := by rw [beq_eq_false_iff_ne]; exact fun e => h e.symm
  rw [this, Bool.and_false]
set_option maxRecDepth 100000 in
set_option maxHeartbeats 1000000 in
theorem SealTurned_any (w : World) (i z : Int) (n c : Nat) (B : Option Addr) (x : BitVec 8) (l : List (BitVec 8)) (hb : Bytes w w.heap.size B n l) :
    Calls Try.prog 12 #[.int .i64 i, .slice B n c, .int .i64 z, V8 x] w fun e w' => e = .returned (.bool true) ∧ Grow w noOwn w' := by
  have hM := Mem.nil w noOwn
  by_cases hin : (0 ≤ i ∧ i ≤ 3) ∧ n ≤ 1000 ∧ (x == 0#8) = false
  · obtain ⟨⟨i0, i3⟩, hn, hx⟩ := hin
    obtain ⟨m, hm, hm32⟩ := and31 z
    have hkl := hide (keysOf_length (seed1 7#8) 4)
    have hT := sealOf_length (keysOf (seed1 7#8) 4) i l
    obtain ⟨T, hTe⟩ : ∃ T, T = sealOf (keysOf (seed1 7#8) 4) i l := ⟨_, rfl⟩
    rw [← hTe] at hT
    have HTe := hide hTe
    clear hTe
    have hx0 : x ≠ 0 := by intro e; subst e; simp at hx
    obtain ⟨y, hy⟩ : ∃ y, y = T.getD m 0 := ⟨_, rfl⟩
    have hne0 := xor_ne (t := T) (by rw [hT]; exact hm32) hx0
    rw [← hy] at hne0
    have hne := hide hne0
    have Hy := hide hy
    clear hy hne0
    have hlen2 := hide (show (T.set m (y ^^^ x)).length = 32 by simp [hT])
    have Hx := hide hx0
    clear hx0
    go_enter Try.func12, Try.ntmps12
    go_wp2_with (first
      | (refine wpList_build_to rfl 25 #[(0, .const (.int .u8 7))] rfl (hv (seed1 7#8)) (by kernel_rfl) ?_)
      | (go_at_call 25; refine (New_any _ 4 (seed1 7#8) rfl).mono ?_; rintro e w1 ⟨⟨p, rfl, g, A, d, rfl, hr⟩, hg⟩; rw [cnt4] at hr; replace hb := gro_up hg hb; replace hM := hM.call hg; clear hg)
      | (go_at_call 28; refine (Seal_any _ g d n c A B _ i l hr hb (by omega)).mono ?_; rintro e w3 ⟨rfl, hg⟩; replace hb := gro_up hg hb; replace hr := hr.grow hg; have hg3 := hM.grow.then_ hg; clear hg hM; have hM := Mem.nil w3 noOwn; rw [← unhide HTe])
      | (refine wpList_alloc_mem hM rfl 25 rfl _ zero32 ?_; clear hM; intro g10 w4 hM)
      | (refine wpList_store_mem rfl 25 _ _ rfl hM 0 _ _ _ (hv T) rfl rfl rfl (size32 _ hT) (hvz _ hT) (oneCells8 _) ?_; clear hM; intro w5 hM _; have c0 : w5.cell? ⟨g10, m, none⟩ = some (V8 y) := (by rw [unhide Hy]; exact (hM.cell 0 rfl m).trans (hv_get T m (by rw [hT]; exact hm32))); have f0 := hM.frozen 0 rfl m; have hM2 := hM.set 0 rfl m (V8 (y ^^^ x)); rw [hv_set] at hM2; have H2 := hide hM2; clear hM2)
      | (refine wpList_load_mem rfl 25 _ rfl (unhide H2) 0 _ _ (hv (T.set m (y ^^^ x))) rfl rfl (.array 32 5) (by kernel_rfl) rfl (size32 _ (unhide hlen2)) ?_)
      | (go_at_call 30; refine (Check_any _ g d n c A B _ i l _ (hr.grow (unhide H2).grow) (gro_up (unhide H2).grow hb) (by omega) (unhide hlen2)).mono ?_; rintro e w6 ⟨rfl, hg6⟩; rw [checkOf_ne (keysOf (seed1 7#8) 4) i l _ (by rw [← unhide HTe]; exact unhide hne)])
      | (go_at_call 32; refine (known4_any _).mono ?_; rintro e w7 ⟨rfl, hg7⟩))
    go_ret
    exact ⟨rfl, ((hg3.then_ (unhide H2).grow).then_ hg6).then_ hg7⟩
  · have hcase : i < 0 ∨ (0 ≤ i ∧ 3 < i) ∨ (0 ≤ i ∧ i ≤ 3 ∧ 1000 < n) ∨ (0 ≤ i ∧ i ≤ 3 ∧ n ≤ 1000 ∧ x = 0#8) := by
      by_cases h1 : 0 ≤ i
      · by_cases h2 : i ≤ 3
        · by_cases h3 : n ≤ 1000
          · refine .inr (.inr (.inr ⟨h1, h2, h3, ?_⟩))
            by_cases hx : x = 0#8
            · exact hx
            · exact absurd ⟨⟨h1, h2⟩, h3, by simpa using hx⟩ hin
          · exact .inr (.inr (.inl ⟨h1, h2, by omega⟩))
        · exact .inr (.inl ⟨h1, by omega⟩)
      · exact .inl (by omega)
    clear hin
    rcases hcase with h1 | ⟨h1, h2⟩ | ⟨h1, h2, h3⟩ | ⟨h1, h2, h3, rfl⟩
    all_goals
      go_enter Try.func12, Try.ntmps12
      go_wp2_with fail
      go_ret
      exact ⟨rfl, Grow.refl ..⟩
end Go.Proofs.Ytggpchdgljhmdaa
