/- DigestKeys: the walk. -/
import Derived.Test.YtggpchdgljhmdaaLawB
import Derived.Test.YtggpchdgljhmdaaApp3
namespace Go.Proofs.Ytggpchdgljhmdaa
open Go.RowKit

theorem mac_long (key p : List (BitVec 8)) (h : 64 < key.length) : mac (sha key) p = mac key p := by
  have hk : key64 (sha key) = key64 key := by
    rw [← key64_long key h, ← key64_short (sha key) (by rw [sha_length]; omega)]
  unfold mac
  rw [hk]
theorem mac_zeros (key p : List (BitVec 8)) (m : Nat) (h : key.length + m ≤ 64) : mac (key ++ List.replicate m 0) p = mac key p := by
  have hk : key64 (key ++ List.replicate m 0) = key64 key := by
    rw [← key64_short key (by omega), ← key64_short (key ++ List.replicate m 0) (by simp; omega), List.append_assoc]
    congr 1
    rw [List.replicate_append_replicate]
    congr 1
    simp
    omega
  unfold mac
  rw [hk]

theorem Mac_long (w : World) (n1 c1 n c : Nat) (A1 A : Option Addr) (key p : List (BitVec 8)) (h : 64 < key.length) (hk : Bytes w w.heap.size A1 n1 (sha key)) (hc1 : n1 ≤ c1) (hn1 : n1 ≤ 140737488340000) (hb : Bytes w w.heap.size A n p) (hn2 : n ≤ 140737488340000) :
    Calls Try.prog 19 #[.slice A1 n1 c1, .slice A n c] w fun e w' => e = .returned (.agg (hv (mac key p))) ∧ Grow w noOwn w' := by
  rw [← mac_long key p h]
  exact Mac_any w n1 c1 n c A1 A _ p hk hc1 hn1 hb hn2
theorem Mac_zeros (w : World) (n1 c1 n c m : Nat) (A1 A : Option Addr) (key p : List (BitVec 8)) (h : key.length + m ≤ 64) (hk : Bytes w w.heap.size A1 n1 (key ++ List.replicate m 0)) (hc1 : n1 ≤ c1) (hn1 : n1 ≤ 140737488340000) (hb : Bytes w w.heap.size A n p) (hn2 : n ≤ 140737488340000) :
    Calls Try.prog 19 #[.slice A1 n1 c1, .slice A n c] w fun e w' => e = .returned (.agg (hv (mac key p))) ∧ Grow w noOwn w' := by
  rw [← mac_zeros key p m h]
  exact Mac_any w n1 c1 n c A1 A _ p hk hc1 hn1 hb hn2
theorem and63 (n : Int) : bits .and .i64 n 63 = n % 64 := by
  have h63 : (BitVec.ofInt 64 63).toNat = 2 ^ 6 - 1 := by decide
  have key : (BitVec.ofInt 64 n &&& BitVec.ofInt 64 63).toNat = (n % ((2 ^ 64 : Nat) : Int)).toNat % 2 ^ 6 := by
    rw [BitVec.toNat_and, BitVec.toNat_ofInt, h63, Nat.and_two_pow_sub_one_eq_mod]
  show IntKind.i64.wrap ((BitVec.ofInt 64 n &&& BitVec.ofInt 64 63).toNat : Nat) = n % 64
  rw [key, IntKind.wrap_i64]
  omega
theorem keys_rem (z : Int) (n1 : Nat) (h : n1 ≤ 64) : ∃ m : Nat, (bits .and .i64 z 63).tmod (65 - (n1 : Int)) = m ∧ n1 + m ≤ 64 := by
  rw [and63, Int.tmod_eq_emod_of_nonneg (by omega)]
  have h1 := Int.emod_nonneg (z % 64) (show (65 - (n1 : Int)) ≠ 0 by omega)
  have h2 := Int.emod_lt_of_pos (z % 64) (show (0 : Int) < 65 - (n1 : Int) by omega)
  exact ⟨(z % 64 % (65 - (n1 : Int))).toNat, by omega, by omega⟩

set_option maxRecDepth 100000 in
set_option maxHeartbeats 400000 in
theorem DigestKeys_any (w : World) (n1 c1 n2 c2 : Nat) (z : Int) (A B : Option Addr) (l1 l2 : List (BitVec 8)) (hb1 : Bytes w w.heap.size A n1 l1) (hb2 : Bytes w w.heap.size B n2 l2) (hm1 : n1 ≤ 140737488351232) (hm2 : n2 ≤ 140737488351232) (hnc : n1 ≤ c1) :
    Calls Try.prog 5 #[.slice A n1 c1, .slice B n2 c2, .int .i64 z] w fun e w' => e = .returned (.bool true) ∧ Grow w noOwn w' := by
  by_cases hn : n1 + n2 ≤ 1500
  · have hl1 := hide hb1.len
    have hl2 := hb2.len
    have hM := Mem.nil w noOwn
    by_cases h64 : 64 < n1
    · go_enter Try.func5, Try.ntmps5
      go_wp2_with (first
        | (go_at_call 15; refine (Sum_any _ n1 c1 A l1 hb1 (by omega) (by omega)).mono ?_; rintro e1 w8 ⟨rfl, hg⟩; replace hM := hM.call hg; clear hg)
        | (refine wpList_alloc_mem hM rfl 25 rfl _ zero32 ?_; clear hM; intro g6 w6 hM)
        | (refine wpList_store_mem rfl 25 _ _ rfl hM 0 _ _ _ (hv (sha l1)) rfl rfl rfl (size32 _ (sha_length _)) (hvz _ (sha_length _)) (oneCells8 _) ?_; clear hM; intro w9 hM _))
      have hs : (mac l1 l2).length = 32 := sha_length _
      have hx1 := Bytes.more (hM.reads hb1 (Nat.le_refl _) (fun _ _ e => e)) hM.grow.size
      have hx2 := Bytes.more (hM.reads hb2 (Nat.le_refl _) (fun _ _ e => e)) hM.grow.size
      have hxk := (hM.blk 0 rfl).bytes 0 32 (by rw [sha_length])
      refine wp_region_quiet_below (by kernel_rfl) (by kernel_rfl) ?_
      repeat (go_big_quiet_step (first
        | (go_at_call 19; with_reducible exact call_gro (Mac_any _ n1 c1 n2 c2 _ _ l1 l2 (hx1.gro _) hnc (by omega) (hx2.gro _) (by omega)))
        | (go_at_call 19; with_reducible exact call_gro (Mac_long _ 32 32 n2 c2 _ _ l1 l2 (by rw [unhide hl1]; omega) (hxk.gro _) (by omega) (by omega) (hx2.gro _) (by omega)))
        | (go_at_call 18; with_reducible exact call_gro (known_any _))))
      refine wpQuiet_nil ?_
      intro w3 hw3
      obtain ⟨p, rfl⟩ := hw3
      go_wp2_with fail
      go_ret
      exact ⟨rfl, hM.grow.then_ (grow_gro _ p)⟩
    · obtain ⟨m, hm, hm64⟩ := keys_rem z n1 (by omega)
      have hm2 := hide hm64
      have tok1 : True := trivial
      have hs : (mac l1 l2).length = 32 := sha_length _
      go_enter Try.func5, Try.ntmps5
      go_wp2_with (first
        | (go_at_call 15; refine (Sum_any _ n1 c1 A l1 hb1 (by omega) (by omega)).mono ?_; rintro e1 w8 ⟨rfl, hg⟩; replace hM := hM.call hg; clear hg)
        | (refine wpList_alloc_mem hM rfl 25 rfl _ zero32 ?_; clear hM; intro g6 w6 hM)
        | (refine wpList_store_mem rfl 25 _ _ rfl hM 0 _ _ _ (hv (sha l1)) rfl rfl rfl (size32 _ (sha_length _)) (hvz _ (sha_length _)) (oneCells8 _) ?_; clear hM; intro w9 hM _)
        | (have _t := tok1; go_at_call 19; refine (Mac_any _ n1 c1 n2 c2 A B l1 l2 (Bytes.more (hM.reads hb1 (Nat.le_refl _) (fun _ _ e => e)) hM.grow.size) hnc (by omega) (Bytes.more (hM.reads hb2 (Nat.le_refl _) (fun _ _ e => e)) hM.grow.size) (by omega)).mono ?_; clear tok1; rintro e1 w8 ⟨rfl, hg⟩; replace hM := hM.call hg; clear hg)
        | (refine wpList_buildSlice_row rfl 22 0 _ rfl hM 5 Try.underlying22 _ 1 1 u8row (by decide) (by decide) [] (by kernel_rfl) rfl ?_; clear hM; intro g3 w3 hM)
        | (refine wpList_append_row rfl (.tmp 38) (.tmp 39) 22 rfl hM 0 _ 5 1 0 [] rfl rfl Try.underlying22 _ 1 u8row rfl (by decide) w.heap.size A n1 c1 (l1.map V8) rfl (hM.reads hb1 (Nat.le_refl _) (fun _ _ e => e)) (one8 _) (by simp only [maxLen]; omega) (by omega) n1 (Nat.zero_add _) (l1.map V8) rfl ?_; clear hM; intro A5 c5 w5 hM)
        | (refine wpList_append_zeros rfl (.tmp 40) (.tmp 41) 22 3 9 rfl hM 0 _ 5 n1 l1 rfl rfl Try.underlying22 Try.underlying3 Try.underlying9 u8row m rfl (by omega) ?_; clear hM; intro v7 w7 hM; obtain ⟨A7, c7, rfl, hc7, _⟩ := row_form (hM.row 0 rfl))
        | (go_at_call 19; refine (Mac_zeros _ (n1 + m) c7 n2 c2 m A7 B l1 l2 (by rw [unhide hl1]; exact unhide hm2) (Reads.of_own (hM.row 0 rfl)) hc7 (by omega) (Bytes.more (hM.reads hb2 (Nat.le_refl _) (fun _ _ e => e)) hM.grow.size) (by omega)).mono ?_; rintro e1 w8 ⟨rfl, hg⟩; replace hM := hM.call hg; clear hg)
        | (go_at_call 18; refine (known_any _).mono ?_; rintro e w5 ⟨rfl, hg5⟩; replace hM := hM.call hg5; clear hg5))
      go_ret
      exact ⟨rfl, hM.grow⟩
  · have hw : wrap64 ((n1 : Int) + n2) = n1 + n2 := by unfold wrap64; omega
    have hlt : (1500 : Int) < n1 + n2 := by omega
    go_enter Try.func5, Try.ntmps5
    go_wp2_with fail
    go_ret
    exact ⟨rfl, Grow.refl ..⟩
end Go.Proofs.Ytggpchdgljhmdaa
