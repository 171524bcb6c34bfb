/- HMAC: digest's own and the reference's. -/
import Derived.Test.YtkcmnhmbpamehaaLinkR
namespace Go.Proofs.Ytkcmnhmbpamehaa
open Go.RowKit

theorem zero64b : ((Try.prog.info? 130).bind (·.zero)).map (·.cells) = some (hv (List.replicate 64 0)) := by kernel_rfl
theorem size64b (l : List (BitVec 8)) (h : l.length = 64) : (Try.prog.info? 130).map (·.size) = some (hv l).size := by
  rw [hv_size, h]; kernel_rfl
theorem map_take_snoc (f : BitVec 8 → BitVec 8) (l : List (BitVec 8)) (k : Nat) (hk : k < l.length) : ((l.take k).map f).map V8 ++ [f (l.getD k 0)].map V8 = ((l.take (k + 1)).map f).map V8 := by
  have hg : l.getD k 0 = l[k] := by simp [List.getElem?_eq_getElem hk]
  rw [hg, List.take_succ_eq_append_getElem hk, List.map_append, List.map_append]
  rfl

set_option maxRecDepth 100000 in
set_option maxHeartbeats 1000000 in
theorem Mac1_any (w : World) (mark : BitVec 8) (n c g0 : Nat) (A : Option Addr) (T : TypeId) (key p : List (BitVec 8)) (hk : Blk w g0 T (hv key)) (hkl : key.length = 64) (hb : Bytes w w.heap.size A n p) (hn2 : n ≤ 140737488350000) :
    Calls Try.prog 95 #[V8 mark, .slice A n c, .pointer (some ⟨g0, 0, none⟩)] w fun e w' => e = .returned (.agg (hv (sha (key.map (· ^^^ mark) ++ p)))) ∧ Grow w noOwn w' := by
  have hM := Mem.nil w noOwn
  have hload : w.heap[g0]? = some (.cells (hv key) T (0, 0)) := hk
  have HK := hide hk
  have HKL := hide hkl
  clear hk hkl
  go_enter Try.func95, Try.ntmps95
  go_wp2_with (first
    | (refine wpList_alloc_mem hM rfl 26 rfl _ zero32 ?_; clear hM; intro g5 w5 hM)
    | (refine wpList_make_row rfl 22 _ _ rfl hM 5 Try.underlying22 _ 1 u8row rfl .i64 .i64 0 (64 + n) _ _ rfl rfl (by omega) (by omega) (by omega) (by omega) (by simp only [maxLen]; omega) ?_; clear hM; intro g6 w6 hM)
    | (refine wpList_load_row rfl 130 _ rfl g0 rfl T (hv key) (0, 0) (.array 64 5) (hM.old (unhide HK) (fun e => e)) (by kernel_rfl) rfl (size64b _ (unhide HKL)) ?_))
  clear hload
  go_loopw [6, 14] (fun v iv wr => ∃ (k : Nat) (A' : Option Addr) (c' : Nat), k ≤ 64 ∧ iv = .int .i64 k ∧ v = .slice A' k c' ∧ Mem w noOwn wr [.row (.slice A' k c') 5 1 k (((key.take k).map (· ^^^ mark)).map V8), .blk g5 26 (hv (List.replicate 32 0))]) (fun _ iv _ => 64 - (intOf iv).toNat)
  case atStart => exact ⟨0, _, 64 + n, by omega, rfl, rfl, by simpa using hM⟩
  case round =>
    clear hM
    obtain ⟨k, A', c', hk64, rfl, rfl, hM⟩ := hrel
    by_cases hlt : k < 64
    · have hix := fun w => run_index_agg Try.prog 130 5 64 (by kernel_rfl) (by kernel_rfl) .u8 (by kernel_rfl) (hv key) k (V8 (key.getD k 0)) (hv_get _ _ (by rw [unhide HKL]; exact hlt)) hlt w
      go_wp2_with (first
        | (refine wpList_buildSlice_row rfl 22 1 _ rfl hM 5 Try.underlying22 _ 1 1 u8row (by decide) (by decide) ([key.getD k 0 ^^^ mark].map V8) (by kernel_rfl) rfl ?_; clear hM; intro g21 w21 hM)
        | (refine wpList_append_row rfl (.tmp 17) (.tmp 21) 22 rfl hM 1 _ 5 1 k _ rfl rfl Try.underlying22 _ 1 u8row rfl (by decide) _ _ 1 1 ([key.getD k 0 ^^^ mark].map V8) rfl (Reads.of_own (hM.row 0 rfl)) (one8 _) (by simp only [maxLen]; omega) (by omega) (k + 1) rfl (((key.take (k + 1)).map (· ^^^ mark)).map V8) (map_take_snoc (· ^^^ mark) key k (by rw [unhide HKL]; exact hlt)) ?_; clear hM; intro A22 c22 w22 hM; replace hM := hM.tail))
      go_roundw
      case rel => exact ⟨k + 1, A22, c22, by omega, by go_num, rfl, hM⟩
      case measure => simp [intOf]; omega
    · obtain rfl : k = 64 := by omega
      have ht : key.take 64 = key := List.take_of_length_le (by rw [unhide HKL]; exact Nat.le_refl _)
      rw [ht] at hM
      clear ht
      go_wp2_with (first
        | (refine wpList_append_row rfl (.tmp 24) (.tmp 25) 22 rfl hM 0 _ 5 1 64 _ rfl rfl Try.underlying22 _ 1 u8row rfl (by decide) w.heap.size A n c (p.map V8) rfl (hM.reads hb (Nat.le_refl _) (fun _ _ e => e)) (one8 _) (by simp only [maxLen]; omega) (by omega) (64 + n) rfl ((key.map (· ^^^ mark) ++ p).map V8) (List.map_append).symm ?_; clear hM; intro A26 c26 w26 hM)
        | (go_at_call 25; refine (Sum_any _ _ _ _ (key.map (· ^^^ mark) ++ p) (Reads.of_own (hM.row 0 rfl)) (row_cap (hM.row 0 rfl)).1 (by omega)).mono ?_; rintro e1 w27 ⟨rfl, hg⟩; replace hM := hM.call hg; clear hg)
        | (refine wpList_store_mem rfl 26 _ _ rfl hM 1 _ _ _ (hv (sha (key.map (· ^^^ mark) ++ p))) rfl rfl rfl (size32 _ (sha_length _)) (hvz _ (sha_length _)) (oneCells8 _) ?_; clear hM; intro w28 hM _))
      exact bodyPost_row rfl rfl _ _ _ (hM.blk 1 rfl) rfl (.array 32 5) (by kernel_rfl) rfl (size32 _ (sha_length _)) ⟨rfl, hM.grow⟩

theorem splice_key (k : List (BitVec 8)) (_h : k.length ≤ 64) : (splice (hv (List.replicate 64 0)).toList 0 (k.map V8)).toArray = hv (k ++ List.replicate (64 - k.length) 0) := by
  unfold splice hv
  simp only [List.take_zero, List.nil_append, List.map_append, List.length_map, Nat.zero_add, List.map_replicate, List.drop_replicate]
theorem key64_length (key : List (BitVec 8)) : (key64 key).length = 64 := by
  unfold key64
  by_cases h : key.length > 64
  · simp [h, sha_length]
  · simp [h]; omega
theorem key64_long (key : List (BitVec 8)) (h : 64 < key.length) : sha key ++ List.replicate (64 - (sha key).length) 0 = key64 key := by unfold key64; simp [h]
theorem key64_short (key : List (BitVec 8)) (h : key.length ≤ 64) : key ++ List.replicate (64 - key.length) 0 = key64 key := by unfold key64; simp [show ¬ 64 < key.length by omega]

set_option maxRecDepth 100000 in
set_option maxHeartbeats 1000000 in
theorem Mac_any (w : World) (n1 c1 n c : Nat) (A1 A : Option Addr) (key p : List (BitVec 8)) (hk : Bytes w w.heap.size A1 n1 key) (hc1 : n1 ≤ c1) (hn1 : n1 ≤ 140737488340000) (hb : Bytes w w.heap.size A n p) (hn2 : n ≤ 140737488340000) :
    Calls Try.prog 93 #[.slice A1 n1 c1, .slice A n c] w fun e w' => e = .returned (.agg (hv (mac key p))) ∧ Grow w noOwn w' := by
  have hM := Mem.nil w noOwn
  have hkl := Bytes.len hk
  have HKL := hide hkl
  clear hkl
  have tok1 : True := trivial
  by_cases h64 : 64 < n1
  · go_enter Try.func93, Try.ntmps93
    go_wp2_with (first
      | (refine wpList_alloc_mem hM rfl 130 rfl _ zero64b ?_; clear hM; intro g5 w5 hM)
      | (have _t := tok1; refine wpList_alloc_mem hM rfl 26 rfl _ zero32 ?_; clear hM tok1; intro g4 w4 hM)
      | (go_at_call 25; refine (Sum_any _ _ _ _ key (Bytes.more (hM.reads hk (Nat.le_refl _) (fun _ _ e => e)) hM.grow.size) hc1 (by omega)).mono ?_; rintro e1 w8 ⟨rfl, hg⟩; replace hM := hM.call hg; clear hg)
      | (refine wpList_alloc_mem hM rfl 26 rfl _ zero32 ?_; clear hM; intro g6 w6 hM)
      | (refine wpList_store_mem rfl 26 _ _ rfl hM 0 _ _ _ (hv (sha key)) rfl rfl rfl (size32 _ (sha_length _)) (hvz _ (sha_length _)) (oneCells8 _) ?_; clear hM; intro w9 hM _)
      | (refine wpList_copy_mem rfl (.tmp 15) (.tmp 16) 22 22 rfl 5 (by kernel_rfl) (by kernel_rfl) hM 1 _ _ _ rfl 64 64 rfl (by rw [hv_size]; exact Nat.le_refl _) _ (some ⟨g6, 0, none⟩) 32 32 ((sha key).map V8) rfl ((hM.blk 0 rfl).bytes 0 32 (by rw [sha_length])) (one8 _) (by omega) ?_; clear hM; intro w10 hM; rw [splice_key _ (by rw [sha_length]; omega), key64_long key (by rw [unhide HKL]; exact h64)] at hM))
    have tok2 : True := trivial
    have tok3 : True := trivial
    go_wp2_with (first
      | (go_at_call 95; have _t := tok2; refine (Mac1_any _ 0x36 n c g5 A _ (key64 key) p (hM.blk 1 rfl) (key64_length _) (Bytes.more (hM.reads hb (Nat.le_refl _) (fun _ _ e => e)) hM.grow.size) (by omega)).mono ?_; clear tok2; rintro e2 w11 ⟨rfl, hg⟩; replace hM := hM.call hg; clear hg)
      | (refine wpList_alloc_mem hM rfl 26 rfl _ zero32 ?_; clear hM; intro g8 w12 hM)
      | (have _t := tok3; refine wpList_store_mem rfl 26 _ _ rfl hM 0 _ _ _ (hv (sha ((key64 key).map (· ^^^ 0x36) ++ p))) rfl rfl rfl (size32 _ (sha_length _)) (hvz _ (sha_length _)) (oneCells8 _) ?_; clear hM tok3; intro w13 hM _)
      | (go_at_call 95; refine (Mac1_any _ 0x5c 32 32 g5 (some ⟨g8, 0, none⟩) _ (key64 key) (sha ((key64 key).map (· ^^^ 0x36) ++ p)) (hM.blk 2 rfl) (key64_length _) ((hM.blk 0 rfl).bytes 0 32 (by rw [sha_length])) (by omega)).mono ?_; rintro e2 w14 ⟨rfl, hg⟩; replace hM := hM.call hg; clear hg)
      | (refine wpList_store_mem rfl 26 _ _ rfl hM 3 _ _ _ (hv (mac key p)) rfl rfl rfl (size32 _ (sha_length _)) (hvz _ (sha_length _)) (oneCells8 _) ?_; clear hM; intro w15 hM _))
    exact bodyPost_row rfl rfl _ _ _ (hM.blk 3 rfl) rfl (.array 32 5) (by kernel_rfl) rfl (size32 _ (sha_length _)) ⟨rfl, hM.grow⟩
  · go_enter Try.func93, Try.ntmps93
    go_wp2_with (first
      | (refine wpList_alloc_mem hM rfl 130 rfl _ zero64b ?_; clear hM; intro g5 w5 hM)
      | (have _t := tok1; refine wpList_alloc_mem hM rfl 26 rfl _ zero32 ?_; clear hM tok1; intro g4 w4 hM)
      | (refine wpList_copy_mem rfl (.tmp 15) (.tmp 16) 22 22 rfl 5 (by kernel_rfl) (by kernel_rfl) hM 0 _ _ _ rfl 64 64 rfl (by rw [hv_size]; exact Nat.le_refl _) _ A1 n1 c1 (key.map V8) rfl (hM.reads hk (Nat.le_refl _) (fun _ _ e => e)) (one8 _) (by omega) ?_; clear hM; intro w10 hM; rw [splice_key _ (by rw [unhide HKL]; omega), key64_short key (by rw [unhide HKL]; omega)] at hM))
    have tok2 : True := trivial
    have tok3 : True := trivial
    go_wp2_with (first
      | (go_at_call 95; have _t := tok2; refine (Mac1_any _ 0x36 n c g5 A _ (key64 key) p (hM.blk 0 rfl) (key64_length _) (Bytes.more (hM.reads hb (Nat.le_refl _) (fun _ _ e => e)) hM.grow.size) (by omega)).mono ?_; clear tok2; rintro e2 w11 ⟨rfl, hg⟩; replace hM := hM.call hg; clear hg)
      | (refine wpList_alloc_mem hM rfl 26 rfl _ zero32 ?_; clear hM; intro g8 w12 hM)
      | (have _t := tok3; refine wpList_store_mem rfl 26 _ _ rfl hM 0 _ _ _ (hv (sha ((key64 key).map (· ^^^ 0x36) ++ p))) rfl rfl rfl (size32 _ (sha_length _)) (hvz _ (sha_length _)) (oneCells8 _) ?_; clear hM tok3; intro w13 hM _)
      | (go_at_call 95; refine (Mac1_any _ 0x5c 32 32 g5 (some ⟨g8, 0, none⟩) _ (key64 key) (sha ((key64 key).map (· ^^^ 0x36) ++ p)) (hM.blk 1 rfl) (key64_length _) ((hM.blk 0 rfl).bytes 0 32 (by rw [sha_length])) (by omega)).mono ?_; rintro e2 w14 ⟨rfl, hg⟩; replace hM := hM.call hg; clear hg)
      | (refine wpList_store_mem rfl 26 _ _ rfl hM 2 _ _ _ (hv (mac key p)) rfl rfl rfl (size32 _ (sha_length _)) (hvz _ (sha_length _)) (oneCells8 _) ?_; clear hM; intro w15 hM _))
    exact bodyPost_row rfl rfl _ _ _ (hM.blk 2 rfl) rfl (.array 32 5) (by kernel_rfl) rfl (size32 _ (sha_length _)) ⟨rfl, hM.grow⟩
end Go.Proofs.Ytkcmnhmbpamehaa
