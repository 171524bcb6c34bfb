/- seneschalref2.Sum is SHA-256. -/
import Derived.Test.YtkcmnhmbpamehaaBlk
import Derived.Test.YtkcmnhmbpamehaaSum
namespace Go.Proofs.Ytkcmnhmbpamehaa
open Go.RowKit

theorem u8row : Row3 Try.prog 5 (.int .u8 0) 1 1 := by unfold Row3; kernel_rfl
theorem one8 (l : List (BitVec 8)) : ∀ u ∈ l.map V8, u.oneCell' = true := fun u hu => by
  obtain ⟨x, _, rfl⟩ := List.mem_map.1 hu
  rfl
theorem rep_snoc (l : List (BitVec 8)) (j : Nat) : (l ++ List.replicate j 0).map V8 ++ [0].map V8 = (l ++ List.replicate (j + 1) 0).map V8 := by
  rw [← List.map_append, List.replicate_succ', List.append_assoc]
theorem byte_of2 (n j : Nat) (i : Int) (h : i + j = 7) : Value.int .u8 ((n : Int) * 8 / 2 ^ (8 * i).toNat % 256) = V8 (BitVec.ofNat 8 (8 * n / 2 ^ (8 * (7 - j)))) := by
  rw [show (8 * i).toNat = 8 * (7 - j) from by omega]
  exact byte_of n (7 - j)
theorem block_take (s : St) (l : List (BitVec 8)) : block s (l.take 64) = block s l :=
  block_congr s _ _ (fun i hi => by simp [List.getD_eq_getElem?_getD, hi])
/-- The digest's bytes, of which the first k are laid. -/
def outc (s : St) (k : Nat) : List (BitVec 8) := s.bytes.take k ++ List.replicate (32 - k) 0
theorem bytes_get (s : St) (q r : Nat) (hq : q < 8) (hr : r < 4) : s.bytes.getD (4 * q + r) 0 = (s.list.getD q 0 >>> (24 - 8 * r)).setWidth 8 :=
  match q, hq with
  | 0, _ => (match r, hr with | 0, _ => rfl | 1, _ => rfl | 2, _ => rfl | 3, _ => rfl)
  | 1, _ => (match r, hr with | 0, _ => rfl | 1, _ => rfl | 2, _ => rfl | 3, _ => rfl)
  | 2, _ => (match r, hr with | 0, _ => rfl | 1, _ => rfl | 2, _ => rfl | 3, _ => rfl)
  | 3, _ => (match r, hr with | 0, _ => rfl | 1, _ => rfl | 2, _ => rfl | 3, _ => rfl)
  | 4, _ => (match r, hr with | 0, _ => rfl | 1, _ => rfl | 2, _ => rfl | 3, _ => rfl)
  | 5, _ => (match r, hr with | 0, _ => rfl | 1, _ => rfl | 2, _ => rfl | 3, _ => rfl)
  | 6, _ => (match r, hr with | 0, _ => rfl | 1, _ => rfl | 2, _ => rfl | 3, _ => rfl)
  | 7, _ => (match r, hr with | 0, _ => rfl | 1, _ => rfl | 2, _ => rfl | 3, _ => rfl)
theorem outc_step (s : St) (k : Nat) (hk : k < 32) : (outc s k).set k ((s.list.getD (k / 4) 0 >>> (24 - 8 * (k % 4))).setWidth 8) = outc s (k + 1) := by
  have hb := bytes_get s (k / 4) (k % 4) (by omega) (by omega)
  rw [show 4 * (k / 4) + k % 4 = k from by omega] at hb
  rw [← hb]
  have hl : k < s.bytes.length := by rw [St.bytes_length]; exact hk
  unfold outc
  obtain ⟨m, hm⟩ : ∃ m, 32 - k = m + 1 := ⟨31 - k, by omega⟩
  have htl : (s.bytes.take k).length = k := by rw [List.length_take]; omega
  rw [List.set_append_right _ _ (by omega), htl, Nat.sub_self, hm, List.replicate_succ, List.set_cons_zero, show 32 - (k + 1) = m by omega, List.take_succ_eq_append_getElem hl]
  have hg : s.bytes.getD k 0 = s.bytes[k] := by simp [List.getElem?_eq_getElem hl]
  rw [hg, List.append_assoc]
  rfl
theorem outc_length (s : St) (k : Nat) (hk : k ≤ 32) : (outc s k).length = 32 := by simp [outc, St.bytes_length]; omega
theorem outc_all (s : St) : outc s 32 = s.bytes := rfl
theorem padded_eq (l : List (BitVec 8)) : padded l = l ++ [0x80] ++ List.replicate (noughts l.length) 0 ++ be64 (8 * l.length) := rfl
theorem be64_take (N j : Nat) (hj : j < 8) : (be64 N).take (j + 1) = (be64 N).take j ++ [BitVec.ofNat 8 (N / 2 ^ (8 * (7 - j)))] := by
  have hl : (be64 N).length = 8 := by simp [be64]
  rw [List.take_succ_eq_append_getElem (by omega)]
  congr 2
  have := be64_getD N j hj
  simpa [List.getD_eq_getElem?_getD, List.getElem?_eq_getElem (show j < (be64 N).length by omega)] using this

set_option maxRecDepth 100000 in
set_option maxHeartbeats 1000000 in
theorem RSum_any (w : World) (n c : Nat) (A : Option Addr) (l : List (BitVec 8)) (hb : Bytes w w.heap.size A n l) (hn2 : n ≤ 140737488350000) :
    Calls Try.prog 29 #[.slice A n c] w fun e w' => e = .returned (.agg (hv (sha l))) ∧ Grow w noOwn w' := by
  have hM := Mem.nil w noOwn
  have hll := Bytes.len hb
  have HLL := hide hll
  clear hll
  have hmx : n + 100 ≤ maxLen := by unfold maxLen; omega
  unfold maxLen at hmx
  go_enter Try.func29, Try.ntmps29
  go_wp2_with (first
    | (refine wpList_alloc_mem hM rfl 26 rfl _ zero32 ?_; clear hM; intro g2 w2 hM)
    | (refine wpList_buildSlice_row rfl 22 0 _ rfl hM 5 Try.underlying22 _ 1 1 u8row (by decide) (by decide) [] (by kernel_rfl) rfl ?_; clear hM; intro g11 w11 hM)
    | (refine wpList_append_row rfl (.tmp 11) (.tmp 12) 22 rfl hM 0 _ 5 1 0 [] rfl rfl Try.underlying22 _ 1 u8row rfl (by decide) w.heap.size A n c (l.map V8) rfl (hM.reads hb (Nat.le_refl _) (fun _ _ e => e)) (one8 l) (by simp only [maxLen]; omega) (by omega) n (Nat.zero_add _) (l.map V8) rfl ?_; clear hM; intro A13 c13 w13 hM)
    | (refine wpList_buildSlice_row rfl 22 1 _ rfl hM 5 Try.underlying22 _ 1 1 u8row (by decide) (by decide) ([0x80].map V8) (by kernel_rfl) rfl ?_; clear hM; intro g14 w14 hM)
    | (refine wpList_append_row rfl (.tmp 13) (.tmp 14) 22 rfl hM 1 _ 5 1 n (l.map V8) rfl rfl Try.underlying22 _ 1 u8row rfl (by decide) _ _ 1 1 ([0x80].map V8) rfl (Reads.of_own (hM.row 0 rfl)) (one8 _) (by simp only [maxLen]; omega) (by omega) (n + 1) rfl ((l ++ [0x80]).map V8) (List.map_append).symm ?_; clear hM; intro A15 c15 w15 hM; replace hM := hM.tail))
  go_loopw [3] (fun v wr => ∃ (j N : Nat) (A' : Option Addr) (c' : Nat), Hid (N = n + 1 + j) ∧ j ≤ noughts n ∧ v = .slice A' N c' ∧ Mem w noOwn wr [.row (.slice A' N c') 5 1 N ((l ++ [0x80] ++ List.replicate j 0).map V8), .blk g2 26 (hv (List.replicate 32 0))]) (fun v _ => n + 100 - slen v)
  case atStart => exact ⟨0, n + 1, A15, c15, hide rfl, by omega, rfl, by simpa using hM⟩
  case round =>
    clear hM
    obtain ⟨j, N, A', c', HN, hj, rfl, hM⟩ := hrel
    have hno : noughts n < 64 := by unfold noughts; omega
    have hN1 : N ≤ n + 65 := by rw [unhide HN]; omega
    have hN0 : n + 1 ≤ N := by rw [unhide HN]; omega
    by_cases hlt : j < noughts n
    · have htest : ((N : Int) % 64 != 56) = true := by
        rw [bne_iff_ne]
        have h1 := unhide HN
        unfold noughts at hlt
        omega
      have HN2 := hide (show N + 1 = n + 1 + (j + 1) from by rw [unhide HN]; omega)
      go_wp2_with (first
        | (refine wpList_buildSlice_row rfl 22 1 _ rfl hM 5 Try.underlying22 _ 1 1 u8row (by decide) (by decide) ([0].map V8) (by kernel_rfl) rfl ?_; clear hM; intro g21 w21 hM)
        | (refine wpList_append_row rfl (.tmp 20) (.tmp 21) 22 rfl hM 1 _ 5 1 N _ rfl rfl Try.underlying22 _ 1 u8row rfl (by decide) _ _ 1 1 ([0].map V8) rfl (Reads.of_own (hM.row 0 rfl)) (one8 _) (by simp only [maxLen]; omega) (by omega) (N + 1) rfl ((l ++ [0x80] ++ List.replicate (j + 1) 0).map V8) (rep_snoc _ _) ?_; clear hM; intro A22 c22 w22 hM; replace hM := hM.tail))
      go_roundw
      case rel => exact ⟨j + 1, N + 1, A22, c22, HN2, by omega, rfl, hM⟩
      case measure => simp [slen]; omega
    · have hjn : j = noughts n := by omega
      have htest : ((N : Int) % 64 != 56) = false := by
        rw [bne_eq_false_iff_eq]
        have h1 := unhide HN
        unfold noughts at hjn
        omega
      have HJ := hide hjn
      clear hjn
      go_wp2_with fail
      obtain ⟨P, hP⟩ : ∃ P, P = l ++ [0x80] ++ List.replicate j 0 := ⟨_, rfl⟩
      have hPl : P.length = N := by rw [hP, unhide HN]; simp [unhide HLL]; omega
      rw [← hP] at hM
      have HP := hide hP
      clear hP htest
      obtain ⟨N0, hN0'⟩ : ∃ N0, N0 = N := ⟨_, rfl⟩
      rw [← hN0'] at hM hPl hN1 hN0 HN ⊢
      have HPl := hide hPl
      clear hPl hN0'
      obtain ⟨wo, rfl⟩ : ∃ wo : World, wo = wr := ⟨_, rfl⟩
      go_loopw [3, 5] (fun v iv wr => ∃ (j N : Nat) (A' : Option Addr) (c' : Nat) (i : Int), Hid (N = N0 + j) ∧ j ≤ 8 ∧ N ≤ n + 80 ∧ v = .slice A' N c' ∧ iv = .int .i64 i ∧ i + j = 7 ∧ Mem w noOwn wr [.row (.slice A' N c') 5 1 N ((P ++ (be64 (8 * n)).take j).map V8), .blk g2 26 (hv (List.replicate 32 0))]) (fun v _ _ => n + 100 - slen v)
      case atStart => exact ⟨0, N0, A', c', 7, hide rfl, by omega, by omega, rfl, rfl, by omega, by simpa using hM⟩
      case round =>
        clear hM
        obtain ⟨j, N, A', c', i, HN, hj, hNn, rfl, rfl, hij, hM⟩ := hrel
        by_cases hlt : j < 8
        · have hi0 : 0 ≤ i := by omega
          have hi7 : i ≤ 7 := by omega
          have Hij := hide hij
          clear hij
          have HN2 := hide (show N + 1 = N0 + (j + 1) from by rw [unhide HN]; omega)
          go_wp2_with (first
            | (refine wpList_buildSlice_row rfl 22 1 _ rfl hM 5 Try.underlying22 _ 1 1 u8row (by decide) (by decide) [.int .u8 ((n : Int) * 8 / 2 ^ (8 * i).toNat % 256)] (by kernel_rfl) rfl ?_; clear hM; intro g38 w38 hM; rw [byte_of2 n j i (unhide Hij)] at hM)
            | (refine wpList_append_row rfl (.tmp 31) (.tmp 38) 22 rfl hM 1 _ 5 1 N _ rfl rfl Try.underlying22 _ 1 u8row rfl (by decide) _ _ 1 1 ([BitVec.ofNat 8 (8 * n / 2 ^ (8 * (7 - j)))].map V8) rfl (Reads.of_own (hM.row 0 rfl)) (one8 _) (by simp only [maxLen]; omega) (by omega) (N + 1) rfl ((P ++ (be64 (8 * n)).take (j + 1)).map V8) (by rw [← List.map_append, be64_take _ _ hlt, List.append_assoc]) ?_; clear hM; intro A39 c39 w39 hM; replace hM := hM.tail))
          go_roundw
          case rel => exact ⟨j + 1, N + 1, A39, c39, i - 1, HN2, by omega, by have := unhide HN; omega, rfl, rfl, by have := unhide Hij; omega, hM⟩
          case measure => simp [slen]; have := unhide HN; omega
        · obtain rfl : j = 8 := by omega
          have hi0 : i < 0 := by omega
          have hi1 : decide (0 ≤ i) = false := by simp; omega
          have hpad : P ++ (be64 (8 * n)).take 8 = padded l := by
            rw [unhide HP, unhide HJ, padded_eq, unhide HLL, List.take_of_length_le (by simp [be64])]
          rw [hpad] at hM
          have hNl : (padded l).length = N := by
            have h1 := unhide HPl
            have h2 : (P ++ (be64 (8 * n)).take 8).length = N0 + 8 := by rw [List.length_append, h1]; simp [be64]
            rw [hpad] at h2
            rw [h2, unhide HN]
          have hN64 : N = 64 * (N / 64) := by
            have h1 := padded_length l
            rw [hNl, unhide HLL] at h1
            unfold noughts at h1
            omega
          have HNl := hide hNl
          have HN64 := hide hN64
          clear hpad hNl hN64 hij
          obtain ⟨wo, rfl⟩ : ∃ wo : World, wo = wr := ⟨_, rfl⟩
          go_wp2_with (first
            | (go_at_call 42; refine (refk_any _).mono ?_; rintro e w1 ⟨rfl, hg⟩; replace hM := hM.call hg; clear hg)
            | (refine wpList_build_to rfl 70 _ rfl (vals St.start.list) (by kernel_rfl) ?_)
            | (refine wpList_alloc_mem hM rfl 70 rfl _ zero8r ?_; clear hM; intro g6 w6 hM)
            | (refine wpList_store_mem rfl 70 _ _ rfl hM 0 _ _ _ (vals St.start.list) rfl rfl rfl (size8r _) (vals_zero8_size.trans (vals_list_size _).symm) (oneCells _) ?_; clear hM; intro w7 hM _)
            | (refine wpList_alloc_mem hM rfl 72 rfl _ zero64 ?_; clear hM; intro g7 w8 hM)
            | (refine wpList_store_mem rfl 72 _ _ rfl hM 0 _ _ _ (vals K64) rfl rfl rfl size64 rfl (oneCells _) ?_; clear hM; intro w9 hM _))
          go_loopw [8] (fun iv wr => ∃ k a : Nat, Hid (a = 64 * k) ∧ a ≤ N ∧ iv = .int .i64 a ∧ Mem w noOwn wr [.blk g7 72 (vals K64), .blk g6 70 (vals (blocks (padded l) St.start k).list), .row (.slice A' N c') 5 1 N ((padded l).map V8), .blk g2 26 (hv (List.replicate 32 0))]) (fun iv _ => n + 100 - (intOf iv).toNat)
          case atStart => exact ⟨0, 0, hide rfl, by omega, rfl, hM⟩
          case round =>
            clear hM
            obtain ⟨k, a, Ha, haN, rfl, hM⟩ := hrel
            by_cases hlt : a < N
            · have ha64 : a + 64 ≤ N := by have := unhide Ha; have := unhide HN64; omega
              obtain ⟨g3, hA3, hg3⟩ := row_some (hM.row 2 rfl) (by omega)
              have hcap := (row_cap (hM.row 2 rfl)).1
              have hca : ¬ c' = a := by omega
              have hrd : Bytes wr wr.heap.size A' N (padded l) := Reads.of_own (hM.row 2 rfl)
              subst hA3
              obtain ⟨S, hS⟩ : ∃ S, S = blocks (padded l) St.start k := ⟨_, rfl⟩
              have hbt := (Bytes.cut hrd (show a ≤ N by omega) hcap).take (show 64 ≤ N - a by omega)
              rw [if_neg hca, Nat.zero_add] at hbt
              have hnx : block S (((padded l).drop a).take 64) = blocks (padded l) St.start (k + 1) := by rw [block_take, hS, unhide Ha]; rfl
              rw [← hS] at hM
              have HNX := hide hnx
              have H := hide (fun cc => block_any wr.drew g7 cc 64 _ _ S _ (hM.drew.blk 0 rfl) hbt (Nat.le_refl _) (by omega))
              have HA2 := hide (show a + 64 = 64 * (k + 1) from by rw [unhide Ha]; omega)
              clear hS hnx hrd hbt
              go_wp2_with fail
              refine wp_region_still_tail 6 (by kernel_rfl) (by kernel_rfl) ?_
              simp only [List.take_succ_cons, List.take_zero, List.drop_succ_cons, List.drop_zero]
              refine wpStill_load_blk rfl 70 _ rfl g6 _ (vals S.list) (hM.drew.blk 1 rfl) rfl (.array 8 69) (by kernel_rfl) rfl (size8r S) ?_
              simp only [Act.put, List.setIfInBounds_toArray, List.set_cons_succ, List.set_cons_zero]
              repeat (refine wpStill_step (fun K hK => ?_); go_simp; (try go_bits); (try (go_ite <;> go_prune <;> (try go_simp) <;> (try go_bits))); refine hK _ ?_; clear hK K)
              refine wpStill_nil ?_
              change wpList _ _ _ _ _ wr.drew
              replace hM := hM.drew
              go_wp2_with (first
                | (go_at_call 43; refine ((unhide H) _).mono ?_; rintro e1 w1 ⟨rfl, hg⟩; replace hM := hM.call hg; clear hg)
                | (refine wpList_store_mem rfl 70 _ _ rfl hM 1 _ _ _ (vals (block S (((padded l).drop a).take 64)).list) rfl rfl rfl (size8r _) ((vals_list_size _).trans (vals_list_size _).symm) (oneCells _) ?_; clear hM; intro w2 hM _))
              rw [unhide HNX] at hM
              go_roundw
              case rel => exact ⟨k + 1, a + 64, HA2, ha64, by go_num, hM⟩
              case measure => simp [intOf]; omega
            · obtain rfl : a = N := by omega
              obtain ⟨S, hS⟩ : ∃ S, S = blocks (padded l) St.start k := ⟨_, rfl⟩
              rw [← hS] at hM
              have hsh : S.bytes = sha l := by
                have hk : (padded l).length / 64 = k := by rw [unhide HNl, unhide Ha]; omega
                rw [hS, sha_eq, hk]
              have HSH := hide hsh
              clear hS hsh
              have hz32 : hv (List.replicate 32 0) = hv (outc S 0) := rfl
              go_wp2_with (first
                | (refine wpList_alloc_mem hM rfl 26 rfl _ zero32 ?_; clear hM; intro g9 w9 hM))
              rw [hz32] at hM
              clear hz32
              obtain ⟨wo, rfl⟩ : ∃ wo : World, wo = wr := ⟨_, rfl⟩
              go_loopw [10] (fun iv wr => ∃ k : Nat, k ≤ 32 ∧ iv = .int .i64 k ∧ Mem w noOwn wr [.blk g9 26 (hv (outc S k)), .blk g7 72 (vals K64), .blk g6 70 (vals S.list), .row (.slice A' a c') 5 1 a ((padded l).map V8), .blk g2 26 (hv (List.replicate 32 0))]) (fun iv _ => 32 - (intOf iv).toNat)
              case atStart => exact ⟨0, by omega, rfl, hM⟩
              case round =>
                clear hM
                obtain ⟨k, hk32, rfl, hM⟩ := hrel
                by_cases hlt : k < 32
                · have c0 : wr.cell? ⟨g9, k, none⟩ = some (V8 ((outc S k).getD k 0)) := (hM.cell 0 rfl k).trans (hv_get _ _ (by rw [outc_length _ _ hk32]; exact hlt))
                  have f0 := hM.frozen 0 rfl k
                  have c1 : wr.cell? ⟨g6, k / 4, none⟩ = some (V32 (S.list.getD (k / 4) 0)) := (hM.cell 2 rfl (k / 4)).trans (vals_get _ _ (by show k / 4 < 8; omega))
                  have hsr : ∀ (t : TypeId) (x : BitVec 32), binOp .shr t (V32 x) (.int .u64 (24 - 8 * ((k : Int) % 4))) = pure (V32 (x >>> (24 - 8 * (k % 4)))) := fun t x => by
                    rw [V32_shr t x .u64 _ (by omega) (by omega), show (24 - 8 * ((k : Int) % 4)).toNat = 24 - 8 * (k % 4) from by omega]
                  have hM1 := hM.set 0 rfl k (V8 ((S.list.getD (k / 4) 0 >>> (24 - 8 * (k % 4))).setWidth 8))
                  rw [hv_set, outc_step S k hlt] at hM1
                  have HM1 := hide hM1
                  clear hM1
                  go_wp2_with fail
                  go_roundw
                  case rel => exact ⟨k + 1, by omega, by go_num, unhide HM1⟩
                  case measure => simp [intOf]; omega
                · obtain rfl : k = 32 := by omega
                  have hfin : hv (outc S 32) = hv (sha l) := by rw [outc_all, unhide HSH]
                  rw [hfin] at hM
                  clear hfin
                  go_wp2_with (first
                    | (refine wpList_load_mem rfl 26 _ rfl hM 0 _ _ _ rfl rfl (.array 32 5) (by kernel_rfl) rfl (size32 _ (sha_length l)) ?_)
                    | (refine wpList_store_mem rfl 26 _ _ rfl hM 4 _ _ _ (hv (sha l)) rfl rfl rfl (size32 _ (sha_length l)) (by rw [hv_size, hv_size, sha_length]; rfl) (oneCells8 _) ?_; clear hM; intro w14 hM _))
                  exact bodyPost_row rfl rfl _ _ _ (hM.blk 4 rfl) rfl (.array 32 5) (by kernel_rfl) rfl (size32 _ (sha_length l)) ⟨rfl, hM.grow⟩
end Go.Proofs.Ytkcmnhmbpamehaa
