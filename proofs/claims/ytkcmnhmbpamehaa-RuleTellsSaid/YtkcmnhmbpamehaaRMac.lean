/- HMAC: the reference's. -/
import Derived.Test.YtkcmnhmbpamehaaMac
import Derived.RegionTactic
namespace Go.Proofs.Ytkcmnhmbpamehaa
open Go.RowKit

section
variable (t : TypeId) (a : BitVec 8) (n : Int)
theorem V8_of (h0 : 0 ≤ n) (h1 : n < 256) : Value.int .u8 n = V8 (BitVec.ofNat 8 n.toNat) := by
  obtain ⟨k, rfl⟩ := Int.eq_ofNat_of_zero_le h0
  exact V8_mk k (by omega)
@[go_sem] theorem V8_xor_lit (h0 : 0 ≤ n) (h1 : n < 256) : binOp .xor t (V8 a) (.int .u8 n) = pure (V8 (a ^^^ BitVec.ofNat 8 n.toNat)) := by rw [V8_of n h0 h1, V8_xor]
@[go_sem] theorem V8_and_lit (h0 : 0 ≤ n) (h1 : n < 256) : binOp .and t (V8 a) (.int .u8 n) = pure (V8 (a &&& BitVec.ofNat 8 n.toNat)) := by rw [V8_of n h0 h1, V8_and]
@[go_sem] theorem V8_eql_lit (h0 : 0 ≤ n) (h1 : n < 256) : binOp .eql t (V8 a) (.int .u8 n) = pure (.bool (a == BitVec.ofNat 8 n.toNat)) := by rw [V8_of n h0 h1, V8_eql]
end

def xorb (K : List (BitVec 8)) (mark : BitVec 8) (i : Nat) : List (BitVec 8) := (K.take i).map (· ^^^ mark) ++ List.replicate (64 - i) 0
theorem xorb_length (K : List (BitVec 8)) (mark : BitVec 8) (i : Nat) (hK : K.length = 64) (hi : i ≤ 64) : (xorb K mark i).length = 64 := by simp [xorb, hK]; omega
theorem xorb_set (K : List (BitVec 8)) (mark : BitVec 8) (i : Nat) (hK : K.length = 64) (hi : i < 64) : (xorb K mark i).set i (K.getD i 0 ^^^ mark) = xorb K mark (i + 1) := by
  unfold xorb
  have hl : i < K.length := by omega
  have hg : K.getD i 0 = K[i] := by simp [List.getElem?_eq_getElem hl]
  have htl : ((K.take i).map (· ^^^ mark)).length = i := by rw [List.length_map, List.length_take]; omega
  obtain ⟨m, hm⟩ : ∃ m, 64 - i = m + 1 := ⟨63 - i, by omega⟩
  rw [List.set_append_right _ _ (by omega), htl, Nat.sub_self, hm, List.replicate_succ, List.set_cons_zero, show 64 - (i + 1) = m by omega, List.take_succ_eq_append_getElem hl, hg, List.map_append, List.append_assoc]
  rfl
theorem xorb_all (K : List (BitVec 8)) (mark : BitVec 8) (hK : K.length = 64) : xorb K mark 64 = K.map (· ^^^ mark) := by
  unfold xorb; rw [List.take_of_length_le (by omega)]; simp
theorem Bytes.setCell {w : World} {B n : Nat} {A : Option Addr} {l : List (BitVec 8)} (h : Bytes w B A n l) {p : Addr} (hB : B ≤ p.block) (u : Value) : Bytes (w.setCell p u) B A n l := Reads.setCell h hB u
theorem made64 (w : World) : (Instr.makeSlice 22 (.int .i64 64) (.int .i64 64)).run Try.prog w = .ok (.slice (some ⟨w.heap.size, 0, none⟩) 64 64) (w.alloc (.cells (hv (List.replicate 64 0)) 5)) := by
  obtain ⟨ti, hti, hz0, hz1, hz2⟩ := info_parts u8row
  have hbb : (ti.bytes : Int) * 64 ≤ 281474976710656 := by rw [hz2]; decide
  have hrun := run_make (P := Try.prog) w 22 5 ti _ Try.underlying22 hti hz0 .i64 .i64 64 64 (by decide) (by decide) hbb (by decide)
  have hc : madeCells (Value.int .u8 0).cells 64 = hv (List.replicate 64 0) := by
    have h1 := toList_madeCells_one (.int .u8 0) 64
    have h2 : (hv (List.replicate 64 0)).toList = List.replicate 64 (.int .u8 0) := by unfold hv; rw [List.map_replicate]; rfl
    exact Array.ext' (h1.trans h2.symm)
  rw [hrun, hz1, ← hc]
  rfl
theorem Mem.swap {w0 w : World} {own : Nat → Prop} {L : List Item} {x y : Item} (h : Mem w0 own w (x :: y :: L)) : Mem w0 own w (y :: x :: L) := by
  refine ⟨h.grow, fun z hz => h.has z (by simp only [List.mem_cons] at hz ⊢; rcases hz with h1 | h1 | h1 <;> simp [h1]), ?_, fun z hz => h.mine z (by simp only [List.mem_cons] at hz ⊢; rcases hz with h1 | h1 | h1 <;> simp [h1])⟩
  have h1 := h.apart
  rw [List.pairwise_cons, List.pairwise_cons] at h1 ⊢
  obtain ⟨ha, hb, hc⟩ := h1
  refine ⟨fun z hz => ?_, fun z hz => ha z (List.mem_cons_of_mem _ hz), hc⟩
  rcases List.mem_cons.1 hz with rfl | hz
  · exact fun g e e2 => ha y (List.mem_cons_self) g e2 e
  · exact hb z hz

set_option maxRecDepth 100000 in
set_option maxHeartbeats 2000000 in
theorem RMac_any (w : World) (n1 c1 n c : Nat) (A1 A : Option Addr) (key p : List (BitVec 8)) (hk : Bytes w w.heap.size A1 n1 key) (hn1 : n1 ≤ 140737488340000) (hb : Bytes w w.heap.size A n p) (hn2 : n ≤ 140737488340000) :
    Calls Try.prog 39 #[.slice A1 n1 c1, .slice A n c] w fun e w' => e = .returned (.agg (hv (mac key p))) ∧ Grow w noOwn w' := by
  have hM := Mem.nil w noOwn
  have hkl := Bytes.len hk
  have HKL := hide hkl
  clear hkl
  have tok1 : True := trivial
  go_enter Try.func39, Try.ntmps39
  go_upto_if 13 with (have _t := tok1; refine wpList_alloc_mem hM rfl 26 rfl _ zero32 ?_; clear hM tok1; intro g4 w4 hM)
  go_cut [0] (fun v wx => ∃ (A' : Option Addr) (m c' : Nat) (key' : List (BitVec 8)), v = .slice A' m c' ∧ Bytes wx wx.heap.size A' m key' ∧ m ≤ 64 ∧ Hid (key' ++ List.replicate (64 - m) 0 = key64 key) ∧ Mem w noOwn wx [.blk g4 26 (hv (List.replicate 32 0))])
  case first =>
    by_cases h64 : 64 < n1
    · go_wp2_with (first
        | (go_at_call 29; refine (RSum_any _ _ _ _ key (Bytes.more (hM.reads hk (Nat.le_refl _) (fun _ _ e => e)) hM.grow.size) (by omega)).mono ?_; rintro e1 w8 ⟨rfl, hg⟩; replace hM := hM.call hg; clear hg)
        | (refine wpList_alloc_mem hM rfl 26 rfl _ zero32 ?_; clear hM; intro g6 w6 hM)
        | (refine wpList_store_mem rfl 26 _ _ rfl hM 0 _ _ _ (hv (sha key)) rfl rfl rfl (size32 _ (sha_length _)) (hvz _ (sha_length _)) (oneCells8 _) ?_; clear hM; intro w9 hM _))
      go_meet
      exact ⟨_, 32, 32, sha key, rfl, (hM.blk 0 rfl).bytes 0 32 (by rw [sha_length]), by omega, hide (by have h := key64_long key (by rw [unhide HKL]; exact h64); rw [sha_length] at h; exact h), hM.tail⟩
    · go_wp2_with fail
      go_meet
      exact ⟨A1, n1, c1, key, rfl, Bytes.more (hM.reads hk (Nat.le_refl _) (fun _ _ e => e)) hM.grow.size, by omega, hide (by have h := key64_short key (by rw [unhide HKL]; omega); rw [unhide HKL] at h; exact h), hM⟩
  case rest =>
    clear hM
    obtain ⟨A', m, c', key', rfl, hb', hm, HK, hM⟩ := hcut
    obtain ⟨BX, hBX⟩ : ∃ BX, BX = wc.heap.size := ⟨_, rfl⟩
    have HBX := hide hBX
    clear hBX
    go_upto_region 4 with fail
    go_cut [6, 7] (fun s6 s7 wy => ∃ g6 g7 : Nat, s6 = .slice (some ⟨g6, 0, none⟩) 64 64 ∧ s7 = .slice (some ⟨g7, 0, none⟩) 64 64 ∧ BX ≤ g6 ∧ BX ≤ g7 ∧ Bytes wy BX A' m key' ∧
      Mem w noOwn wy [.blk g7 5 (hv (List.replicate 64 0)), .blk g6 5 (hv (List.replicate 64 0)), .blk g4 26 (hv (List.replicate 32 0))])
    case first =>
      have hmk := made64
      go_region
      all_goals
        go_wp2_with fail
        go_meet
        have h2 := ((hM.alloc 5 (hv (List.replicate 64 0))).alloc 5 (hv (List.replicate 64 0))).drew
        have hb2 := (Reads.alloc (Reads.alloc hb' (Nat.le_refl _) (.cells (hv (List.replicate 64 0)) 5)) (by simp) (.cells (hv (List.replicate 64 0)) 5)).drew
        rw [World.size_alloc] at h2
      · exact ⟨wc.heap.size, wc.heap.size + 1, rfl, rfl, by rw [unhide HBX]; omega, by rw [unhide HBX]; omega, by rw [unhide HBX]; exact hb2, h2⟩
      · exact ⟨wc.heap.size + 1, wc.heap.size, rfl, rfl, by rw [unhide HBX]; omega, by rw [unhide HBX]; omega, by rw [unhide HBX]; exact hb2, h2.swap⟩
    case rest =>
      clear hM
      obtain ⟨wo, rfl⟩ : ∃ wo : World, wo = wc := ⟨_, rfl⟩
      obtain ⟨g6, g7, rfl, rfl, hg6, hg7, hb'', hM⟩ := hcut
      have hK64 := key64_length key
      have HK64 := hide hK64
      clear hK64
      go_wp2_with fail
      go_loopw [8] (fun iv wr => ∃ i : Nat, i ≤ 64 ∧ iv = .int .i64 i ∧ Bytes wr BX A' m key' ∧ Mem w noOwn wr [.blk g7 5 (hv (xorb (key64 key) 0x36 i)), .blk g6 5 (hv (xorb (key64 key) 0x5c i)), .blk g4 26 (hv (List.replicate 32 0))]) (fun iv _ => 64 - (intOf iv).toNat)
      case atStart => exact ⟨0, by omega, rfl, hb'', by simpa [xorb] using hM⟩
      case round =>
        clear hM
        obtain ⟨i, hi64, rfl, hbi, hM⟩ := hrel
        have hkl := Bytes.len hbi
        have hKi : ∀ j, (key64 key).getD j 0 = if j < m then key'.getD j 0 else 0 := by
          intro j
          rw [← unhide HK]
          simp only [List.getD_eq_getElem?_getD, List.getElem?_append, hkl, List.getElem?_replicate]
          by_cases h : j < m
          · simp [h]
          · by_cases h2 : j - m < 64 - m <;> simp [h, h2]
        have HKI := hide hKi
        clear hKi hkl
        by_cases hlt : i < 64
        · have hne : ¬ g6 = g7 := fun e => hM.ne 0 1 rfl rfl (by decide) rfl (by rw [← e]; rfl)
          have c6 : wr.cell? ⟨g6, i, none⟩ = some (V8 ((xorb (key64 key) 0x5c i).getD i 0)) := (hM.cell 1 rfl i).trans (hv_get _ _ (by rw [xorb_length _ _ _ (unhide HK64) hi64]; exact hlt))
          have c7 : wr.cell? ⟨g7, i, none⟩ = some (V8 ((xorb (key64 key) 0x36 i).getD i 0)) := (hM.cell 0 rfl i).trans (hv_get _ _ (by rw [xorb_length _ _ _ (unhide HK64) hi64]; exact hlt))
          have f6 := hM.frozen 1 rfl i
          have f7 := hM.frozen 0 rfl i
          by_cases him : i < m
          · obtain ⟨b, off, rfl, hbB, hcell⟩ := hbi.form (by omega)
            have ck := hcell i him
            have hki : (key64 key).getD i 0 = key'.getD i 0 := by rw [unhide HKI, if_pos him]
            have hM1 := (hM.set 1 rfl i (V8 (key'.getD i 0 ^^^ 0x5c))).set 0 rfl i (V8 (key'.getD i 0 ^^^ 0x36))
            rw [hv_set, hv_set, ← hki, xorb_set _ _ _ (unhide HK64) hlt, xorb_set _ _ _ (unhide HK64) hlt, hki] at hM1
            have HM1 := hide hM1
            have HB1 := hide ((hbi.setCell (p := ⟨g6, i, none⟩) hg6 (V8 (key'.getD i 0 ^^^ 0x5c))).setCell (p := ⟨g7, i, none⟩) hg7 (V8 (key'.getD i 0 ^^^ 0x36)))
            clear hM1 hki hcell
            go_wp2_with fail
            go_roundw
            case rel => exact ⟨i + 1, by omega, by go_num, unhide HB1, unhide HM1⟩
            case measure => simp [intOf]; omega
          · have hki : (key64 key).getD i 0 = 0 := by rw [unhide HKI, if_neg him]
            have hM1 := (hM.set 1 rfl i (V8 (0 ^^^ 0x5c))).set 0 rfl i (V8 (0 ^^^ 0x36))
            rw [hv_set, hv_set, ← hki, xorb_set _ _ _ (unhide HK64) hlt, xorb_set _ _ _ (unhide HK64) hlt, hki] at hM1
            have HM1 := hide hM1
            have HB1 := hide ((hbi.setCell (p := ⟨g6, i, none⟩) hg6 (V8 (0 ^^^ 0x5c))).setCell (p := ⟨g7, i, none⟩) hg7 (V8 (0 ^^^ 0x36)))
            clear hM1 hki
            go_wp2_with fail
            go_roundw
            case rel => exact ⟨i + 1, by omega, by go_num, unhide HB1, unhide HM1⟩
            case measure => simp [intOf]; omega
        · obtain rfl : i = 64 := by omega
          rw [xorb_all _ _ (unhide HK64), xorb_all _ _ (unhide HK64)] at hM
          have tok3 : True := trivial
          have tok4 : True := trivial
          have hz : ∀ l : List (BitVec 8), l.length = 64 → ∀ w' g, Blk w' g 5 (hv l) → Bytes w' w'.heap.size (some ⟨g, 0, none⟩) 64 l := fun l h w' g hb => by
            have := hb.bytes 0 64 (by omega); simpa using this
          have HZ := hide hz
          clear hz
          go_wp2_with (first
            | (refine wpList_append_full rfl (.tmp 41) (.tmp 42) 22 rfl hM 5 Try.underlying22 _ 1 1 u8row rfl (by decide) wr.heap.size (some ⟨g7, 0, none⟩) 64 (((key64 key).map (· ^^^ 0x36)).map V8) rfl (unhide HZ _ (by rw [List.length_map]; exact unhide HK64) _ _ (hM.blk 0 rfl)) (by decide) (Nat.le_refl _) w.heap.size A n c (p.map V8) rfl (hM.reads hb (Nat.le_refl _) (fun _ _ e => e)) (by simp only [maxLen]; omega) (by omega) ?_; clear hM; intro A43 c43 w43 hM hr43 hc43)
            | (have _t := tok3; go_at_call 29; refine (RSum_any _ _ _ _ ((key64 key).map (· ^^^ 0x36) ++ p) (bytes_app hr43) (by omega)).mono ?_; clear tok3; rintro e1 w44 ⟨rfl, hg⟩; replace hM := hM.call hg; clear hg)
            | (refine wpList_alloc_mem hM rfl 26 rfl _ zero32 ?_; clear hM; intro g10 w45 hM)
            | (have _t := tok4; refine wpList_store_mem rfl 26 _ _ rfl hM 0 _ _ _ (hv (sha ((key64 key).map (· ^^^ 0x36) ++ p))) rfl rfl rfl (size32 _ (sha_length _)) (hvz _ (sha_length _)) (oneCells8 _) ?_; clear hM tok4; intro w46 hM _)
            | (refine wpList_append_full rfl (.tmp 45) (.tmp 46) 22 rfl hM 5 Try.underlying22 _ 1 1 u8row rfl (by decide) _ (some ⟨g6, 0, none⟩) 64 (((key64 key).map (· ^^^ 0x5c)).map V8) rfl (unhide HZ _ (by rw [List.length_map]; exact unhide HK64) _ _ (hM.blk 2 rfl)) (by decide) (Nat.le_refl _) _ (some ⟨g10, 0, none⟩) 32 32 ((sha ((key64 key).map (· ^^^ 0x36) ++ p)).map V8) rfl ((hM.blk 0 rfl).bytes 0 32 (by rw [sha_length])) (by decide) (by decide) ?_; clear hM; intro A47 c47 w47 hM hr47 hc47)
            | (go_at_call 29; refine (RSum_any _ _ _ _ ((key64 key).map (· ^^^ 0x5c) ++ sha ((key64 key).map (· ^^^ 0x36) ++ p)) (bytes_app hr47) (by omega)).mono ?_; rintro e1 w48 ⟨rfl, hg⟩; replace hM := hM.call hg; clear hg)
            | (refine wpList_store_mem rfl 26 _ _ rfl hM 3 _ _ _ (hv (mac key p)) rfl rfl rfl (size32 _ (sha_length _)) (hvz _ (sha_length _)) (oneCells8 _) ?_; clear hM; intro w49 hM _))
          exact bodyPost_row rfl rfl _ _ _ (hM.blk 3 rfl) rfl (.array 32 5) (by kernel_rfl) rfl (size32 _ (sha_length _)) ⟨rfl, hM.grow⟩
end Go.Proofs.Ytkcmnhmbpamehaa
