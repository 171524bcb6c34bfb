/- digest.Sum is SHA-256. -/
import Derived.Test.YtkcmnhmbpamehaaTake
import Derived.Test.YtkcmnhmbpamehaaApp
import Derived.Test.YtkcmnhmbpamehaaPad
import Derived.Deep.DeepCutAuto
namespace Go.Proofs.Ytkcmnhmbpamehaa
open Go.RowKit

/-- A row of bytes as cells. -/
def hv (l : List (BitVec 8)) : Array Value := (l.map V8).toArray
theorem hv_size (l : List (BitVec 8)) : (hv l).size = l.length := by simp [hv]
def slen : Value → Nat
  | .slice _ n _ => n
  | _ => 0
theorem zero32 : ((Try.prog.info? 26).bind (·.zero)).map (·.cells) = some (hv (List.replicate 32 0)) := by kernel_rfl
theorem zero128 : ((Try.prog.info? 76).bind (·.zero)).map (·.cells) = some (hv (List.replicate 128 0)) := by kernel_rfl

theorem hv_get (l : List (BitVec 8)) (k : Nat) (hk : k < l.length) : (hv l)[k]? = some (V8 (l.getD k 0)) := by
  unfold hv
  simp [List.getElem?_eq_getElem hk]
theorem hv_set (l : List (BitVec 8)) (k : Nat) (x : BitVec 8) : (hv l).setIfInBounds k (V8 x) = hv (l.set k x) := by
  unfold hv
  rw [List.setIfInBounds_toArray, ← List.map_set]
theorem splice_pad (rest : List (BitVec 8)) : (splice (hv (List.replicate 128 0)).toList 0 (rest.map V8)).toArray = hv (pad0 rest) := by
  unfold splice hv pad0
  simp only [List.take_zero, List.nil_append, List.map_append, List.length_map, Nat.zero_add, List.map_replicate, List.drop_replicate]
/-- The number's byte, as the code reckons it. -/
theorem byte_of (n k : Nat) : Value.int .u8 ((n : Int) * 8 / 2 ^ (8 * k) % 256) = V8 (BitVec.ofNat 8 (8 * n / 2 ^ (8 * k))) := by
  unfold V8
  rw [BitVec.toNat_ofNat, Nat.mul_comm 8 n]
  have : ((n * 8 / 2 ^ (8 * k) % 2 ^ 8 : Nat) : Int) = (n : Int) * 8 / 2 ^ (8 * k) % 256 := by simp only [Int.natCast_emod, Int.natCast_ediv, Int.natCast_mul, Int.natCast_pow]; rfl
  rw [this]
theorem Blk.bytes {w : World} {g : Nat} {t : TypeId} {L : List (BitVec 8)} (h : Blk w g t (hv L)) (p m : Nat) (hp : p + m = L.length) : Bytes w w.heap.size (some ⟨g, p, none⟩) m (L.drop p) := by
  have h1 := h.reads p m (by rw [hv_size]; omega)
  unfold Bytes
  rw [List.map_drop]
  rw [List.take_of_length_le (by simp [hv]; omega)] at h1
  exact h1
/-- An element of an array that lies in a slot. -/
theorem run_index_vals (P : Program) (T e : TypeId) (len : Nat) (hT : P.underlying T = some (.array len e)) (hz : (P.info? e).map (·.size) = some 1) (k' : IntKind) (hu : P.underlying e = some (.int k')) (l : List (BitVec 32)) (k : Nat) (hk : k < l.length) (hl : l.length = len) (w : World) :
    (Instr.index T (.agg (vals l)) (.int .i64 (k : Int))).run P w = .ok (V32 (l.getD k 0)) w := by
  obtain ⟨i, hi, hs⟩ : ∃ i, P.info? e = some i ∧ i.size = 1 := by
    cases hq : P.info? e with
    | none => simp [hq] at hz
    | some i => exact ⟨i, rfl, by simpa [hq] using hz⟩
  have hc : (0 : Int) ≤ (k : Int) ∧ (k : Int) < (len : Int) := by omega
  have hg : (vals l)[k]? = some (V32 (l.getD k 0)) := vals_get l k hk
  simp [Instr.index, asIntOf, run_underlying hT, run_underlying hu, sizeOf, typeInfo, hi, hs, hc, part, isAgg, hg]
  intro h
  omega
/-- The digest's bytes, of which the first 4 k are laid. -/
def outb (s : St) (k : Nat) : List (BitVec 8) := s.bytes.take (4 * k) ++ List.replicate (32 - 4 * k) 0
theorem outb_step (s : St) (k : Nat) (hk : k < 8) :
    ((((outb s k).set (4 * k) ((s.list.getD k 0 >>> 24).setWidth 8)).set (4 * k + 1) ((s.list.getD k 0 >>> 16).setWidth 8)).set (4 * k + 2) ((s.list.getD k 0 >>> 8).setWidth 8)).set (4 * k + 3) ((s.list.getD k 0).setWidth 8) = outb s (k + 1) := by
  match k, hk with
  | 0, _ => rfl
  | 1, _ => rfl
  | 2, _ => rfl
  | 3, _ => rfl
  | 4, _ => rfl
  | 5, _ => rfl
  | 6, _ => rfl
  | 7, _ => rfl
theorem outb_length (s : St) (k : Nat) (hk : k ≤ 8) : (outb s k).length = 32 := by simp [outb, St.bytes_length]; omega
theorem outb_all (s : St) : outb s 8 = s.bytes := rfl
theorem size32 (l : List (BitVec 8)) (h : l.length = 32) : (Try.prog.info? 26).map (·.size) = some (hv l).size := by
  rw [hv_size, h]; kernel_rfl
theorem oneCells8 (l : List (BitVec 8)) : (hv l).all (·.oneCell') = true := by
  rw [Array.all_eq_true_iff_forall_mem]
  intro v hv'
  obtain ⟨x, _, rfl⟩ := List.mem_map.1 (by simpa [hv] using hv')
  rfl

set_option maxRecDepth 100000 in
set_option maxHeartbeats 1000000 in
theorem Sum_any (w : World) (n c : Nat) (A : Option Addr) (l : List (BitVec 8)) (hb : Bytes w w.heap.size A n l) (hc : n ≤ c) (hn2 : n ≤ 140737488355328) :
    Calls Try.prog 25 #[.slice A n c] w fun e w' => e = .returned (.agg (hv (sha l))) ∧ Grow w noOwn w' := by
  have hM := Mem.nil w noOwn
  go_enter Try.func25, Try.ntmps25
  go_wp2_with (first
    | (go_at_call 37; refine (numbers_any _).mono ?_; rintro e w1 ⟨rfl, hg⟩; replace hM := hM.call hg; clear hg)
    | (refine wpList_alloc_mem hM rfl 26 rfl _ zero32 ?_; clear hM; intro g2 w2 hM)
    | (refine wpList_build_to rfl 71 _ rfl (vals St.start.list) (by kernel_rfl) ?_)
    | (refine wpList_alloc_mem hM rfl 71 rfl _ zero8 ?_; clear hM; intro g3 w3 hM)
    | (refine wpList_store_mem rfl 71 _ _ rfl hM 0 _ _ _ (vals St.start.list) rfl rfl rfl (size8 _) (vals_zero8_size.trans (vals_list_size _).symm) (oneCells _) ?_; clear hM; intro w4 hM _)
    | (refine wpList_alloc_mem hM rfl 72 rfl _ zero64 ?_; clear hM; intro g4 w5 hM)
    | (refine wpList_store_mem rfl 72 _ _ rfl hM 0 _ _ _ (vals K64) rfl rfl rfl size64 rfl (oneCells _) ?_; clear hM; intro w6 hM _))
  go_loopw [5] (fun v wr => ∃ (m : Nat) (A' : Option Addr) (c' : Nat), 64 * m ≤ n ∧ v = .slice A' (n - 64 * m) c' ∧ Bytes w w.heap.size A' (n - 64 * m) (l.drop (64 * m)) ∧ n - 64 * m ≤ c' ∧
      Mem w noOwn wr [.blk g4 72 (vals K64), .blk g3 71 (vals (blocks l St.start m).list), .blk g2 26 (hv (List.replicate 32 0))]) (fun v _ => slen v)
  case atStart => exact ⟨0, A, c, by omega, rfl, hb, hc, hM⟩
  case round =>
    clear hM
    obtain ⟨m, A', c', hm, rfl, hbr, hc', hM⟩ := hrel
    by_cases hlt : 64 ≤ n - 64 * m
    · obtain ⟨b, off, rfl, hbB, _⟩ := hbr.form (by omega)
      have hsz := hM.grow.size
      have hg3 := hM.own_ 1 rfl rfl
      have hne : g4 ≠ g3 := fun e => hM.ne 1 0 rfl rfl (by decide) rfl (by rw [← e]; rfl)
      have H := hide (take_any wr g3 g4 c' (n - 64 * m) _ _ _ (blocks l St.start m) _ (hM.blk 1 rfl) (hM.blk 0 rfl) hne (Reads.more (hM.reads hbr (Nat.le_refl _) (fun _ _ e => e)) hsz) hlt (fun ad e => by
        injection e with e; subst e; rcases hg3 with h | h
        · exact h.elim
        · simp; omega) (by omega))
      clear hne
      go_wp2_with (go_at_call 38; refine (unhide H).mono ?_; rintro e w1 ⟨rfl, hg, hb1⟩)
      have hM1 := hM.call1 1 rfl rfl hg (x' := .blk g3 _ _) hb1 (fun g' e => .inl (by simp [Item.foot] at e; exact e.symm))
      have hbk : block (blocks l St.start m) (l.drop (64 * m)) = blocks l St.start (m + 1) := rfl
      rw [hbk] at hM1
      have HM1 := hide hM1
      clear hM1 hbk
      have hbn := Bytes.cut hbr hlt hc'
      rw [List.drop_drop, show 64 * m + 64 = 64 * (m + 1) from by omega, show n - 64 * m - 64 = n - 64 * (m + 1) from by omega] at hbn
      go_roundw
      case rel => exact ⟨m + 1, _, c' - 64, by omega, by rw [show n - 64 * m - 64 = n - 64 * (m + 1) from by omega], hbn, by omega, unhide HM1⟩
      case measure => simp [slen]; omega
    · have hr : n - 64 * m < 64 := by omega
      obtain ⟨r, hre⟩ : ∃ r, r = n - 64 * m := ⟨_, rfl⟩
      rw [← hre] at hbr hr hlt ⊢
      have hrr : r + 64 * m = n := by omega
      have Hr := hide hrr; clear hre hrr
      obtain ⟨rest, hrest⟩ : ∃ rest, rest = l.drop (64 * m) := ⟨_, rfl⟩
      rw [← hrest] at hbr
      have Hrest := hide hrest; clear hrest
      have hrl : rest.length = r := Bytes.len hbr
      have HrL := hide hrl; clear hrl
      go_upto_if 30 with (first
        | (refine wpList_alloc_mem hM rfl 76 rfl _ zero128 ?_; clear hM; intro g6 w7 hM)
        | (refine wpList_copy_mem rfl (.tmp 24) (.tmp 25) 22 22 rfl 5 (by kernel_rfl) (by kernel_rfl) hM 0 _ _ _ rfl 128 128 rfl (by rw [hv_size]; exact Nat.le_refl _) w.heap.size A' r c' (rest.map V8) rfl (hM.reads hbr (Nat.le_refl _) (fun _ _ e => e)) (fun u hu => by obtain ⟨x, _, rfl⟩ := List.mem_map.1 hu; rfl) (by omega) ?_; clear hM; intro w8 hM; rw [splice_pad rest] at hM; have c0 : w8.cell? ⟨g6, r, none⟩ = some (V8 ((pad0 rest).getD r 0)) := (hM.cell 0 rfl r).trans (hv_get _ _ (by rw [pad0_length _ (by rw [unhide HrL]; omega)]; omega)); have f0 := hM.frozen 0 rfl r))
      have hM2 := hM.set 0 rfl r (V8 0x80)
      rw [hv_set] at hM2
      have HM2 := hide hM2
      clear hM2
      go_cut [8] (fun v wx => v = .int .i64 (endOf r : Nat) ∧ Mem w noOwn wx [.blk g6 76 (hv ((pad0 rest).set r 0x80)), .blk g4 72 (vals K64), .blk g3 71 (vals (blocks l St.start m).list), .blk g2 26 (hv (List.replicate 32 0))])
      case first =>
        by_cases h56 : 56 ≤ r
        · have hE : endOf r = 128 := by unfold endOf; rw [if_pos h56]
          have HE := hide hE; clear hE
          go_wp2_with fail
          go_meet
          exact ⟨by rw [unhide HE]; rfl, unhide HM2⟩
        · have hE : endOf r = 64 := by unfold endOf; rw [if_neg h56]
          have HE := hide hE; clear hE
          go_wp2_with fail
          go_meet
          exact ⟨by rw [unhide HE]; rfl, unhide HM2⟩
      case rest =>
        obtain ⟨rfl, hM⟩ := hcut
        have he : endOf r = 64 ∨ endOf r = 128 := by unfold endOf; split <;> omega
        have HE := hide he
        have he1 : 64 ≤ endOf r := by omega
        have he2 : endOf r ≤ 128 := by omega
        clear he
        generalize hee : endOf r = e at *
        have HEE := hide hee
        clear hee
        go_wp2_with fail
        have h0 : (pad0 rest).set r 0x80 = lastRow rest (8 * n) e 0 := by rw [← unhide HrL]; rfl
        rw [h0] at hM
        clear h0
        go_loopw [35] (fun i wr => ∃ k : Nat, k ≤ 8 ∧ i = .int .i64 k ∧ Mem w noOwn wr [.blk g6 76 (hv (lastRow rest (8 * n) e k)), .blk g4 72 (vals K64), .blk g3 71 (vals (blocks l St.start m).list), .blk g2 26 (hv (List.replicate 32 0))]) (fun i _ => 8 - (intOf i).toNat)
        case atStart => exact ⟨0, by omega, rfl, hM⟩
        case round =>
          clear hM
          obtain ⟨k, hk8, rfl, hM⟩ := hrel
          have hc0 : ∀ j, j < 128 → wr.cell? ⟨g6, j, none⟩ = some (V8 ((lastRow rest (8 * n) e k).getD j 0)) := fun j hj => (hM.cell 0 rfl j).trans (hv_get _ _ (by rw [lastRow_length _ _ _ _ (by rw [unhide HrL]; omega)]; exact hj))
          have c0 := hc0 (e - 1 - k) (by omega)
          have f0 := hM.frozen 0 rfl (e - 1 - k)
          clear hc0
          by_cases hlt : k < 8
          · have hM1 := hM.set 0 rfl (e - 1 - k) (V8 (BitVec.ofNat 8 (8 * n / 2 ^ (8 * k))))
            rw [hv_set] at hM1
            have HM1 := hide hM1
            clear hM1
            go_wp2_with fail
            go_roundw
            case rel => exact ⟨k + 1, by omega, by go_num, by rw [byte_of]; exact unhide HM1⟩
            case measure => simp [intOf]; omega
          · obtain rfl : k = 8 := by omega
            clear c0 f0
            obtain ⟨wo, rfl⟩ : ∃ wo : World, wo = wr := ⟨_, rfl⟩
            go_wp2_with fail
            obtain ⟨B, hB⟩ : ∃ B, B = lastRow rest (8 * n) e 8 := ⟨_, rfl⟩
            have hBl : B.length = 128 := by rw [hB]; exact lastRow_length _ _ _ _ (by rw [unhide HrL]; omega)
            rw [← hB] at hM
            have HB := hide hB
            have HBl := hide hBl
            clear hB hBl
            go_simp
            go_loopw [11] (fun i wr => ∃ k p : Nat, Hid (p = 64 * k) ∧ p ≤ e ∧ i = .int .i64 p ∧ Mem w noOwn wr [.blk g6 76 (hv B), .blk g4 72 (vals K64), .blk g3 71 (vals (blocks B (blocks l St.start m) k).list), .blk g2 26 (hv (List.replicate 32 0))]) (fun i _ => 128 - (intOf i).toNat)
            case atStart => exact ⟨0, 0, hide rfl, by omega, rfl, hM⟩
            case round =>
              clear hM
              obtain ⟨k, p, Hp, hpe, rfl, hM⟩ := hrel
              by_cases hlt : p < e
              · have hp1 : p + 64 ≤ e := by have := unhide Hp; rcases unhide HE with h | h <;> omega
                have hne : g4 ≠ g3 := fun e => hM.ne 2 1 rfl rfl (by decide) rfl (by rw [← e]; rfl)
                have hne2 : g6 ≠ g3 := fun e => hM.ne 2 0 rfl rfl (by decide) rfl (by rw [← e]; rfl)
                have H := hide (take_any wr g3 g4 (128 - p) (128 - p) _ _ _ (blocks B (blocks l St.start m) k) _ (hM.blk 2 rfl) (hM.blk 1 rfl) hne ((hM.blk 0 rfl).bytes p (128 - p) (by rw [unhide HBl]; omega)) (by omega) (fun ad e => by
                  injection e with e; subst e; exact hne2) (by omega))
                have hp0 : (p : Int) ≤ 128 := by omega
                clear hne hne2
                go_wp2_with (go_at_call 38; refine (unhide H).mono ?_; rintro e1 w1 ⟨rfl, hg, hb1⟩)
                have hM1 := hM.call1 2 rfl rfl hg (x' := .blk g3 _ _) hb1 (fun g' e => .inl (by simp [Item.foot] at e; exact e.symm))
                have hbk : block (blocks B (blocks l St.start m) k) (B.drop p) = blocks B (blocks l St.start m) (k + 1) := by rw [unhide Hp]; rfl
                rw [hbk] at hM1
                have HM1 := hide hM1
                have Hp2 := hide (show p + 64 = 64 * (k + 1) from by have := unhide Hp; omega)
                clear hM1 hbk
                go_roundw
                case rel => exact ⟨k + 1, p + 64, Hp2, by omega, by go_num, unhide HM1⟩
                case measure => simp [intOf]; omega
              · have hk : k = e / 64 := by have := unhide Hp; rcases unhide HE with h | h <;> omega
                subst hk
                obtain ⟨S, hS⟩ : ∃ S, S = blocks B (blocks l St.start m) (e / 64) := ⟨_, rfl⟩
                rw [← hS] at hM
                have HS := hide hS
                clear hS
                have hz32 : hv (List.replicate 32 0) = hv (outb S 0) := rfl
                rw [hz32] at hM
                clear hz32
                obtain ⟨wo, rfl⟩ : ∃ wo : World, wo = wr := ⟨_, rfl⟩
                go_wp2_with (first
                  | (refine wpList_load_mem rfl 71 _ rfl hM 2 _ _ _ rfl rfl (.array 8 69) (by kernel_rfl) rfl (size8 S) ?_))
                go_loopw [58] (fun i wr => ∃ k : Nat, k ≤ 8 ∧ i = .int .i64 k ∧ Mem w noOwn wr [.blk g6 76 (hv B), .blk g4 72 (vals K64), .blk g3 71 (vals S.list), .blk g2 26 (hv (outb S k))]) (fun i _ => 8 - (intOf i).toNat)
                case atStart => exact ⟨0, by omega, rfl, hM⟩
                case round =>
                  clear hM
                  obtain ⟨k, hk8, rfl, hM⟩ := hrel
                  by_cases hlt : k < 8
                  · have hix := fun w => run_index_vals Try.prog 71 69 8 (by kernel_rfl) (by kernel_rfl) .u32 (by kernel_rfl) S.list k hlt rfl w
                    have hc0 : ∀ j, j < 32 → wr.cell? ⟨g2, j, none⟩ = some (V8 ((outb S k).getD j 0)) := fun j hj => (hM.cell 3 rfl j).trans (hv_get _ _ (by rw [outb_length _ _ (by omega)]; exact hj))
                    have c0 := hc0 (4 * k) (by omega)
                    have c1 := hc0 (4 * k + 1) (by omega)
                    have c2 := hc0 (4 * k + 2) (by omega)
                    have c3 := hc0 (4 * k + 3) (by omega)
                    have f0 := hM.frozen 3 rfl (4 * k)
                    have f1 := hM.frozen 3 rfl (4 * k + 1)
                    have f2 := hM.frozen 3 rfl (4 * k + 2)
                    have f3 := hM.frozen 3 rfl (4 * k + 3)
                    clear hc0
                    have hM1 := (((hM.set 3 rfl (4 * k) (V8 ((S.list.getD k 0 >>> 24).setWidth 8))).set 3 rfl (4 * k + 1) (V8 ((S.list.getD k 0 >>> 16).setWidth 8))).set 3 rfl (4 * k + 2) (V8 ((S.list.getD k 0 >>> 8).setWidth 8))).set 3 rfl (4 * k + 3) (V8 ((S.list.getD k 0).setWidth 8))
                    rw [hv_set, hv_set, hv_set, hv_set, outb_step S k hlt] at hM1
                    have HM1 := hide hM1
                    clear hM1
                    go_wp2_with fail
                    go_roundw
                    case rel => exact ⟨k + 1, by omega, by go_num, unhide HM1⟩
                    case measure => simp [intOf]; omega
                  · obtain rfl : k = 8 := by omega
                    have hfin : hv (outb S 8) = hv (sha l) := by
                      have h1 := sha_last l m r (by rw [unhide Hr]; exact (Bytes.len hb).symm) hr
                      rw [unhide HEE, ← unhide Hrest] at h1
                      have h2 : 8 * l.length = 8 * n := by rw [Bytes.len hb]
                      rw [h2, ← unhide HB, ← unhide HS] at h1
                      rw [outb_all, h1, sha_eq]
                    rw [hfin] at hM
                    clear hfin
                    go_wp2_with (first
                      | (refine wpList_load_mem rfl 26 _ rfl hM 3 _ _ _ rfl rfl (.array 32 5) (by kernel_rfl) rfl (size32 _ (sha_length l)) ?_)
                      | (refine wpList_store_mem rfl 26 _ _ rfl hM 3 _ _ _ (hv (sha l)) rfl rfl rfl (size32 _ (sha_length l)) rfl (oneCells8 _) ?_; clear hM; intro w14 hM _))
                    exact bodyPost_row rfl rfl _ _ _ (hM.blk 3 rfl) rfl (.array 32 5) (by kernel_rfl) rfl (size32 _ (sha_length l)) ⟨rfl, hM.grow⟩
end Go.Proofs.Ytkcmnhmbpamehaa
