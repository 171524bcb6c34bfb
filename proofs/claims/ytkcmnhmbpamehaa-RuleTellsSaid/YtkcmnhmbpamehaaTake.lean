/- A block is taken in: (*state).take, and the reference's block. -/
import Derived.Test.YtkcmnhmbpamehaaDig1
import Derived.Test.YtkcmnhmbpamehaaDig2
import Derived.StillTailTactics
namespace Go.Proofs.Ytkcmnhmbpamehaa
open Go.RowKit

/-- An array of 64 words, of which the first ones are l. -/
def padv (l : List (BitVec 32)) : Array Value := vals (l ++ List.replicate (64 - l.length) 0)
theorem padv_get (l : List (BitVec 32)) (k : Nat) (hk : k < 64) (hl : l.length ≤ 64) : (padv l)[k]? = some (V32 (l.getD k 0)) := by
  unfold padv vals
  simp only [List.getElem?_toArray, List.getElem?_map]
  by_cases h : k < l.length
  · rw [List.getElem?_append_left h]; simp [List.getElem?_eq_getElem h]
  · rw [List.getElem?_append_right (by omega), List.getElem?_replicate, if_pos (by omega)]
    simp [List.getElem?_eq_none (show l.length ≤ k by omega)]
theorem padv_set (l : List (BitVec 32)) (x : BitVec 32) (hl : l.length < 64) : (padv l).setIfInBounds l.length (V32 x) = padv (l ++ [x]) := by
  unfold padv vals
  rw [List.setIfInBounds_toArray, ← List.map_set]
  congr 2
  obtain ⟨m, hm⟩ : ∃ m, 64 - l.length = m + 1 := ⟨64 - l.length - 1, by omega⟩
  rw [List.set_append_right _ _ (Nat.le_refl _), Nat.sub_self, hm, List.replicate_succ, List.set_cons_zero, List.length_append, List.length_singleton,
    show 64 - (l.length + 1) = m by omega]
  simp
theorem vals_get (l : List (BitVec 32)) (k : Nat) (hk : k < l.length) : (vals l)[k]? = some (V32 (l.getD k 0)) := by
  unfold vals
  simp [List.getElem?_eq_getElem hk]
/-- Of two states the first one, of which the first k words are summed. -/
def mix (s v : St) (k : Nat) : List (BitVec 32) := List.zipWith (· + ·) (s.list.take k) (v.list.take k) ++ s.list.drop k
theorem mix_get (s v : St) (k : Nat) (hk : k < 8) : (vals (mix s v k))[k]? = some (V32 (s.list.getD k 0)) := by
  match k, hk with
  | 0, _ => rfl
  | 1, _ => rfl
  | 2, _ => rfl
  | 3, _ => rfl
  | 4, _ => rfl
  | 5, _ => rfl
  | 6, _ => rfl
  | 7, _ => rfl
theorem mix_set (s v : St) (k : Nat) (hk : k < 8) : (vals (mix s v k)).setIfInBounds k (V32 (s.list.getD k 0 + v.list.getD k 0)) = vals (mix s v (k + 1)) := by
  match k, hk with
  | 0, _ => rfl
  | 1, _ => rfl
  | 2, _ => rfl
  | 3, _ => rfl
  | 4, _ => rfl
  | 5, _ => rfl
  | 6, _ => rfl
  | 7, _ => rfl
theorem mix_all (s v : St) : mix s v 8 = (s.plus v).list := rfl
theorem mix_none (s v : St) : mix s v 0 = s.list := rfl
theorem zero8 : ((Try.prog.info? 71).bind (·.zero)).map (·.cells) = some (vals (List.replicate 8 0)) := by kernel_rfl
theorem size8 (s : St) : (Try.prog.info? 71).map (·.size) = some (vals s.list).size := by
  rw [vals_size]; kernel_rfl
theorem padv_full (l : List (BitVec 32)) (hl : l.length = 64) : padv l = vals l := by simp [padv, hl]

set_option maxRecDepth 100000 in
set_option maxHeartbeats 4000000 in
theorem take_any (w : World) (gs gk c n : Nat) (A : Option Addr) (T Tk : TypeId) (s : St) (l : List (BitVec 8))
    (hs : Blk w gs T (vals s.list)) (hk : Blk w gk Tk (vals K64)) (hne : gk ≠ gs) (hb : Bytes w w.heap.size A n l) (hn : 64 ≤ n) (hbs : ∀ ad, A = some ad → ad.block ≠ gs) (hn2 : n ≤ 140737488355328) :
    Calls Try.prog 38 #[.pointer (some ⟨gs, 0, none⟩), .slice A n c, .pointer (some ⟨gk, 0, none⟩)] w fun e w' => e = .returned (.tuple #[]) ∧ Grow w (own1 gs) w' ∧ Blk w' gs T (vals (block s l).list) := by
  obtain ⟨b, off, rfl, hbB, hcell⟩ := hb.form (by omega)
  have hM := Mem.start1 hs (own := own1 gs) rfl
  go_enter Try.func38, Try.ntmps38
  go_wp2_with (first
    | (refine wpList_alloc rfl 72 rfl _ zero64 ?_; replace hM := hM.alloc 72 (vals (List.replicate 64 0))))
  obtain ⟨g6, hg6⟩ : ∃ g, g = w.heap.size := ⟨_, rfl⟩
  rw [← hg6] at hM ⊢
  have Hg6 := hide hg6; clear hg6
  go_loopw [14] (fun i wr => ∃ k : Nat, k ≤ 16 ∧ i = .int .i64 k ∧ Mem w (own1 gs) wr [.blk g6 72 (padv (sched l k)), .blk gs T (vals s.list)]) (fun i _ => 16 - (intOf i).toNat)
  case atStart => exact ⟨0, by omega, rfl, by exact hM⟩
  case round =>
    obtain ⟨k, hk16, rfl, hMr⟩ := hrel
    have hrd : ∀ j, j < n → wr.cell? ⟨b, off + j, none⟩ = some (V8 (l.getD j 0)) := fun j hj => (hMr.grow.keep (p := ⟨b, off + j, none⟩) hbB (fun e => hbs _ rfl e)).trans (hcell j hj)
    have H0 := hide (fun (h : k < 16) => hrd (4 * k) (by omega))
    have H1 := hide (fun (h : k < 16) => hrd (4 * k + 1) (by omega))
    have H2 := hide (fun (h : k < 16) => hrd (4 * k + 2) (by omega))
    have H3 := hide (fun (h : k < 16) => hrd (4 * k + 3) (by omega))
    clear hrd hcell
    go_wp2
    · have hlt : k < 16 := by omega
      have d0 := unhide H0 hlt
      have d1 := unhide H1 hlt
      have d2 := unhide H2 hlt
      have d3 := unhide H3 hlt
      have e0 : (0 : Int) ≤ 4 * (k : Int) := by omega
      have f0 : 4 * (k : Int) < (n : Int) := by omega
      have e1 : (0 : Int) ≤ 4 * (k : Int) + 1 := by omega
      have f1 : 4 * (k : Int) + 1 < (n : Int) := by omega
      have e2 : (0 : Int) ≤ 4 * (k : Int) + 2 := by omega
      have f2 : 4 * (k : Int) + 2 < (n : Int) := by omega
      have e3 : (0 : Int) ≤ 4 * (k : Int) + 3 := by omega
      have f3 : 4 * (k : Int) + 3 < (n : Int) := by omega
      have g0 : (k : Int) < 64 := by omega
      have cw : wr.cell? ⟨g6, k, none⟩ = some (V32 ((sched l k).getD k 0)) := (hMr.cell 0 rfl k).trans (padv_get _ _ (by omega) (by rw [sched_length]; omega))
      have fw : wr.frozen? ⟨g6, k, none⟩ = false := hMr.frozen 0 rfl k
      have hM1 := hMr.drew.set 0 rfl k (V32 (be32 (l.getD (4 * k) 0) (l.getD (4 * k + 1) 0) (l.getD (4 * k + 2) 0) (l.getD (4 * k + 3) 0)))
      have hp := padv_set (sched l k) (be32 (l.getD (4 * k) 0) (l.getD (4 * k + 1) 0) (l.getD (4 * k + 2) 0) (l.getD (4 * k + 3) 0)) (by rw [sched_length]; omega)
      rw [sched_length] at hp
      rw [hp] at hM1
      have hsn : sched l (k + 1) = sched l k ++ [be32 (l.getD (4 * k) 0) (l.getD (4 * k + 1) 0) (l.getD (4 * k + 2) 0) (l.getD (4 * k + 3) 0)] := by
        simp only [sched, wnext, sched_length]; rw [if_pos hlt]
      rw [← hsn] at hM1
      have HM1 := hide hM1
      clear hM1 hp hsn
      refine wp_region_still_tail 35 (by kernel_rfl) (by kernel_rfl) ?_
      simp only [List.take_succ_cons, List.take_zero, List.drop_succ_cons, List.drop_zero]
      repeat (refine wpStill_step (fun K hK => ?_); go_simp; (try go_bits); (try (go_ite <;> go_prune <;> (try go_simp) <;> (try go_bits))); refine hK _ ?_; clear hK K)
      refine wpStill_nil ?_
      change wpList _ _ _ _ _ wr.drew
      go_wp2
      go_roundw
      case rel => exact ⟨k + 1, by omega, by go_num, unhide HM1⟩
      case measure => simp [intOf]; omega
    · have hk : k = 16 := by omega
      subst hk
      clear H0 H1 H2 H3
      obtain ⟨wo, rfl⟩ : ∃ wo : World, wo = wr := ⟨_, rfl⟩
      go_simp
      go_loopw [8] (fun i wr => ∃ k : Nat, 16 ≤ k ∧ k ≤ 64 ∧ i = .int .i64 k ∧ Mem w (own1 gs) wr [.blk g6 72 (padv (sched l k)), .blk gs T (vals s.list)]) (fun i _ => 64 - (intOf i).toNat)
      case atStart => exact ⟨16, by omega, by omega, rfl, hMr⟩
      case round =>
        clear hMr
        obtain ⟨k, hk16, hk64, rfl, hMr⟩ := hrel
        have hlen := sched_length l k
        have hcw : ∀ j, j < 64 → wr.cell? ⟨g6, j, none⟩ = some (V32 ((sched l k).getD j 0)) := fun j hj => (hMr.cell 0 rfl j).trans (padv_get _ _ hj (by omega))
        have H0 := hide (fun (h : k < 64) => hcw (k - 16) (by omega))
        have H1 := hide (fun (h : k < 64) => hcw (k - 15) (by omega))
        have H2 := hide (fun (h : k < 64) => hcw (k - 7) (by omega))
        have H3 := hide (fun (h : k < 64) => hcw (k - 2) (by omega))
        have H4 := hide (fun (h : k < 64) => hcw k (by omega))
        clear hcw hlen
        go_wp2_with (first
          | (refine wpList_load_mem rfl 71 _ rfl hMr 1 _ _ _ rfl rfl (.array 8 69) (by kernel_rfl) rfl (size8 s) ?_)
          | (refine wpList_alloc rfl 71 rfl _ zero8 ?_; replace hMr := hMr.alloc 71 (vals (List.replicate 8 0)))
          | (refine wpList_store_mem rfl 71 _ _ rfl hMr 0 _ _ _ (vals s.list) rfl rfl rfl (size8 s) rfl (oneCells _) ?_; clear hMr; intro w1 hMr _))
        · have hlt : k < 64 := by omega
          have d0 := unhide H0 hlt
          have d1 := unhide H1 hlt
          have d2 := unhide H2 hlt
          have d3 := unhide H3 hlt
          have cw := unhide H4 hlt
          have fw : wr.frozen? ⟨g6, k, none⟩ = false := hMr.frozen 0 rfl k
          have e0 : (0 : Int) ≤ (k : Int) - 16 := by omega
          have f0 : (k : Int) - 16 < 64 := by omega
          have e1 : (0 : Int) ≤ (k : Int) - 15 := by omega
          have f1 : (k : Int) - 15 < 64 := by omega
          have e2 : (0 : Int) ≤ (k : Int) - 7 := by omega
          have f2 : (k : Int) - 7 < 64 := by omega
          have e3 : (0 : Int) ≤ (k : Int) - 2 := by omega
          have f3 : (k : Int) - 2 < 64 := by omega
          have g0 : (k : Int) < 64 := by omega
          have hM1 := hMr.drew.set 0 rfl k (V32 ((sched l k).getD (k - 16) 0 + fs0 ((sched l k).getD (k - 15) 0) + (sched l k).getD (k - 7) 0 + fs1 ((sched l k).getD (k - 2) 0)))
          have hp := padv_set (sched l k) ((sched l k).getD (k - 16) 0 + fs0 ((sched l k).getD (k - 15) 0) + (sched l k).getD (k - 7) 0 + fs1 ((sched l k).getD (k - 2) 0)) (by rw [sched_length]; omega)
          rw [sched_length] at hp
          rw [hp] at hM1
          have hsn : sched l (k + 1) = sched l k ++ [(sched l k).getD (k - 16) 0 + fs0 ((sched l k).getD (k - 15) 0) + (sched l k).getD (k - 7) 0 + fs1 ((sched l k).getD (k - 2) 0)] := by
            simp only [sched, wnext, sched_length]; rw [if_neg (by omega)]
          rw [← hsn] at hM1
          have HM1 := hide hM1
          clear hM1 hp hsn
          refine wp_region_still_tail 23 (by kernel_rfl) (by kernel_rfl) ?_
          simp only [List.take_succ_cons, List.take_zero, List.drop_succ_cons, List.drop_zero]
          repeat (refine wpStill_step (fun K hK => ?_); go_simp; (try go_bits); (try (go_ite <;> go_prune <;> (try go_simp) <;> (try go_bits))); (first | refine hK _ ?_ | (apply Exists.intro; refine ⟨?_, hK _ ?_⟩; (first | (go_at_call 50; exact s0_any _ _) | (go_at_call 51; exact s1_any _ _)))); clear hK K)
          refine wpStill_nil ?_
          change wpList _ _ _ _ _ wr.drew
          go_wp2
          go_roundw
          case rel => exact ⟨k + 1, by omega, by omega, by go_num, unhide HM1⟩
          case measure => simp [intOf]; omega
        · have hk : k = 64 := by omega
          subst hk
          clear H0 H1 H2 H3 H4
          obtain ⟨g9, hg9⟩ : ∃ g, g = wr.heap.size := ⟨_, rfl⟩
          rw [← hg9] at hMr ⊢
          have Hg9 := hide hg9; clear hg9
          have hW : padv (sched l 64) = vals (wsched l) := by rw [wsched_eq]; exact padv_full _ (sched_length _ _)
          rw [hW] at hMr
          have hWl : (wsched l).length = 64 := by rw [wsched_eq]; exact sched_length _ _
          clear hW
          have HWl := hide hWl; clear hWl
          go_simp
          go_loopw [83] (fun i wr => ∃ k : Nat, k ≤ 64 ∧ i = .int .i64 k ∧ Mem w (own1 gs) wr [.blk g9 71 (vals (rnds (wsched l) s k).list), .blk g6 72 (vals (wsched l)), .blk gs T (vals s.list)]) (fun i _ => 64 - (intOf i).toNat)
          case atStart => exact ⟨0, by omega, rfl, hMr⟩
          case round =>
            clear hMr
            obtain ⟨k, hk64, rfl, hMr⟩ := hrel
            obtain ⟨S, hS⟩ : ∃ S, S = rnds (wsched l) s k := ⟨_, rfl⟩
            rw [← hS] at hMr
            have HS := hide hS; clear hS
            have c0 : wr.cell? ⟨g9, 0, none⟩ = some (V32 S.a) := hMr.cell 0 rfl 0
            have c1 : wr.cell? ⟨g9, 1, none⟩ = some (V32 S.b) := hMr.cell 0 rfl 1
            have c2 : wr.cell? ⟨g9, 2, none⟩ = some (V32 S.c) := hMr.cell 0 rfl 2
            have c3 : wr.cell? ⟨g9, 3, none⟩ = some (V32 S.d) := hMr.cell 0 rfl 3
            have c4 : wr.cell? ⟨g9, 4, none⟩ = some (V32 S.e) := hMr.cell 0 rfl 4
            have c5 : wr.cell? ⟨g9, 5, none⟩ = some (V32 S.f) := hMr.cell 0 rfl 5
            have c6 : wr.cell? ⟨g9, 6, none⟩ = some (V32 S.g) := hMr.cell 0 rfl 6
            have c7 : wr.cell? ⟨g9, 7, none⟩ = some (V32 S.h) := hMr.cell 0 rfl 7
            have hcw : ∀ j, j < 64 → wr.cell? ⟨g6, j, none⟩ = some (V32 ((wsched l).getD j 0)) := fun j hj => (hMr.cell 1 rfl j).trans (vals_get _ _ (by rw [unhide HWl]; exact hj))
            have hck : ∀ j, j < 64 → wr.cell? ⟨gk, j, none⟩ = some (V32 (K64.getD j 0)) := fun j hj => ((hMr.old hk hne).cell j).trans (vals_get _ _ hj)
            have H0 := hide (fun (h : k < 64) => hcw k h)
            have H1 := hide (fun (h : k < 64) => hck k h)
            clear hcw hck
            go_wp2_with fail
            · have hlt : k < 64 := by omega
              have d0 := unhide H0 hlt
              have d1 := unhide H1 hlt
              have g0 : (k : Int) < 64 := by omega
              clear H0 H1
              go_quiet ((first | (go_at_call 52; exact Calls.quiet_of_same (b1_any _ _)) | (go_at_call 53; exact Calls.quiet_of_same (choose_any _ _ _ _))))
              go_wp2_with fail
              go_quiet ((first | (go_at_call 54; exact quiet_add_same (b0_any _ _)) | (go_at_call 55; exact quiet_add_same (most_any _ _ _ _))))
              go_wp2_with (first
                | (refine wpList_build_to rfl 71 _ rfl (vals (rnd S (K64.getD k 0) ((wsched l).getD k 0)).list) (by kernel_rfl) ?_)
                | (refine wpList_store_mem rfl 71 _ _ rfl (hMr.drewN _) 0 _ _ _ (vals (rnd S (K64.getD k 0) ((wsched l).getD k 0)).list) rfl rfl rfl (size8 _) rfl (oneCells _) ?_; clear hMr; intro w1 hMr _))
              have hS := unhide HS
              have hn : rnds (wsched l) s (k + 1) = rnd S (K64.getD k 0) ((wsched l).getD k 0) := by rw [hS]; rfl
              rw [← hn] at hMr
              have HMr := hide hMr
              clear hS hn hMr
              go_roundw
              case rel => exact ⟨k + 1, by omega, by go_num, unhide HMr⟩
              case measure => simp [intOf]; omega
            · have hk64 : k = 64 := by omega
              subst hk64
              clear c0 c1 c2 c3 c4 c5 c6 c7 H0 H1
              obtain ⟨wo, rfl⟩ : ∃ wo : World, wo = wr := ⟨_, rfl⟩
              go_simp
              go_loopw [142] (fun i wr => ∃ k : Nat, k ≤ 8 ∧ i = .int .i64 k ∧ Mem w (own1 gs) wr [.blk g9 71 (vals S.list), .blk g6 72 (vals (wsched l)), .blk gs T (vals (mix s S k))]) (fun i _ => 8 - (intOf i).toNat)
              case atStart => exact ⟨0, by omega, rfl, hMr⟩
              case round =>
                clear hMr
                obtain ⟨k, hk8, rfl, hMr⟩ := hrel
                have H0 := hide (fun (h : k < 8) => (hMr.cell 2 rfl k).trans (mix_get s S k h))
                have H1 := hide (fun (h : k < 8) => (hMr.cell 0 rfl k).trans (vals_get S.list k h))
                go_wp2_with fail
                · have hlt : k < 8 := by omega
                  have d0 := unhide H0 hlt
                  have d1 := unhide H1 hlt
                  have f0 := hMr.frozen 2 rfl k
                  have g0 : (k : Int) < 8 := by omega
                  have hM1 := hMr.drew.set 2 rfl k (V32 (s.list.getD k 0 + S.list.getD k 0))
                  rw [mix_set s S k hlt] at hM1
                  have HM1 := hide hM1
                  clear hM1 H0 H1
                  refine wp_region_still_tail 11 (by kernel_rfl) (by kernel_rfl) ?_
                  simp only [List.take_succ_cons, List.take_zero, List.drop_succ_cons, List.drop_zero]
                  repeat (refine wpStill_step (fun K hK => ?_); go_simp; (try go_bits); (try (go_ite <;> go_prune <;> (try go_simp) <;> (try go_bits))); refine hK _ ?_; clear hK K)
                  refine wpStill_nil ?_
                  change wpList _ _ _ _ _ wr.drew
                  go_wp2
                  go_roundw
                  case rel => exact ⟨k + 1, by omega, by go_num, unhide HM1⟩
                  case measure => simp [intOf]; omega
                · have hk8 : k = 8 := by omega
                  subst hk8
                  rw [mix_all, unhide HS] at hMr
                  have hbl := hMr.blk 2 rfl
                  go_end0
                  exact ⟨rfl, hMr.grow, hbl⟩
end Go.Proofs.Ytkcmnhmbpamehaa
