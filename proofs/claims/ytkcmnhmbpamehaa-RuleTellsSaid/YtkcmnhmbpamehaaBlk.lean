/- The reference's block. -/
import Derived.Test.YtkcmnhmbpamehaaTake
namespace Go.Proofs.Ytkcmnhmbpamehaa
open Go.RowKit

theorem zero8r : ((Try.prog.info? 70).bind (·.zero)).map (·.cells) = some (vals (List.replicate 8 0)) := by kernel_rfl
theorem size8r (s : St) : (Try.prog.info? 70).map (·.size) = some (vals s.list).size := by
  rw [vals_size]; kernel_rfl

set_option maxRecDepth 100000 in
set_option maxHeartbeats 4000000 in
theorem block_any (w : World) (gk c n : Nat) (A : Option Addr) (Tk : TypeId) (s : St) (l : List (BitVec 8))
    (hk : Blk w gk Tk (vals K64)) (hb : Bytes w w.heap.size A n l) (hn : 64 ≤ n) (hn2 : n ≤ 140737488355328) :
    Calls Try.prog 43 #[.agg (vals s.list), .slice A n c, .pointer (some ⟨gk, 0, none⟩)] w fun e w' => e = .returned (.agg (vals (block s l).list)) ∧ Grow w noOwn w' := by
  obtain ⟨b, off, rfl, hbB, hcell⟩ := hb.form (by omega)
  have hM := Mem.nil w noOwn
  have hgk := hk.lt
  go_enter Try.func43, Try.ntmps43
  go_wp2_with (first
    | (refine wpList_box_mem hM rfl 70 _ rfl (.agg (vals s.list)) rfl (vals s.list) rfl ?_; clear hM; intro g3 w3 hM)
    | (refine wpList_alloc_mem hM rfl 70 rfl _ zero8r ?_; clear hM; intro g6 w6 hM)
    | (refine wpList_alloc_mem hM rfl 72 rfl _ zero64 ?_; clear hM; intro g7 w7 hM))
  go_loopw [8] (fun i wr => ∃ k : Nat, k ≤ 16 ∧ i = .int .i64 k ∧ Mem w noOwn wr [.blk g7 72 (padv (sched l k)), .blk g6 70 (vals (List.replicate 8 0)), .blk g3 70 (vals s.list)]) (fun i _ => 16 - (intOf i).toNat)
  case atStart => exact ⟨0, by omega, rfl, by exact hM⟩
  case round =>
    clear hM
    obtain ⟨k, hk16, rfl, hMr⟩ := hrel
    have hrd : ∀ j, j < n → wr.cell? ⟨b, off + j, none⟩ = some (V8 (l.getD j 0)) := fun j hj => (hMr.grow.keep (p := ⟨b, off + j, none⟩) hbB (fun e => e)).trans (hcell j hj)
    have H0 := hide (fun (h : k < 16) => hrd (4 * k) (by omega))
    have H1 := hide (fun (h : k < 16) => hrd (4 * k + 1) (by omega))
    have H2 := hide (fun (h : k < 16) => hrd (4 * k + 2) (by omega))
    have H3 := hide (fun (h : k < 16) => hrd (4 * k + 3) (by omega))
    clear hrd hcell
    go_wp2
    · have hlt : k < 16 := by omega
      have d0 := unhide H0 hlt
      have d1 := unhide H1 hlt
      have d2 := unhide H2 hlt
      have d3 := unhide H3 hlt
      have e0 : (0 : Int) ≤ 4 * (k : Int) := by omega
      have f0 : 4 * (k : Int) < (n : Int) := by omega
      have e1 : (0 : Int) ≤ 4 * (k : Int) + 1 := by omega
      have f1 : 4 * (k : Int) + 1 < (n : Int) := by omega
      have e2 : (0 : Int) ≤ 4 * (k : Int) + 2 := by omega
      have f2 : 4 * (k : Int) + 2 < (n : Int) := by omega
      have e3 : (0 : Int) ≤ 4 * (k : Int) + 3 := by omega
      have f3 : 4 * (k : Int) + 3 < (n : Int) := by omega
      have g0 : (k : Int) < 64 := by omega
      have cw : wr.cell? ⟨g7, k, none⟩ = some (V32 ((sched l k).getD k 0)) := (hMr.cell 0 rfl k).trans (padv_get _ _ (by omega) (by rw [sched_length]; omega))
      have fw : wr.frozen? ⟨g7, k, none⟩ = false := hMr.frozen 0 rfl k
      have hM1 := hMr.drew.set 0 rfl k (V32 (be32 (l.getD (4 * k) 0) (l.getD (4 * k + 1) 0) (l.getD (4 * k + 2) 0) (l.getD (4 * k + 3) 0)))
      have hp := padv_set (sched l k) (be32 (l.getD (4 * k) 0) (l.getD (4 * k + 1) 0) (l.getD (4 * k + 2) 0) (l.getD (4 * k + 3) 0)) (by rw [sched_length]; omega)
      rw [sched_length] at hp
      rw [hp] at hM1
      have hsn : sched l (k + 1) = sched l k ++ [be32 (l.getD (4 * k) 0) (l.getD (4 * k + 1) 0) (l.getD (4 * k + 2) 0) (l.getD (4 * k + 3) 0)] := by
        simp only [sched, wnext, sched_length]; rw [if_pos hlt]
      rw [← hsn] at hM1
      have HM1 := hide hM1
      clear hM1 hp hsn
      refine wp_region_still_tail 35 (by kernel_rfl) (by kernel_rfl) ?_
      simp only [List.take_succ_cons, List.take_zero, List.drop_succ_cons, List.drop_zero]
      repeat (refine wpStill_step (fun K hK => ?_); go_simp; (try go_bits); (try (go_ite <;> go_prune <;> (try go_simp) <;> (try go_bits))); refine hK _ ?_; clear hK K)
      refine wpStill_nil ?_
      change wpList _ _ _ _ _ wr.drew
      go_wp2
      go_roundw
      case rel => exact ⟨k + 1, by omega, by go_num, unhide HM1⟩
      case measure => simp [intOf]; omega
    · have hk : k = 16 := by omega
      subst hk
      clear H0 H1 H2 H3
      obtain ⟨wo, rfl⟩ : ∃ wo : World, wo = wr := ⟨_, rfl⟩
      go_simp
      go_loopw [9] (fun i wr => ∃ k : Nat, 16 ≤ k ∧ k ≤ 64 ∧ i = .int .i64 k ∧ Mem w noOwn wr [.blk g7 72 (padv (sched l k)), .blk g6 70 (vals (List.replicate 8 0)), .blk g3 70 (vals s.list)]) (fun i _ => 64 - (intOf i).toNat)
      case atStart => exact ⟨16, by omega, by omega, rfl, hMr⟩
      case round =>
        clear hMr
        obtain ⟨k, hk16, hk64, rfl, hMr⟩ := hrel
        have hlen := sched_length l k
        have hcw : ∀ j, j < 64 → wr.cell? ⟨g7, j, none⟩ = some (V32 ((sched l k).getD j 0)) := fun j hj => (hMr.cell 0 rfl j).trans (padv_get _ _ hj (by omega))
        have H0 := hide (fun (h : k < 64) => hcw (k - 16) (by omega))
        have H1 := hide (fun (h : k < 64) => hcw (k - 15) (by omega))
        have H2 := hide (fun (h : k < 64) => hcw (k - 7) (by omega))
        have H3 := hide (fun (h : k < 64) => hcw (k - 2) (by omega))
        have H4 := hide (fun (h : k < 64) => hcw k (by omega))
        clear hcw hlen
        by_cases hlt : k < 64
        · have d0 := unhide H0 hlt
          have d1 := unhide H1 hlt
          have d2 := unhide H2 hlt
          have d3 := unhide H3 hlt
          have cw := unhide H4 hlt
          have fw : wr.frozen? ⟨g7, k, none⟩ = false := hMr.frozen 0 rfl k
          have e0 : (0 : Int) ≤ (k : Int) - 16 := by omega
          have f0 : (k : Int) - 16 < 64 := by omega
          have e1 : (0 : Int) ≤ (k : Int) - 15 := by omega
          have f1 : (k : Int) - 15 < 64 := by omega
          have e2 : (0 : Int) ≤ (k : Int) - 7 := by omega
          have f2 : (k : Int) - 7 < 64 := by omega
          have e3 : (0 : Int) ≤ (k : Int) - 2 := by omega
          have f3 : (k : Int) - 2 < 64 := by omega
          have g0 : (k : Int) < 64 := by omega
          have hM1 := hMr.drew.set 0 rfl k (V32 ((sched l k).getD (k - 16) 0 + fs0 ((sched l k).getD (k - 15) 0) + (sched l k).getD (k - 7) 0 + fs1 ((sched l k).getD (k - 2) 0)))
          have hp := padv_set (sched l k) ((sched l k).getD (k - 16) 0 + fs0 ((sched l k).getD (k - 15) 0) + (sched l k).getD (k - 7) 0 + fs1 ((sched l k).getD (k - 2) 0)) (by rw [sched_length]; omega)
          rw [sched_length] at hp
          rw [hp] at hM1
          have hsn : sched l (k + 1) = sched l k ++ [(sched l k).getD (k - 16) 0 + fs0 ((sched l k).getD (k - 15) 0) + (sched l k).getD (k - 7) 0 + fs1 ((sched l k).getD (k - 2) 0)] := by
            simp only [sched, wnext, sched_length]; rw [if_neg (by omega)]
          rw [← hsn] at hM1
          have HM1 := hide hM1
          clear hM1 hp hsn
          go_wp2
          refine wp_region_still_tail 29 (by kernel_rfl) (by kernel_rfl) ?_
          simp only [List.take_succ_cons, List.take_zero, List.drop_succ_cons, List.drop_zero]
          repeat (refine wpStill_step (fun K hK => ?_); go_simp; (try go_bits); (try (go_ite <;> go_prune <;> (try go_simp) <;> (try go_bits))); (first | refine hK _ ?_ | (apply Exists.intro; refine ⟨?_, hK _ ?_⟩; go_at_call 56; exact r_any _ _ _ (by omega) (by omega))); clear hK K)
          refine wpStill_nil ?_
          change wpList _ _ _ _ _ wr.drew
          go_wp2
          go_roundw
          case rel => exact ⟨k + 1, by omega, by omega, by go_num, unhide HM1⟩
          case measure => simp [intOf]; omega
        · have hk : k = 64 := by omega
          subst hk
          clear H0 H1 H2 H3 H4
          have hW : padv (sched l 64) = vals (wsched l) := by rw [wsched_eq]; exact padv_full _ (sched_length _ _)
          rw [hW] at hMr
          have hWl : (wsched l).length = 64 := by rw [wsched_eq]; exact sched_length _ _
          clear hW
          have HWl := hide hWl; clear hWl
          go_wp2_with (first
            | (refine wpList_load_mem rfl 70 _ rfl hMr 2 _ _ _ rfl rfl (.array 8 69) (by kernel_rfl) rfl (size8r s) ?_)
            | (refine wpList_alloc_mem hMr rfl 70 rfl _ zero8r ?_; clear hMr; intro g12 w12 hMr)
            | (refine wpList_store_mem rfl 70 _ _ rfl hMr 0 _ _ _ (vals s.list) rfl rfl rfl (size8r s) (vals_zero8_size.trans (vals_list_size _).symm) (oneCells _) ?_; clear hMr; intro w13 hMr _))
          go_loopw [13] (fun i wr => ∃ k : Nat, k ≤ 64 ∧ i = .int .i64 k ∧ Mem w noOwn wr [.blk g12 70 (vals (rnds (wsched l) s k).list), .blk g7 72 (vals (wsched l)), .blk g6 70 (vals (List.replicate 8 0)), .blk g3 70 (vals s.list)]) (fun i _ => 64 - (intOf i).toNat)
          case atStart => exact ⟨0, by omega, rfl, hMr⟩
          case round =>
            clear hMr
            obtain ⟨k, hk64, rfl, hMr⟩ := hrel
            obtain ⟨S, hS⟩ : ∃ S, S = rnds (wsched l) s k := ⟨_, rfl⟩
            rw [← hS] at hMr
            have HS := hide hS; clear hS
            have c0 : wr.cell? ⟨g12, 0, none⟩ = some (V32 S.a) := hMr.cell 0 rfl 0
            have c1 : wr.cell? ⟨g12, 1, none⟩ = some (V32 S.b) := hMr.cell 0 rfl 1
            have c2 : wr.cell? ⟨g12, 2, none⟩ = some (V32 S.c) := hMr.cell 0 rfl 2
            have c3 : wr.cell? ⟨g12, 3, none⟩ = some (V32 S.d) := hMr.cell 0 rfl 3
            have c4 : wr.cell? ⟨g12, 4, none⟩ = some (V32 S.e) := hMr.cell 0 rfl 4
            have c5 : wr.cell? ⟨g12, 5, none⟩ = some (V32 S.f) := hMr.cell 0 rfl 5
            have c6 : wr.cell? ⟨g12, 6, none⟩ = some (V32 S.g) := hMr.cell 0 rfl 6
            have c7 : wr.cell? ⟨g12, 7, none⟩ = some (V32 S.h) := hMr.cell 0 rfl 7
            have hcw : ∀ j, j < 64 → wr.cell? ⟨g7, j, none⟩ = some (V32 ((wsched l).getD j 0)) := fun j hj => (hMr.cell 1 rfl j).trans (vals_get _ _ (by rw [unhide HWl]; exact hj))
            have hck : ∀ j, j < 64 → wr.cell? ⟨gk, j, none⟩ = some (V32 (K64.getD j 0)) := fun j hj => ((hMr.old hk (fun e => e)).cell j).trans (vals_get _ _ hj)
            have H0 := hide (fun (h : k < 64) => hcw k h)
            have H1 := hide (fun (h : k < 64) => hck k h)
            clear hcw hck
            go_wp2_with fail
            · have hlt : k < 64 := by omega
              have d0 := unhide H0 hlt
              have d1 := unhide H1 hlt
              have g0 : (k : Int) < 64 := by omega
              clear H0 H1
              go_quiet (fail)
              go_wp2_with fail
              go_quiet ((go_at_call 56; exact quiet_add_same (r_any _ _ _ (by omega) (by omega))))
              go_wp2_with fail
              go_quiet ((go_at_call 56; exact quiet_add_same (r_any _ _ _ (by omega) (by omega))))
              go_wp2_with (first
                | (refine wpList_build_to rfl 70 _ rfl (vals (rnd S (K64.getD k 0) ((wsched l).getD k 0)).list) (by kernel_rfl) ?_)
                | (refine wpList_store_mem rfl 70 _ _ rfl (hMr.drewN _) 0 _ _ _ (vals (rnd S (K64.getD k 0) ((wsched l).getD k 0)).list) rfl rfl rfl (size8r _) ((vals_list_size _).trans (vals_list_size _).symm) (oneCells _) ?_; clear hMr; intro w1 hMr _))
              have hS := unhide HS
              have hn : rnds (wsched l) s (k + 1) = rnd S (K64.getD k 0) ((wsched l).getD k 0) := by rw [hS]; rfl
              rw [← hn] at hMr
              have HMr := hide hMr
              clear hS hn hMr
              go_roundw
              case rel => exact ⟨k + 1, by omega, by go_num, unhide HMr⟩
              case measure => simp [intOf]; omega
            · have hk64 : k = 64 := by omega
              subst hk64
              clear c0 c1 c2 c3 c4 c5 c6 c7 H0 H1
              obtain ⟨wo, rfl⟩ : ∃ wo : World, wo = wr := ⟨_, rfl⟩
              go_simp
              go_loopw [18] (fun i wr => ∃ k : Nat, k ≤ 8 ∧ i = .int .i64 k ∧ Mem w noOwn wr [.blk g12 70 (vals S.list), .blk g7 72 (vals (wsched l)), .blk g6 70 (vals (List.replicate 8 0)), .blk g3 70 (vals (mix s S k))]) (fun i _ => 8 - (intOf i).toNat)
              case atStart => exact ⟨0, by omega, rfl, hMr⟩
              case round =>
                clear hMr
                obtain ⟨k, hk8, rfl, hMr⟩ := hrel
                have H0 := hide (fun (h : k < 8) => (hMr.cell 3 rfl k).trans (mix_get s S k h))
                have H1 := hide (fun (h : k < 8) => (hMr.cell 0 rfl k).trans (vals_get S.list k h))
                by_cases hlt : k < 8
                · go_wp2_with fail
                  have d0 := unhide H0 hlt
                  have d1 := unhide H1 hlt
                  have f0 := hMr.frozen 3 rfl k
                  have g0 : (k : Int) < 8 := by omega
                  have hM1 := hMr.drew.set 3 rfl k (V32 (s.list.getD k 0 + S.list.getD k 0))
                  rw [mix_set s S k hlt] at hM1
                  have HM1 := hide hM1
                  clear hM1 H0 H1
                  refine wp_region_still_tail 9 (by kernel_rfl) (by kernel_rfl) ?_
                  simp only [List.take_succ_cons, List.take_zero, List.drop_succ_cons, List.drop_zero]
                  repeat (refine wpStill_step (fun K hK => ?_); go_simp; (try go_bits); (try (go_ite <;> go_prune <;> (try go_simp) <;> (try go_bits))); refine hK _ ?_; clear hK K)
                  refine wpStill_nil ?_
                  change wpList _ _ _ _ _ wr.drew
                  go_wp2
                  go_roundw
                  case rel => exact ⟨k + 1, by omega, by go_num, unhide HM1⟩
                  case measure => simp [intOf]; omega
                · have hk8 : k = 8 := by omega
                  subst hk8
                  have hS := unhide HS
                  have hbl : vals (mix s S 8) = vals (block s l).list := by rw [mix_all, hS]; rfl
                  rw [hbl] at hMr
                  clear hS hbl
                  go_wp2_with (first
                    | (refine wpList_load_mem rfl 70 _ rfl hMr 3 _ _ _ rfl rfl (.array 8 69) (by kernel_rfl) rfl (size8r _) ?_)
                    | (refine wpList_store_mem rfl 70 _ _ rfl hMr 2 _ _ _ (vals (block s l).list) rfl rfl rfl (size8r _) (vals_zero8_size.trans (vals_list_size _).symm) (oneCells _) ?_; clear hMr; intro w14 hMr _))
                  exact bodyPost_row rfl rfl _ _ _ (hMr.blk 2 rfl) rfl (.array 8 69) (by kernel_rfl) rfl (size8r _) ⟨rfl, hMr.grow⟩
end Go.Proofs.Ytkcmnhmbpamehaa
