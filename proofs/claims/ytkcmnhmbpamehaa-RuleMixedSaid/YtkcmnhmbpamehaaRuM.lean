/- rule's law: RuleMixed. -/
import Derived.Test.YtkcmnhmbpamehaaRuJ2
namespace Go.Proofs.Ytkcmnhmbpamehaa
open Go.RowKit Go.MapKept
set_option linter.unusedSimpArgs false
set_option linter.unusedVariables false
/-- Votes of one view of the first k nodes, of another view of the others. -/
def mixL (ks : List (List (BitVec 8))) (v v2 : Int) (sum : List (BitVec 8)) (k : Nat) : List Vt := (castN ks 1 1 v sum 4).take k ++ (castN ks 1 1 v2 sum 4).drop k
theorem mixL_ok (ks : List (List (BitVec 8))) (v v2 : Int) (sum : List (BitVec 8)) (hs : sum.length = 32) (k : Nat) : ∀ u ∈ mixL ks v v2 sum k, u.Ok := by
  intro u hu
  rcases List.mem_append.1 hu with h | h
  · exact castN_ok ks 1 1 v sum hs 4 u (List.mem_of_mem_take h)
  · exact castN_ok ks 1 1 v2 sum hs 4 u (List.mem_of_mem_drop h)
theorem mixL_len (ks : List (List (BitVec 8))) (v v2 : Int) (sum : List (BitVec 8)) (k : Nat) (hk : k ≤ 4) : (mixL ks v v2 sum k).length = 4 := by
  unfold mixL
  rw [List.length_append, List.length_take, List.length_drop, castN_len, castN_len]
  omega
theorem vCells_take : ∀ (l : List Vt) (hok : ∀ u ∈ l, u.Ok) (k : Nat), (vCells l).take (k * 68) = vCells (l.take k)
  | [], _, k => by simp [vCells]
  | u :: l, hok, 0 => by simp [vCells]
  | u :: l, hok, k + 1 => by
    have hu := vtc_len (hok u (List.mem_cons_self ..))
    have ih := vCells_take l (fun v hv => hok v (List.mem_cons_of_mem _ hv)) k
    rw [List.take_succ_cons, show vCells (u :: l) = vtc u ++ vCells l from by simp only [vCells, List.flatMap_cons], show vCells (u :: l.take k) = vtc u ++ vCells (l.take k) from by simp only [vCells, List.flatMap_cons], ← ih, show (k + 1) * 68 = (vtc u).length + k * 68 from by rw [hu]; omega, List.take_length_add_append]
theorem vCells_drop : ∀ (l : List Vt) (hok : ∀ u ∈ l, u.Ok) (k : Nat), (vCells l).drop (k * 68) = vCells (l.drop k)
  | [], _, k => by simp [vCells]
  | u :: l, hok, 0 => by simp [vCells]
  | u :: l, hok, k + 1 => by
    have hu := vtc_len (hok u (List.mem_cons_self ..))
    have ih := vCells_drop l (fun v hv => hok v (List.mem_cons_of_mem _ hv)) k
    rw [List.drop_succ_cons, show vCells (u :: l) = vtc u ++ vCells l from by simp only [vCells, List.flatMap_cons], ← ih, show (k + 1) * 68 = (vtc u).length + k * 68 from by rw [hu]; omega, List.drop_length_add_append]
theorem mixL_cells (ks : List (List (BitVec 8))) (v v2 : Int) (sum : List (BitVec 8)) (hs : sum.length = 32) (k : Nat) : vCells (mixL ks v v2 sum k) = (vCells (castN ks 1 1 v sum 4)).take (k * 68) ++ (vCells (castN ks 1 1 v2 sum 4)).drop (k * 68) := by
  unfold mixL
  rw [vCells_app2, vCells_take _ (castN_ok ks 1 1 v sum hs 4), vCells_drop _ (castN_ok ks 1 1 v2 sum hs 4)]
theorem mixL_proves (ks : List (List (BitVec 8))) (h4 : ks.length = 4) (v : Int) (val : List (BitVec 8)) (k : Nat) (hk : k = 1 ∨ k = 2) (h0 : 0 ≤ v) (below : Int) : provesOf ks (mixL ks v (v + 1) (sha val) k) 1 below val = none := by
  have y : ∀ i : Int, 0 ≤ i → i < 4 → votes ks 1 1 v (sha val) (castOf ks 1 1 v (sha val) i) = true := fun i h1 h2 => votes_cast ks 1 1 v (sha val) i (by omega)
  have n : ∀ i : Int, ¬ votes ks 1 1 v (sha val) (castOf ks 1 1 (v + 1) (sha val) i) = true := fun i => by
    rw [votes_not ks 1 1 v (sha val) _ (.inr (.inr (.inl (by show v + 1 ≠ v; omega))))]
    simp
  rcases hk with rfl | rfl
  · have e : mixL ks v (v + 1) (sha val) 1 = [castOf ks 1 1 v (sha val) 0, castOf ks 1 1 (v + 1) (sha val) 1, castOf ks 1 1 (v + 1) (sha val) 2, castOf ks 1 1 (v + 1) (sha val) 3] := rfl
    rw [e, proves_cons, if_neg]
    rintro ⟨_, _, h⟩
    have e2 : onOf ks [castOf ks 1 1 v (sha val) 0, castOf ks 1 1 (v + 1) (sha val) 1, castOf ks 1 1 (v + 1) (sha val) 2, castOf ks 1 1 (v + 1) (sha val) 3] 1 1 v (sha val) = [0] := by
      unfold onOf
      rw [List.take_of_length_le (by simp), List.filter_cons_of_pos (y 0 (by omega) (by omega)), List.filter_cons_of_neg (n 1), List.filter_cons_of_neg (n 2), List.filter_cons_of_neg (n 3)]
      rfl
    unfold meetsOf whoOf at h
    rw [show (castOf ks 1 1 v (sha val) 0).v = v from rfl, e2, h4, show ((4 : Nat) : Int) = 4 from rfl, quorum4, List.length_mergeSort] at h
    cases h
  · have e : mixL ks v (v + 1) (sha val) 2 = [castOf ks 1 1 v (sha val) 0, castOf ks 1 1 v (sha val) 1, castOf ks 1 1 (v + 1) (sha val) 2, castOf ks 1 1 (v + 1) (sha val) 3] := rfl
    rw [e, proves_cons, if_neg]
    rintro ⟨_, _, h⟩
    have e2 : onOf ks [castOf ks 1 1 v (sha val) 0, castOf ks 1 1 v (sha val) 1, castOf ks 1 1 (v + 1) (sha val) 2, castOf ks 1 1 (v + 1) (sha val) 3] 1 1 v (sha val) = [0, 1] := by
      unfold onOf
      rw [List.take_of_length_le (by simp), List.filter_cons_of_pos (y 0 (by omega) (by omega)), List.filter_cons_of_pos (y 1 (by omega) (by omega)), List.filter_cons_of_neg (n 2), List.filter_cons_of_neg (n 3)]
      rfl
    unfold meetsOf whoOf at h
    rw [show (castOf ks 1 1 v (sha val) 0).v = v from rfl, e2, h4, show ((4 : Nat) : Int) = 4 from rfl, quorum4, List.length_mergeSort] at h
    cases h
theorem vCells_ones (l : List Vt) : ∀ u ∈ vCells l, u.oneCell' = true := fun u hu => by
  obtain ⟨v, _, h⟩ := List.mem_flatMap.1 hu
  exact Array.all_eq_true_iff_forall_mem.1 (vtc_all v) u (by simpa using h)
attribute [local irreducible] wpList Code.wp GW Calls
set_option maxRecDepth 100000 in
set_option maxHeartbeats 8000000 in
theorem RuleMixed_any (w : World) (view k : Int) (vn vc : Nat) (D : Option Addr) (val : List (BitVec 8)) (hb : Bytes w w.heap.size D vn val) (hvc : vn ≤ vc) :
    Calls Try.prog 5 #[.int .i64 view, .slice D vn vc, .int .i64 k] w fun e w' => e = .returned (.bool true) ∧ Grow w noOwn w' := by
  have hM := Mem.nil w noOwn
  by_cases hin : 0 ≤ view ∧ view ≤ 7 ∧ vn ≤ 100 ∧ 1 ≤ k ∧ k ≤ 2
  · obtain ⟨h1, h2, h3, h4, h5⟩ := hin
    obtain ⟨ks, hks⟩ : ∃ ks, ks = keysOf (seed1 1#8) 4 := ⟨_, rfl⟩
    have hk4 : ks.length = 4 := by rw [hks]; exact keysOf_length ..
    have HKS := hide hks
    have HK4 := hide hk4
    have hsl := sha_length val
    have tok : True := trivial
    have hl1 := vCells_len _ (castN_ok ks 1 1 view (sha val) hsl 4)
    have hl2 := vCells_len _ (castN_ok ks 1 1 (view + 1) (sha val) hsl 4)
    rw [castN_len] at hl1 hl2
    clear hks
    rcases (by omega : k = 1 ∨ k = 2) with rfl | rfl
    · obtain ⟨lv, hlv⟩ : ∃ lv, lv = mixL ks view (view + 1) (sha val) 1 := ⟨_, rfl⟩
      have hpr := mixL_proves ks hk4 view val 1 (by simp) h1 9
      have hcl := mixL_cells ks view (view + 1) (sha val) hsl 1
      have hok := mixL_ok ks view (view + 1) (sha val) hsl 1
      have hll := mixL_len ks view (view + 1) (sha val) 1 (by omega)
      rw [← hlv] at hpr hcl hok hll
      have HP1 : Hid (pvT (provesOf ks lv 1 9 val) = #[.int .i64 (-1), .bool false]) := hide (by rw [hpr]; rfl)
      have hne : ((1#8 :: val) == val) = false := by
        rw [beq_eq_false_iff_ne]
        intro e
        have := congrArg List.length e
        simp at this
      have HM1 : Hid (mayOf ks 0 (1#8 :: val) 1 9 val lv = false) := hide (by unfold mayOf; rw [hne, hpr]; rfl)
      have HCL := hide hcl
      have HOK := hide hok
      have HL := hide hll
      clear hlv hpr hcl hok hll hne hk4
      go_enter Try.func5, Try.ntmps5
      go_wp2_with (first
        | ((with_reducible refine wl_shape ?_); first | (apply wl_boxa; exact rfl; exact hM; exact rfl; exact rfl; clear hM; intro gg ww hM; simp only [putT, List.set_cons_succ, List.set_cons_zero]) | (apply wl_box1; exact rfl; exact hM; exact rfl; exact rfl; exact rfl; clear hM; intro gg ww hM; simp only [putT, List.set_cons_succ, List.set_cons_zero]) | (apply wl_alloc; exact rfl; exact hM; exact rfl; exact inferInstance; clear hM; intro gg ww hM; simp only [putT, List.set_cons_succ, List.set_cons_zero]) | (apply wl_ld; exact rfl; exact hM; exact rfl; exact rfl; exact inferInstance; exact inferInstance; simp only [putT, List.set_cons_succ, List.set_cons_zero]) | (apply wl_lda; exact rfl; exact hM; exact rfl; exact rfl; exact inferInstance; exact inferInstance; exact inferInstance; exact inferInstance; simp only [putT, List.set_cons_succ, List.set_cons_zero]) | (apply wl_ldr; exact rfl; exact hM; exact rfl; exact rfl; exact inferInstance; exact inferInstance; exact inferInstance; exact inferInstance; simp only [putT, List.set_cons_succ, List.set_cons_zero]) | (apply wl_st; exact rfl; exact hM; exact rfl; exact rfl; exact rfl; exact rfl; exact inferInstance; exact inferInstance; clear hM; intro ww hM; simp only [putT, List.set_cons_succ, List.set_cons_zero]) | (apply wl_sta; exact rfl; exact hM; exact rfl; exact rfl; exact rfl; exact all_oneCell_toArray One.out; exact inferInstance; exact inferInstance; exact inferInstance; clear hM; intro ww hM; simp only [putT, List.set_cons_succ, List.set_cons_zero]) | (apply wl_bs0; exact rfl; exact hM; exact rfl; exact inferInstance; clear hM; intro gg ww hM; simp only [putT, List.set_cons_succ, List.set_cons_zero]) | (apply wl_bs1a; exact rfl; exact hM; exact rfl; exact inferInstance; exact rfl; exact inferInstance; clear hM; intro gg ww hM; simp only [putT, List.set_cons_succ, List.set_cons_zero]) | (apply wl_bs11; exact rfl; exact hM; exact rfl; exact inferInstance; exact rfl; exact rfl; clear hM; intro gg ww hM; simp only [putT, List.set_cons_succ, List.set_cons_zero]) | (apply wl_conv; exact rfl; exact hM; exact rfl; exact rfl; exact inferInstance; exact inferInstance; simp only [putT, List.set_cons_succ, List.set_cons_zero]))
        | (refine wpList_build_to rfl 26 #[(0, .const (.int .u8 1))] rfl (hv (seed1 1#8)) (by kernel_rfl) ?_) | (go_at_call 8; refine (New_any _ 4 (seed1 1#8) rfl).mono ?_; rintro e w1 ⟨⟨p, rfl, g, A, c, rfl, hr0⟩, hg⟩; rw [cnt4, ← unhide HKS] at hr0; replace hM := hM.call hg; have hr1 := hide hr0; clear hr0 hg) | (go_at_call 9; refine (RNew_any _ 4 (seed1 1#8) rfl).mono ?_; rintro e w2 ⟨⟨p, rfl, g2, A2, c2, rfl, hr0⟩, hg⟩; rw [cnt4, ← unhide HKS] at hr0; replace hM := hM.call hg; have hr := hide ((unhide hr1).grow hg); have hrx := hide hr0; have hg0 := hM.grow; have hb2 := hide (bytesUp hb hM.grow); clear hM; have hM := Mem.nil w2 noOwn; clear hr0 hg)
        | (have _t := tok; go_at_call 10; refine (Votes7_any _ g2 c2 4 vn vc A2 D ks 1 view val ((unhide hrx).grow hM.grow) (by omega) (bytesUp (unhide hb2) hM.grow) hvc (by omega)).mono ?_; rintro e1 w3 ⟨A5, c5, rfl, hM1⟩; replace hM := hM.on hM1; simp only [List.cons_append, List.nil_append] at hM; clear hM1; clear tok)
        | (go_at_call 10; refine (Votes7_any _ g2 c2 4 vn vc A2 D ks 1 (view + 1) val ((unhide hrx).grow hM.grow) (by omega) (bytesUp (unhide hb2) hM.grow) hvc (by omega)).mono ?_; rintro e1 w4 ⟨A6, c6, rfl, hM1⟩; replace hM := hM.on hM1; simp only [List.cons_append, List.nil_append] at hM; clear hM1))
      obtain ⟨g5, rfl, -⟩ := row_some (hM.row 1 rfl) (by decide)
      obtain ⟨g6, rfl, -⟩ := row_some (hM.row 0 rfl) (by decide)
      have hc5 := (row_cap (hM.row 1 rfl)).1
      have hc6 := (row_cap (hM.row 0 rfl)).1
      have r5 : Rds w4 noOwn (some ⟨g5, 0, none⟩) 1 68 ((vCells (castN ks 1 1 view (sha val) 4)).take (1 * 68)) := rds_no ((Reads.of_own (hM.row 1 rfl)).take (by omega))
      have r6 : Rds w4 noOwn (some ⟨g6, 68, none⟩) 3 68 ((vCells (castN ks 1 1 (view + 1) (sha val) 4)).drop (1 * 68)) := rds_no (by
        have := (Reads.of_own (hM.row 0 rfl)).cut (k := 1) (cap := c6) (by omega) hc6
        rw [if_neg (by omega)] at this
        exact this)
      have hg1 := hg0.then_ hM.grow
      have hb4 := hide (bytesUp (unhide hb2) hM.grow)
      have hr4 := hide ((unhide hr).grow hM.grow)
      have o6 : One ((vCells (castN ks 1 1 (view + 1) (sha val) 4)).drop (1 * 68)) := ⟨fun u hu => vCells_ones _ u (List.mem_of_mem_drop hu)⟩
      have f1 : (1 : Int) ≤ (c5 : Int) := by omega
      have f2 : ¬ c6 = 1 := by omega
      have f3 : (4 : Int) ≤ (c6 : Int) := by omega
      clear hM hc5 hc6
      have hM := Mem.nil w4 noOwn
      refine wp_region_mem [8] [0, 4, 8, 9] [9] hM (by kernel_rfl) (by kernel_rfl) (by kernel_rfl) (by kernel_rfl) ?_; simp only [initS, Act.put, List.setIfInBounds_toArray, List.set_cons_succ, List.set_cons_zero, List.map_cons, List.map_nil]
      (repeat (first
        | (apply gl_move; (first | exact .inl rfl | exact .inr rfl); exact rfl; exact rfl; simp only [setD, List.set_cons_succ, List.set_cons_zero]) | (apply gl_row00; exact rfl; exact rfl; exact inferInstance; exact rfl; exact rfl; simp only [setD, List.set_cons_succ, List.set_cons_zero]) | (refine gw_at 3 ?_; (apply gl_pure; exact rfl; intro K hK; go_simp; refine hK _ ?_; clear hK K; simp only [setD, List.set_cons_succ, List.set_cons_zero])) | (refine gw_at 7 ?_; (apply gl_pure; exact rfl; intro K hK; go_simp; refine hK _ ?_; clear hK K; simp only [setD, List.set_cons_succ, List.set_cons_zero])) | (apply gl_appv0; exact rfl; exact rfl; exact rfl; exact rfl; exact inferInstance; exact rfl; exact rfl; exact inferInstance; (unfold maxLen; omega); omega; simp only [setD, List.set_cons_succ, List.set_cons_zero]) | (apply gl_appv; exact rfl; exact rfl; exact rfl; exact rfl; exact inferInstance; exact rfl; exact rfl; exact inferInstance; exact One.out; (unfold maxLen; omega); omega; simp only [setD, List.set_cons_succ, List.set_cons_zero]) | (apply gl_moveP; exact .inr rfl; exact rfl; exact rfl; exact rfl; exact (fun v w w' hg h => RowFrom.grow h hg); simp only [setD, List.set_cons_succ, List.set_cons_zero]) | (apply gl_move; (first | exact .inl rfl | exact .inr rfl); exact rfl; exact rfl; simp only [setD, List.set_cons_succ, List.set_cons_zero]) | (apply gl_ld; exact rfl; exact rfl; exact rfl; exact inferInstance; exact inferInstance; simp only [setD, List.set_cons_succ, List.set_cons_zero]) | (apply gl_lda; exact rfl; exact rfl; exact rfl; exact inferInstance; exact inferInstance; exact inferInstance; exact inferInstance; simp only [setD, List.set_cons_succ, List.set_cons_zero]) | (apply gl_ldr; exact rfl; exact rfl; exact rfl; exact inferInstance; exact inferInstance; exact inferInstance; exact inferInstance; simp only [setD, List.set_cons_succ, List.set_cons_zero]) | (apply gl_cmp true; exact rfl; exact rfl; exact rfl; exact rfl; (simp only [cmpB, Option.some.injEq, decide_eq_true_eq, ne_eq]; omega); simp only [setD, List.set_cons_succ, List.set_cons_zero]) | (apply gl_cmp false; exact rfl; exact rfl; exact rfl; exact rfl; (simp only [cmpB, Option.some.injEq, decide_eq_false_iff_not, ne_eq]; omega); simp only [setD, List.set_cons_succ, List.set_cons_zero]) | (apply gl_pick; exact rfl; exact rfl; exact rfl; exact rfl; exact rfl; simp only [setD, List.set_cons_succ, List.set_cons_zero, cond_true, cond_false]) | (apply gl_conv; exact rfl; exact rfl; exact rfl; exact inferInstance; exact inferInstance; simp only [setD, List.set_cons_succ, List.set_cons_zero]) | (apply gl_skip; exact rfl; simp only [setD, List.set_cons_succ, List.set_cons_zero]) | (apply gl_moveP; (first | exact .inl rfl | exact .inr rfl); exact rfl; exact rfl; exact rfl; (first | exact FRow.grow | exact FBlk.grow | exact FAgg.grow); simp only [setD, List.set_cons_succ, List.set_cons_zero]) | (refine gw_isPure rfl ?_; apply gl_pure; exact rfl; intro K hK; go_simp; refine hK _ ?_; clear hK K; simp only [setD, List.set_cons_succ, List.set_cons_zero])))
      refine gw_nil ?_; intro γ w5 hC' hk'; simp only [slAct, slVals, Slot.get]
      obtain ⟨A7, c7, e7, hc7, h7⟩ : ∃ A c, γ 11 = Value.slice A 4 c ∧ 4 ≤ c ∧ Reads w5 w5.heap.size 68 A 4 _ := RowFrom.slice (hk' 9 11 _ rfl rfl rfl)
      simp only [e7]
      rw [← unhide HCL] at h7
      have hg2 := hg1.then_ hC'.1.grow
      have hb5 := hide (bytesUp (unhide hb4) hC'.1.grow)
      have hr5 := hide ((unhide hr4).grow hC'.1.grow)
      have h7' := hide h7
      clear hM hC' hk' e7 h7
      have hM := Mem.nil w5 noOwn
      have rb5 : RdsB w5 noOwn D vn val := rdsB_no (unhide hb5)
      go_wp2_with (first
        | ((with_reducible refine wl_shape ?_); first | (apply wl_boxa; exact rfl; exact hM; exact rfl; exact rfl; clear hM; intro gg ww hM; simp only [putT, List.set_cons_succ, List.set_cons_zero]) | (apply wl_box1; exact rfl; exact hM; exact rfl; exact rfl; exact rfl; clear hM; intro gg ww hM; simp only [putT, List.set_cons_succ, List.set_cons_zero]) | (apply wl_alloc; exact rfl; exact hM; exact rfl; exact inferInstance; clear hM; intro gg ww hM; simp only [putT, List.set_cons_succ, List.set_cons_zero]) | (apply wl_ld; exact rfl; exact hM; exact rfl; exact rfl; exact inferInstance; exact inferInstance; simp only [putT, List.set_cons_succ, List.set_cons_zero]) | (apply wl_lda; exact rfl; exact hM; exact rfl; exact rfl; exact inferInstance; exact inferInstance; exact inferInstance; exact inferInstance; simp only [putT, List.set_cons_succ, List.set_cons_zero]) | (apply wl_ldr; exact rfl; exact hM; exact rfl; exact rfl; exact inferInstance; exact inferInstance; exact inferInstance; exact inferInstance; simp only [putT, List.set_cons_succ, List.set_cons_zero]) | (apply wl_st; exact rfl; exact hM; exact rfl; exact rfl; exact rfl; exact rfl; exact inferInstance; exact inferInstance; clear hM; intro ww hM; simp only [putT, List.set_cons_succ, List.set_cons_zero]) | (apply wl_sta; exact rfl; exact hM; exact rfl; exact rfl; exact rfl; exact all_oneCell_toArray One.out; exact inferInstance; exact inferInstance; exact inferInstance; clear hM; intro ww hM; simp only [putT, List.set_cons_succ, List.set_cons_zero]) | (apply wl_bs0; exact rfl; exact hM; exact rfl; exact inferInstance; clear hM; intro gg ww hM; simp only [putT, List.set_cons_succ, List.set_cons_zero]) | (apply wl_bs1a; exact rfl; exact hM; exact rfl; exact inferInstance; exact rfl; exact inferInstance; clear hM; intro gg ww hM; simp only [putT, List.set_cons_succ, List.set_cons_zero]) | (apply wl_bs11; exact rfl; exact hM; exact rfl; exact inferInstance; exact rfl; exact rfl; clear hM; intro gg ww hM; simp only [putT, List.set_cons_succ, List.set_cons_zero]) | (apply wl_conv; exact rfl; exact hM; exact rfl; exact rfl; exact inferInstance; exact inferInstance; simp only [putT, List.set_cons_succ, List.set_cons_zero]))
        | (go_at_call 13; refine (Proves_any _ g c 4 c7 vn vc A A7 D ks lv 1 9 val ((unhide hr5).grow hM.grow) ((unhide h7').up hM.grow) (unhide HL) (by omega) (unhide HOK) (by rw [unhide HK4]; decide) (bytesUp (unhide hb5) hM.grow) hvc (by omega)).mono ?_; rw [unhide HP1]; rintro e1 w6 ⟨rfl, hg⟩; replace hM := hM.call hg; clear hg)
        | (apply wl_appv; exact rfl; exact hM; exact rfl; exact inferInstance; exact rfl; exact rfl; exact (inferInstance); exact One.out; exact inferInstance; (unfold maxLen; omega); omega; exact rfl; exact rfl; clear hM; intro A8 c8 ww hM; simp only [List.set_cons_succ, List.set_cons_zero] at hM; simp only [putT, List.set_cons_succ, List.set_cons_zero])
        | (refine wpList_build_to rfl 40 _ rfl #[.int .i64 0, .slice A8 (1 + vn) c8, .slice none 0 0] (by kernel_rfl) ?_)
        | (go_at_call 15; refine (May_any _ g c 4 c7 vn vc (1 + vn) c8 0 0 A A7 D A8 none ks lv 1 9 0 (1#8 :: val) val ((unhide hr5).grow hM.grow) (Reads.of_own (hM.row 0 rfl)) ((unhide h7').up hM.grow) (unhide HL) (by omega) (unhide HOK) (by rw [unhide HK4]; decide) (bytesUp (unhide hb5) hM.grow) hvc (by omega)).mono ?_; rw [unhide HM1]; rintro e1 w6 ⟨rfl, hg⟩; replace hM := hM.call hg; clear hg)
        | (go_at_call 14; refine (known7_any _).mono ?_; rintro e1 w3 ⟨rfl, hg⟩; replace hM := hM.call hg; clear hg))
      go_ret
      exact ⟨rfl, hg2.then_ hM.grow⟩
    · obtain ⟨lv, hlv⟩ : ∃ lv, lv = mixL ks view (view + 1) (sha val) 2 := ⟨_, rfl⟩
      have hpr := mixL_proves ks hk4 view val 2 (by simp) h1 9
      have hcl := mixL_cells ks view (view + 1) (sha val) hsl 2
      have hok := mixL_ok ks view (view + 1) (sha val) hsl 2
      have hll := mixL_len ks view (view + 1) (sha val) 2 (by omega)
      rw [← hlv] at hpr hcl hok hll
      have HP1 : Hid (pvT (provesOf ks lv 1 9 val) = #[.int .i64 (-1), .bool false]) := hide (by rw [hpr]; rfl)
      have hne : ((1#8 :: val) == val) = false := by
        rw [beq_eq_false_iff_ne]
        intro e
        have := congrArg List.length e
        simp at this
      have HM1 : Hid (mayOf ks 0 (1#8 :: val) 1 9 val lv = false) := hide (by unfold mayOf; rw [hne, hpr]; rfl)
      have HCL := hide hcl
      have HOK := hide hok
      have HL := hide hll
      clear hlv hpr hcl hok hll hne hk4
      go_enter Try.func5, Try.ntmps5
      go_wp2_with (first
        | ((with_reducible refine wl_shape ?_); first | (apply wl_boxa; exact rfl; exact hM; exact rfl; exact rfl; clear hM; intro gg ww hM; simp only [putT, List.set_cons_succ, List.set_cons_zero]) | (apply wl_box1; exact rfl; exact hM; exact rfl; exact rfl; exact rfl; clear hM; intro gg ww hM; simp only [putT, List.set_cons_succ, List.set_cons_zero]) | (apply wl_alloc; exact rfl; exact hM; exact rfl; exact inferInstance; clear hM; intro gg ww hM; simp only [putT, List.set_cons_succ, List.set_cons_zero]) | (apply wl_ld; exact rfl; exact hM; exact rfl; exact rfl; exact inferInstance; exact inferInstance; simp only [putT, List.set_cons_succ, List.set_cons_zero]) | (apply wl_lda; exact rfl; exact hM; exact rfl; exact rfl; exact inferInstance; exact inferInstance; exact inferInstance; exact inferInstance; simp only [putT, List.set_cons_succ, List.set_cons_zero]) | (apply wl_ldr; exact rfl; exact hM; exact rfl; exact rfl; exact inferInstance; exact inferInstance; exact inferInstance; exact inferInstance; simp only [putT, List.set_cons_succ, List.set_cons_zero]) | (apply wl_st; exact rfl; exact hM; exact rfl; exact rfl; exact rfl; exact rfl; exact inferInstance; exact inferInstance; clear hM; intro ww hM; simp only [putT, List.set_cons_succ, List.set_cons_zero]) | (apply wl_sta; exact rfl; exact hM; exact rfl; exact rfl; exact rfl; exact all_oneCell_toArray One.out; exact inferInstance; exact inferInstance; exact inferInstance; clear hM; intro ww hM; simp only [putT, List.set_cons_succ, List.set_cons_zero]) | (apply wl_bs0; exact rfl; exact hM; exact rfl; exact inferInstance; clear hM; intro gg ww hM; simp only [putT, List.set_cons_succ, List.set_cons_zero]) | (apply wl_bs1a; exact rfl; exact hM; exact rfl; exact inferInstance; exact rfl; exact inferInstance; clear hM; intro gg ww hM; simp only [putT, List.set_cons_succ, List.set_cons_zero]) | (apply wl_bs11; exact rfl; exact hM; exact rfl; exact inferInstance; exact rfl; exact rfl; clear hM; intro gg ww hM; simp only [putT, List.set_cons_succ, List.set_cons_zero]) | (apply wl_conv; exact rfl; exact hM; exact rfl; exact rfl; exact inferInstance; exact inferInstance; simp only [putT, List.set_cons_succ, List.set_cons_zero]))
        | (refine wpList_build_to rfl 26 #[(0, .const (.int .u8 1))] rfl (hv (seed1 1#8)) (by kernel_rfl) ?_) | (go_at_call 8; refine (New_any _ 4 (seed1 1#8) rfl).mono ?_; rintro e w1 ⟨⟨p, rfl, g, A, c, rfl, hr0⟩, hg⟩; rw [cnt4, ← unhide HKS] at hr0; replace hM := hM.call hg; have hr1 := hide hr0; clear hr0 hg) | (go_at_call 9; refine (RNew_any _ 4 (seed1 1#8) rfl).mono ?_; rintro e w2 ⟨⟨p, rfl, g2, A2, c2, rfl, hr0⟩, hg⟩; rw [cnt4, ← unhide HKS] at hr0; replace hM := hM.call hg; have hr := hide ((unhide hr1).grow hg); have hrx := hide hr0; have hg0 := hM.grow; have hb2 := hide (bytesUp hb hM.grow); clear hM; have hM := Mem.nil w2 noOwn; clear hr0 hg)
        | (have _t := tok; go_at_call 10; refine (Votes7_any _ g2 c2 4 vn vc A2 D ks 1 view val ((unhide hrx).grow hM.grow) (by omega) (bytesUp (unhide hb2) hM.grow) hvc (by omega)).mono ?_; rintro e1 w3 ⟨A5, c5, rfl, hM1⟩; replace hM := hM.on hM1; simp only [List.cons_append, List.nil_append] at hM; clear hM1; clear tok)
        | (go_at_call 10; refine (Votes7_any _ g2 c2 4 vn vc A2 D ks 1 (view + 1) val ((unhide hrx).grow hM.grow) (by omega) (bytesUp (unhide hb2) hM.grow) hvc (by omega)).mono ?_; rintro e1 w4 ⟨A6, c6, rfl, hM1⟩; replace hM := hM.on hM1; simp only [List.cons_append, List.nil_append] at hM; clear hM1))
      obtain ⟨g5, rfl, -⟩ := row_some (hM.row 1 rfl) (by decide)
      obtain ⟨g6, rfl, -⟩ := row_some (hM.row 0 rfl) (by decide)
      have hc5 := (row_cap (hM.row 1 rfl)).1
      have hc6 := (row_cap (hM.row 0 rfl)).1
      have r5 : Rds w4 noOwn (some ⟨g5, 0, none⟩) 2 68 ((vCells (castN ks 1 1 view (sha val) 4)).take (2 * 68)) := rds_no ((Reads.of_own (hM.row 1 rfl)).take (by omega))
      have r6 : Rds w4 noOwn (some ⟨g6, 136, none⟩) 2 68 ((vCells (castN ks 1 1 (view + 1) (sha val) 4)).drop (2 * 68)) := rds_no (by
        have := (Reads.of_own (hM.row 0 rfl)).cut (k := 2) (cap := c6) (by omega) hc6
        rw [if_neg (by omega)] at this
        exact this)
      have hg1 := hg0.then_ hM.grow
      have hb4 := hide (bytesUp (unhide hb2) hM.grow)
      have hr4 := hide ((unhide hr).grow hM.grow)
      have o6 : One ((vCells (castN ks 1 1 (view + 1) (sha val) 4)).drop (2 * 68)) := ⟨fun u hu => vCells_ones _ u (List.mem_of_mem_drop hu)⟩
      have f1 : (2 : Int) ≤ (c5 : Int) := by omega
      have f2 : ¬ c6 = 2 := by omega
      have f3 : (4 : Int) ≤ (c6 : Int) := by omega
      clear hM hc5 hc6
      have hM := Mem.nil w4 noOwn
      refine wp_region_mem [8] [0, 4, 8, 9] [9] hM (by kernel_rfl) (by kernel_rfl) (by kernel_rfl) (by kernel_rfl) ?_; simp only [initS, Act.put, List.setIfInBounds_toArray, List.set_cons_succ, List.set_cons_zero, List.map_cons, List.map_nil]
      (repeat (first
        | (apply gl_move; (first | exact .inl rfl | exact .inr rfl); exact rfl; exact rfl; simp only [setD, List.set_cons_succ, List.set_cons_zero]) | (apply gl_row00; exact rfl; exact rfl; exact inferInstance; exact rfl; exact rfl; simp only [setD, List.set_cons_succ, List.set_cons_zero]) | (refine gw_at 3 ?_; (apply gl_pure; exact rfl; intro K hK; go_simp; refine hK _ ?_; clear hK K; simp only [setD, List.set_cons_succ, List.set_cons_zero])) | (refine gw_at 7 ?_; (apply gl_pure; exact rfl; intro K hK; go_simp; refine hK _ ?_; clear hK K; simp only [setD, List.set_cons_succ, List.set_cons_zero])) | (apply gl_appv0; exact rfl; exact rfl; exact rfl; exact rfl; exact inferInstance; exact rfl; exact rfl; exact inferInstance; (unfold maxLen; omega); omega; simp only [setD, List.set_cons_succ, List.set_cons_zero]) | (apply gl_appv; exact rfl; exact rfl; exact rfl; exact rfl; exact inferInstance; exact rfl; exact rfl; exact inferInstance; exact One.out; (unfold maxLen; omega); omega; simp only [setD, List.set_cons_succ, List.set_cons_zero]) | (apply gl_moveP; exact .inr rfl; exact rfl; exact rfl; exact rfl; exact (fun v w w' hg h => RowFrom.grow h hg); simp only [setD, List.set_cons_succ, List.set_cons_zero]) | (apply gl_move; (first | exact .inl rfl | exact .inr rfl); exact rfl; exact rfl; simp only [setD, List.set_cons_succ, List.set_cons_zero]) | (apply gl_ld; exact rfl; exact rfl; exact rfl; exact inferInstance; exact inferInstance; simp only [setD, List.set_cons_succ, List.set_cons_zero]) | (apply gl_lda; exact rfl; exact rfl; exact rfl; exact inferInstance; exact inferInstance; exact inferInstance; exact inferInstance; simp only [setD, List.set_cons_succ, List.set_cons_zero]) | (apply gl_ldr; exact rfl; exact rfl; exact rfl; exact inferInstance; exact inferInstance; exact inferInstance; exact inferInstance; simp only [setD, List.set_cons_succ, List.set_cons_zero]) | (apply gl_cmp true; exact rfl; exact rfl; exact rfl; exact rfl; (simp only [cmpB, Option.some.injEq, decide_eq_true_eq, ne_eq]; omega); simp only [setD, List.set_cons_succ, List.set_cons_zero]) | (apply gl_cmp false; exact rfl; exact rfl; exact rfl; exact rfl; (simp only [cmpB, Option.some.injEq, decide_eq_false_iff_not, ne_eq]; omega); simp only [setD, List.set_cons_succ, List.set_cons_zero]) | (apply gl_pick; exact rfl; exact rfl; exact rfl; exact rfl; exact rfl; simp only [setD, List.set_cons_succ, List.set_cons_zero, cond_true, cond_false]) | (apply gl_conv; exact rfl; exact rfl; exact rfl; exact inferInstance; exact inferInstance; simp only [setD, List.set_cons_succ, List.set_cons_zero]) | (apply gl_skip; exact rfl; simp only [setD, List.set_cons_succ, List.set_cons_zero]) | (apply gl_moveP; (first | exact .inl rfl | exact .inr rfl); exact rfl; exact rfl; exact rfl; (first | exact FRow.grow | exact FBlk.grow | exact FAgg.grow); simp only [setD, List.set_cons_succ, List.set_cons_zero]) | (refine gw_isPure rfl ?_; apply gl_pure; exact rfl; intro K hK; go_simp; refine hK _ ?_; clear hK K; simp only [setD, List.set_cons_succ, List.set_cons_zero])))
      refine gw_nil ?_; intro γ w5 hC' hk'; simp only [slAct, slVals, Slot.get]
      obtain ⟨A7, c7, e7, hc7, h7⟩ : ∃ A c, γ 11 = Value.slice A 4 c ∧ 4 ≤ c ∧ Reads w5 w5.heap.size 68 A 4 _ := RowFrom.slice (hk' 9 11 _ rfl rfl rfl)
      simp only [e7]
      rw [← unhide HCL] at h7
      have hg2 := hg1.then_ hC'.1.grow
      have hb5 := hide (bytesUp (unhide hb4) hC'.1.grow)
      have hr5 := hide ((unhide hr4).grow hC'.1.grow)
      have h7' := hide h7
      clear hM hC' hk' e7 h7
      have hM := Mem.nil w5 noOwn
      have rb5 : RdsB w5 noOwn D vn val := rdsB_no (unhide hb5)
      go_wp2_with (first
        | ((with_reducible refine wl_shape ?_); first | (apply wl_boxa; exact rfl; exact hM; exact rfl; exact rfl; clear hM; intro gg ww hM; simp only [putT, List.set_cons_succ, List.set_cons_zero]) | (apply wl_box1; exact rfl; exact hM; exact rfl; exact rfl; exact rfl; clear hM; intro gg ww hM; simp only [putT, List.set_cons_succ, List.set_cons_zero]) | (apply wl_alloc; exact rfl; exact hM; exact rfl; exact inferInstance; clear hM; intro gg ww hM; simp only [putT, List.set_cons_succ, List.set_cons_zero]) | (apply wl_ld; exact rfl; exact hM; exact rfl; exact rfl; exact inferInstance; exact inferInstance; simp only [putT, List.set_cons_succ, List.set_cons_zero]) | (apply wl_lda; exact rfl; exact hM; exact rfl; exact rfl; exact inferInstance; exact inferInstance; exact inferInstance; exact inferInstance; simp only [putT, List.set_cons_succ, List.set_cons_zero]) | (apply wl_ldr; exact rfl; exact hM; exact rfl; exact rfl; exact inferInstance; exact inferInstance; exact inferInstance; exact inferInstance; simp only [putT, List.set_cons_succ, List.set_cons_zero]) | (apply wl_st; exact rfl; exact hM; exact rfl; exact rfl; exact rfl; exact rfl; exact inferInstance; exact inferInstance; clear hM; intro ww hM; simp only [putT, List.set_cons_succ, List.set_cons_zero]) | (apply wl_sta; exact rfl; exact hM; exact rfl; exact rfl; exact rfl; exact all_oneCell_toArray One.out; exact inferInstance; exact inferInstance; exact inferInstance; clear hM; intro ww hM; simp only [putT, List.set_cons_succ, List.set_cons_zero]) | (apply wl_bs0; exact rfl; exact hM; exact rfl; exact inferInstance; clear hM; intro gg ww hM; simp only [putT, List.set_cons_succ, List.set_cons_zero]) | (apply wl_bs1a; exact rfl; exact hM; exact rfl; exact inferInstance; exact rfl; exact inferInstance; clear hM; intro gg ww hM; simp only [putT, List.set_cons_succ, List.set_cons_zero]) | (apply wl_bs11; exact rfl; exact hM; exact rfl; exact inferInstance; exact rfl; exact rfl; clear hM; intro gg ww hM; simp only [putT, List.set_cons_succ, List.set_cons_zero]) | (apply wl_conv; exact rfl; exact hM; exact rfl; exact rfl; exact inferInstance; exact inferInstance; simp only [putT, List.set_cons_succ, List.set_cons_zero]))
        | (go_at_call 13; refine (Proves_any _ g c 4 c7 vn vc A A7 D ks lv 1 9 val ((unhide hr5).grow hM.grow) ((unhide h7').up hM.grow) (unhide HL) (by omega) (unhide HOK) (by rw [unhide HK4]; decide) (bytesUp (unhide hb5) hM.grow) hvc (by omega)).mono ?_; rw [unhide HP1]; rintro e1 w6 ⟨rfl, hg⟩; replace hM := hM.call hg; clear hg)
        | (apply wl_appv; exact rfl; exact hM; exact rfl; exact inferInstance; exact rfl; exact rfl; exact (inferInstance); exact One.out; exact inferInstance; (unfold maxLen; omega); omega; exact rfl; exact rfl; clear hM; intro A8 c8 ww hM; simp only [List.set_cons_succ, List.set_cons_zero] at hM; simp only [putT, List.set_cons_succ, List.set_cons_zero])
        | (refine wpList_build_to rfl 40 _ rfl #[.int .i64 0, .slice A8 (1 + vn) c8, .slice none 0 0] (by kernel_rfl) ?_)
        | (go_at_call 15; refine (May_any _ g c 4 c7 vn vc (1 + vn) c8 0 0 A A7 D A8 none ks lv 1 9 0 (1#8 :: val) val ((unhide hr5).grow hM.grow) (Reads.of_own (hM.row 0 rfl)) ((unhide h7').up hM.grow) (unhide HL) (by omega) (unhide HOK) (by rw [unhide HK4]; decide) (bytesUp (unhide hb5) hM.grow) hvc (by omega)).mono ?_; rw [unhide HM1]; rintro e1 w6 ⟨rfl, hg⟩; replace hM := hM.call hg; clear hg)
        | (go_at_call 14; refine (known7_any _).mono ?_; rintro e1 w3 ⟨rfl, hg⟩; replace hM := hM.call hg; clear hg))
      go_ret
      exact ⟨rfl, hg2.then_ hM.grow⟩
  · go_enter Try.func5, Try.ntmps5
    go_wp2_with fail
    all_goals first | (exfalso; omega) | (go_ret; exact ⟨rfl, hM.grow⟩)
end Go.Proofs.Ytkcmnhmbpamehaa
