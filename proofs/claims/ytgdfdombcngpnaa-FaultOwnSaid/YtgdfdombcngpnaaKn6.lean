/- cert's example that every law runs. -/
import Derived.Test.YtgdfdombcngpnaaMeet
namespace Go.Proofs.Ytgdfdombcngpnaa
open Go.RowKit Go.MapKept
set_option linter.unusedSimpArgs false
set_option linter.unusedVariables false
theorem row_cell {w0 : World} {own : Nat → Prop} {L : List Item} {g j n c m : Nat} {e : TypeId} {xs : List Value} {v : Value} [h : HasRow L (.slice (some ⟨g, 0, none⟩) n c) e 1 m xs] [h2 : AtL xs j v] : Cell w0 own L ⟨g, j, none⟩ v := ⟨fun w hM => by
  have hrow : w.ownsRow 0 e 1 (.slice (some ⟨g, 0, none⟩) n c) m xs := hM.has _ h.out
  have hl := hrow.1
  have hj : j < xs.length := (List.getElem?_eq_some_iff.1 h2.out).1
  rcases hrow.2 with ⟨e1, _⟩ | ⟨g', cap, cur, e1, _, hg, _, _, h3, h4⟩
  · cases e1
  · injection e1 with e2 e3 e4
    injection e2 with e2
    injection e2 with e2
    subst e2
    have hblk : Blk w g e cur := hg
    rw [hblk.cell]
    have h5 := h2.out
    rw [← h4, List.getElem?_take, if_pos (by omega)] at h5
    simpa using h5⟩
def seed1 (b : BitVec 8) : List (BitVec 8) := b :: List.replicate 31 0
theorem cnt4 : cnt 4 = 4 := by decide
theorem checkOf_own (ks : List (List (BitVec 8))) (i : Int) (l : List (BitVec 8)) (h : 0 ≤ i ∧ i < ks.length) : checkOf ks i l (sealOf ks i l) = true := by
  unfold checkOf
  simp [h]
theorem good_cast (ks : List (List (BitVec 8))) (k s v : Int) (sum : List (BitVec 8)) (fr : Int) (h : 0 ≤ fr ∧ fr < ks.length) : goodOf ks (castOf ks k s v sum fr) = true := checkOf_own ks fr _ h
theorem votes_cast (ks : List (List (BitVec 8))) (k s v : Int) (sum : List (BitVec 8)) (fr : Int) (h : 0 ≤ fr ∧ fr < ks.length) : votes ks k s v sum (castOf ks k s v sum fr) = true := by
  unfold votes
  rw [good_cast ks k s v sum fr h]
  simp [castOf]
theorem votes_not (ks : List (List (BitVec 8))) (k s v : Int) (sum : List (BitVec 8)) (u : Vt) (h : u.k ≠ k ∨ u.s ≠ s ∨ u.v ≠ v ∨ u.sum ≠ sum) : votes ks k s v sum u = false := by
  unfold votes
  rcases h with h | h | h | h <;> simp [h]
theorem quorum4 : quorumOf 4 = 3 := by unfold quorumOf faultsOf wrap64; omega
def kv (ks : List (List (BitVec 8))) : Vt := castOf ks 2 1 2 (seed1 3#8) 0
theorem kv_ok (ks : List (List (BitVec 8))) : (kv ks).Ok := castOf_ok _ _ _ _ _ _ rfl
theorem kv_who2 (ks : List (List (BitVec 8))) (h : ks.length = 4) : whoOf ks [kv ks, kv ks] 2 1 2 (seed1 3#8) = [0] := by
  have e : votes ks 2 1 2 (seed1 3#8) (kv ks) = true := votes_cast ks 2 1 2 (seed1 3#8) 0 (by omega)
  have e2 : onOf ks [kv ks, kv ks] 2 1 2 (seed1 3#8) = [0, 0] := by
    unfold onOf
    simp only [List.take_succ_cons, List.take_nil]
    rw [List.filter_cons_of_pos e, List.filter_cons_of_pos e]
    rfl
  unfold whoOf
  rw [e2, show ddx [0, 0] = [0] from rfl, List.mergeSort_singleton]
theorem kv_who3 (ks : List (List (BitVec 8))) (h : ks.length = 4) : meetsOf ks [kv ks, kv ks, kv ks] 2 1 2 (seed1 3#8) = false := by
  have e : votes ks 2 1 2 (seed1 3#8) (kv ks) = true := votes_cast ks 2 1 2 (seed1 3#8) 0 (by omega)
  have e2 : onOf ks [kv ks, kv ks, kv ks] 2 1 2 (seed1 3#8) = [0, 0, 0] := by
    unfold onOf
    simp only [List.take_succ_cons, List.take_nil]
    rw [List.filter_cons_of_pos e, List.filter_cons_of_pos e, List.filter_cons_of_pos e]
    rfl
  unfold meetsOf whoOf
  rw [e2, show ddx [0, 0, 0] = [0] from rfl, List.mergeSort_singleton, h, show ((4 : Nat) : Int) = 4 from rfl, quorum4]
  rfl
attribute [local irreducible] wpList Code.wp GW Calls
set_option maxRecDepth 100000 in
set_option maxHeartbeats 4000000 in
theorem known6_any (w : World) : Calls Try.prog 34 #[] w fun e w' => e = .returned (.bool true) ∧ Grow w noOwn w' := by
  have hM := Mem.nil w noOwn
  obtain ⟨ks, hks⟩ : ∃ ks, ks = keysOf (seed1 1#8) 4 := ⟨_, rfl⟩
  have hk4 : ks.length = 4 := by rw [hks]; exact keysOf_length ..
  have hw2 := kv_who2 ks hk4
  have hw3 := kv_who3 ks hk4
  have hgd : goodOf ks (kv ks) = true := good_cast ks 2 1 2 (seed1 3#8) 0 (by omega)
  obtain ⟨v, hv⟩ : ∃ v, v = kv ks := ⟨_, rfl⟩
  have vok : v.Ok := by rw [hv]; exact kv_ok ks
  rw [← hv] at hw2 hw3 hgd
  have hok2 : ∀ u ∈ [v, v], u.Ok := by simp [vok]
  have hok3 : ∀ u ∈ [v, v, v], u.Ok := by simp [vok]
  have hl2 := vCells_len _ hok2
  have hl3 := vCells_len _ hok3
  have z4 : SzA (vtc v).toArray 68 := ⟨by simpa using vtc_len vok⟩
  have HV := hide hv
  have HKS := hide hks
  have HW2 := hide hw2
  have HW3 := hide hw3
  have HGD := hide hgd
  have HK4 := hide hk4
  clear hv hks hw2 hw3 hgd hk4
  go_enter Try.func34, Try.ntmps34
  go_wp2_with (first
    | ((with_reducible refine wl_shape ?_); first | (apply wl_boxa; exact rfl; exact hM; exact rfl; exact rfl; clear hM; intro gg ww hM; simp only [putT, List.set_cons_succ, List.set_cons_zero]) | (apply wl_box1; exact rfl; exact hM; exact rfl; exact rfl; exact rfl; clear hM; intro gg ww hM; simp only [putT, List.set_cons_succ, List.set_cons_zero]) | (apply wl_alloc; exact rfl; exact hM; exact rfl; exact inferInstance; clear hM; intro gg ww hM; simp only [putT, List.set_cons_succ, List.set_cons_zero]) | (apply wl_ld; exact rfl; exact hM; exact rfl; exact rfl; exact inferInstance; exact inferInstance; simp only [putT, List.set_cons_succ, List.set_cons_zero]) | (apply wl_lda; exact rfl; exact hM; exact rfl; exact rfl; exact inferInstance; exact inferInstance; exact inferInstance; exact inferInstance; simp only [putT, List.set_cons_succ, List.set_cons_zero]) | (apply wl_ldr; exact rfl; exact hM; exact rfl; exact rfl; exact inferInstance; exact inferInstance; exact inferInstance; exact inferInstance; simp only [putT, List.set_cons_succ, List.set_cons_zero]) | (apply wl_st; exact rfl; exact hM; exact rfl; exact rfl; exact rfl; exact rfl; exact inferInstance; exact inferInstance; clear hM; intro ww hM; simp only [putT, List.set_cons_succ, List.set_cons_zero]) | (apply wl_sta; exact rfl; exact hM; exact rfl; exact rfl; exact rfl; exact all_oneCell_toArray One.out; exact inferInstance; exact inferInstance; exact inferInstance; clear hM; intro ww hM; simp only [putT, List.set_cons_succ, List.set_cons_zero]) | (apply wl_bs0; exact rfl; exact hM; exact rfl; exact inferInstance; clear hM; intro gg ww hM; simp only [putT, List.set_cons_succ, List.set_cons_zero]) | (apply wl_bs1a; exact rfl; exact hM; exact rfl; exact inferInstance; exact rfl; exact inferInstance; clear hM; intro gg ww hM; simp only [putT, List.set_cons_succ, List.set_cons_zero]) | (apply wl_bs11; exact rfl; exact hM; exact rfl; exact inferInstance; exact rfl; exact rfl; clear hM; intro gg ww hM; simp only [putT, List.set_cons_succ, List.set_cons_zero]) | (apply wl_conv; exact rfl; exact hM; exact rfl; exact rfl; exact inferInstance; exact inferInstance; simp only [putT, List.set_cons_succ, List.set_cons_zero]))
    | (refine wpList_build_to rfl 30 #[(0, .const (.int .u8 1))] rfl (hv (seed1 1#8)) (by kernel_rfl) ?_)
    | (refine wpList_build_to rfl 30 #[(0, .const (.int .u8 3))] rfl (hv (seed1 3#8)) (by kernel_rfl) ?_)
    | (go_at_call 17; refine (New_any _ 4 (seed1 1#8) rfl).mono ?_; rintro e w1 ⟨⟨p, rfl, g, A, c, rfl, hr0⟩, hg⟩; rw [cnt4, ← unhide HKS] at hr0; have hg0 := hM.grow.then_ hg; clear hM; have hM := Mem.nil w1 noOwn; have hr := hide hr0; clear hr0 hg)
    | (go_at_call 27; refine (Cast_any _ g c A ks 2 1 2 0 (seed1 3#8) ((unhide hr).grow hM.grow) rfl).mono ?_; rw [show castOf ks 2 1 2 (seed1 3#8) 0 = v from (unhide HV).symm]; rintro e1 w1 ⟨rfl, hg⟩; replace hM := hM.call hg; clear hg)
    | (refine wpList_bsv rfl 28 2 _ rfl hM inferInstance (([v, v]).map fun v => Value.agg (vtc v).toArray) (vCells [v, v]) rfl rfl (vCells_size _ hok2) (vCells_flat _) hl2 (by decide) ?_; clear hM; intro gg ww hM; simp only [Act.put, List.setIfInBounds_toArray, List.set_cons_succ, List.set_cons_zero])
    | (refine wpList_bsv rfl 28 3 _ rfl hM inferInstance (([v, v, v]).map fun v => Value.agg (vtc v).toArray) (vCells [v, v, v]) rfl rfl (vCells_size _ hok3) (vCells_flat _) hl3 (by decide) ?_; clear hM; intro gg ww hM; simp only [Act.put, List.setIfInBounds_toArray, List.set_cons_succ, List.set_cons_zero])
    | (go_at_call 30; refine (Who_any _ g c 2 2 A _ ks [v, v] 2 1 2 (seed1 3#8) ((unhide hr).grow hM.grow) (Reads.of_own (hM.row 0 rfl)) rfl (Nat.le_refl 2) hok2 rfl).mono ?_; rw [unhide HW2]; rintro e1 w1 ⟨A1, cq, rfl, hM1⟩; obtain ⟨ga, rfl, -⟩ := row_some (hM1.row 0 rfl) (by decide); have cq1 : ∀ (w0 : World) (L' : List Item) [HasRow L' (.slice (some ⟨ga, 0, none⟩) 1 cq) 3 1 1 [.int .i64 0]], Cell w0 noOwn L' ⟨ga, 0, none⟩ (.int .i64 0) := fun w0 L' _ => row_cell (n := 1) (c := cq) (m := 1) (e := 3) (xs := [.int .i64 0]); replace hM := hM.on hM1; clear hM1; simp only [List.cons_append, List.nil_append, List.map_cons, List.map_nil, List.length_cons, List.length_nil, Nat.zero_add] at hM)
    | (go_at_call 28; refine (Good_any _ g c A ks v ((unhide hr).grow hM.grow) vok).mono ?_; rw [unhide HGD]; rintro e1 w1 ⟨rfl, hg⟩; replace hM := hM.call hg; clear hg)
    | (go_at_call 32; refine (Meets_any _ g c 3 3 A _ ks [v, v, v] 2 1 2 (seed1 3#8) ((unhide hr).grow hM.grow) (Reads.of_own (hM.row 0 rfl)) rfl (Nat.le_refl 3) hok3 rfl (by rw [unhide HK4]; decide)).mono ?_; rw [unhide HW3]; rintro e1 w1 ⟨rfl, hg⟩; replace hM := hM.call hg; clear hg))
  go_ret
  exact ⟨rfl, hg0.then_ hM.grow⟩
end Go.Proofs.Ytgdfdombcngpnaa
