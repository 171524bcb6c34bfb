/- rule's law: RuleProves. -/
import Derived.Test.YtkcmnhmbpamehaaRuJ2
namespace Go.Proofs.Ytkcmnhmbpamehaa
open Go.RowKit Go.MapKept
set_option linter.unusedSimpArgs false
set_option linter.unusedVariables false
/-- The votes of the first q nodes are of another kind. -/
def mixN (ks : List (List (BitVec 8))) (s v : Int) (sum : List (BitVec 8)) (n q : Nat) : List Vt := castN ks 2 s v sum q ++ (castN ks 1 s v sum n).drop q
theorem mixN_full (ks : List (List (BitVec 8))) (s v : Int) (sum : List (BitVec 8)) (n : Nat) : mixN ks s v sum n n = castN ks 2 s v sum n := by
  unfold mixN
  rw [List.drop_of_length_le (by rw [castN_len]; exact Nat.le_refl _), List.append_nil]
theorem mixN_step (ks : List (List (BitVec 8))) (s v : Int) (sum : List (BitVec 8)) (hs : sum.length = 32) (n q : Nat) (hq : q < n) :
    (vCells (mixN ks s v sum n q)).take (q * 68) ++ vtc (castOf ks 2 s v sum (q : Nat)) ++ (vCells (mixN ks s v sum n q)).drop (q * 68 + (vtc (castOf ks 2 s v sum (q : Nat))).length) = vCells (mixN ks s v sum n (q + 1)) := by
  have hl : (vCells (castN ks 2 s v sum q)).length = q * 68 := by rw [vCells_len _ (castN_ok ks 2 s v sum hs q), castN_len]
  have hd : (castN ks 1 s v sum n).drop q = (castN ks 1 s v sum n)[q]'(by rw [castN_len]; exact hq) :: (castN ks 1 s v sum n).drop (q + 1) := List.drop_eq_getElem_cons _
  have hok := castN_ok ks 1 s v sum hs n _ (List.getElem_mem (by rw [castN_len]; exact hq : q < (castN ks 1 s v sum n).length))
  have hu := vtc_len (castOf_ok ks 2 s v sum (q : Nat) hs)
  have hu2 := vtc_len hok
  unfold mixN
  rw [hd, vCells_app2, castN_succ, vCells_app2, vCells_snoc2]
  rw [show vCells ((castN ks 1 s v sum n)[q]'(by rw [castN_len]; exact hq) :: (castN ks 1 s v sum n).drop (q + 1)) = vtc ((castN ks 1 s v sum n)[q]'(by rw [castN_len]; exact hq)) ++ vCells ((castN ks 1 s v sum n).drop (q + 1)) from by simp only [vCells, List.flatMap_cons]]
  rw [hu, ← hl, List.take_left, ← List.drop_drop, List.drop_left, ← hu2, List.drop_left]
theorem mixN_ok (ks : List (List (BitVec 8))) (s v : Int) (sum : List (BitVec 8)) (hs : sum.length = 32) (n q : Nat) : ∀ u ∈ mixN ks s v sum n q, u.Ok := by
  intro u hu
  rcases List.mem_append.1 hu with h | h
  · exact castN_ok ks 2 s v sum hs q u h
  · exact castN_ok ks 1 s v sum hs n u (List.mem_of_mem_drop h)
theorem vtc_one (v : Vt) : ∀ u ∈ vtc v, u.oneCell' = true := fun u hu => by
  have := Array.all_eq_true_iff_forall_mem.1 (vtc_all v) u (by simpa using hu)
  exact this
attribute [local irreducible] wpList Code.wp GW Calls
set_option maxRecDepth 100000 in
set_option maxHeartbeats 8000000 in
theorem RuleProves_any (w : World) (n slot view below : Int) (commit : Bool) (vn vc : Nat) (D : Option Addr) (val : List (BitVec 8)) (hb : Bytes w w.heap.size D vn val) (hvc : vn ≤ vc) :
    Calls Try.prog 3 #[.int .i64 n, .int .i64 slot, .int .i64 view, .int .i64 below, .slice D vn vc, .bool commit] w fun e w' => e = .returned (.bool true) ∧ Grow w noOwn w' := by
  have hM := Mem.nil w noOwn
  by_cases hin : 0 ≤ n ∧ n ≤ 4 ∧ 0 ≤ slot ∧ slot ≤ 60 ∧ 0 ≤ view ∧ view ≤ 8 ∧ 0 ≤ below ∧ below ≤ 10 ∧ vn ≤ 100
  · obtain ⟨h1, h2, h3, h4, h5, h6, h7, h8, h9⟩ := hin
    obtain ⟨m, rfl⟩ : ∃ m : Nat, n = m := ⟨n.toNat, by omega⟩
    have hm4 : m ≤ 4 := by omega
    obtain ⟨ks, hks⟩ : ∃ ks, ks = keysOf (seed1 1#8) 4 := ⟨_, rfl⟩
    have hk4 : ks.length = 4 := by rw [hks]; exact keysOf_length ..
    have HKS := hide hks
    have hsl := sha_length val
    have tok : True := trivial
    clear hks
    cases commit
    · obtain ⟨lv, hlv⟩ : ∃ lv, lv = castN ks 1 slot view (sha val) m := ⟨_, rfl⟩
      have hok : ∀ u ∈ lv, u.Ok := by rw [hlv]; exact castN_ok _ _ _ _ _ hsl _
      have hll : lv.length = m := by rw [hlv, castN_len]
      have HP2 : Hid (pvT (provesOf ks lv (slot + 1) below val) = #[.int .i64 (-1), .bool false]) := hide (by rw [hlv, proves_else ks hk4 1 slot (slot + 1) below view val _ m (.inr (by omega)) h5]; rfl)
      have hpr := provesN ks hk4 slot below view val m hm4 h5
      rw [← hlv] at hpr
      have HL := hide hll
      have HOK := hide hok
      have HLV := hide hlv
      have HK4 := hide hk4
      clear hlv hll hok hk4
      by_cases hy : 3 ≤ m ∧ view < below
      · rw [if_pos hy] at hpr
        obtain ⟨hy1, hy2⟩ := hy
        have HP1 : Hid (pvT (provesOf ks lv slot below val) = #[.int .i64 view, .bool true]) := hide (by rw [hpr]; rfl)
        clear hpr
        go_enter Try.func3, Try.ntmps3
        go_wp2_with (first
          | ((with_reducible refine wl_shape ?_); first | (apply wl_boxa; exact rfl; exact hM; exact rfl; exact rfl; clear hM; intro gg ww hM; simp only [putT, List.set_cons_succ, List.set_cons_zero]) | (apply wl_box1; exact rfl; exact hM; exact rfl; exact rfl; exact rfl; clear hM; intro gg ww hM; simp only [putT, List.set_cons_succ, List.set_cons_zero]) | (apply wl_alloc; exact rfl; exact hM; exact rfl; exact inferInstance; clear hM; intro gg ww hM; simp only [putT, List.set_cons_succ, List.set_cons_zero]) | (apply wl_ld; exact rfl; exact hM; exact rfl; exact rfl; exact inferInstance; exact inferInstance; simp only [putT, List.set_cons_succ, List.set_cons_zero]) | (apply wl_lda; exact rfl; exact hM; exact rfl; exact rfl; exact inferInstance; exact inferInstance; exact inferInstance; exact inferInstance; simp only [putT, List.set_cons_succ, List.set_cons_zero]) | (apply wl_ldr; exact rfl; exact hM; exact rfl; exact rfl; exact inferInstance; exact inferInstance; exact inferInstance; exact inferInstance; simp only [putT, List.set_cons_succ, List.set_cons_zero]) | (apply wl_st; exact rfl; exact hM; exact rfl; exact rfl; exact rfl; exact rfl; exact inferInstance; exact inferInstance; clear hM; intro ww hM; simp only [putT, List.set_cons_succ, List.set_cons_zero]) | (apply wl_sta; exact rfl; exact hM; exact rfl; exact rfl; exact rfl; exact all_oneCell_toArray One.out; exact inferInstance; exact inferInstance; exact inferInstance; clear hM; intro ww hM; simp only [putT, List.set_cons_succ, List.set_cons_zero]) | (apply wl_bs0; exact rfl; exact hM; exact rfl; exact inferInstance; clear hM; intro gg ww hM; simp only [putT, List.set_cons_succ, List.set_cons_zero]) | (apply wl_bs1a; exact rfl; exact hM; exact rfl; exact inferInstance; exact rfl; exact inferInstance; clear hM; intro gg ww hM; simp only [putT, List.set_cons_succ, List.set_cons_zero]) | (apply wl_bs11; exact rfl; exact hM; exact rfl; exact inferInstance; exact rfl; exact rfl; clear hM; intro gg ww hM; simp only [putT, List.set_cons_succ, List.set_cons_zero]) | (apply wl_conv; exact rfl; exact hM; exact rfl; exact rfl; exact inferInstance; exact inferInstance; simp only [putT, List.set_cons_succ, List.set_cons_zero]))
          | (refine wpList_build_to rfl 26 #[(0, .const (.int .u8 1))] rfl (hv (seed1 1#8)) (by kernel_rfl) ?_) | (go_at_call 8; refine (New_any _ 4 (seed1 1#8) rfl).mono ?_; rintro e w1 ⟨⟨p, rfl, g, A, c, rfl, hr0⟩, hg⟩; rw [cnt4, ← unhide HKS] at hr0; replace hM := hM.call hg; have hr1 := hide hr0; clear hr0 hg) | (go_at_call 9; refine (RNew_any _ 4 (seed1 1#8) rfl).mono ?_; rintro e w2 ⟨⟨p, rfl, g2, A2, c2, rfl, hr0⟩, hg⟩; rw [cnt4, ← unhide HKS] at hr0; replace hM := hM.call hg; have hr := hide ((unhide hr1).grow hg); have hrx := hide hr0; have hg0 := hM.grow; have hb2 := hide (bytesUp hb hM.grow); clear hM; have hM := Mem.nil w2 noOwn; clear hr0 hg)
          | (go_at_call 10; refine (Votes7_any _ g2 c2 m vn vc A2 D ks slot view val ((unhide hrx).grow hM.grow) hm4 (bytesUp (unhide hb2) hM.grow) hvc (by omega)).mono ?_; rintro e1 w3 ⟨A3, c3, rfl, hM1⟩; clear hM; have hM := hM1; clear hM1; rw [← unhide HLV] at hM)
          | (have _t := tok; go_at_call 13; refine (Proves_any _ g c m c3 vn vc A A3 D ks lv slot below val ((unhide hr).grow hM.grow) (Reads.of_own (hM.row 0 rfl)) (unhide HL) (row_cap (hM.row 0 rfl)).1 (unhide HOK) (by rw [unhide HK4]; decide) (bytesUp (unhide hb2) hM.grow) hvc (by omega)).mono ?_; rw [unhide HP1]; rintro e1 w3 ⟨rfl, hg⟩; replace hM := hM.call hg; clear hg; clear tok)
          | (go_at_call 13; refine (Proves_any _ g c m c3 vn vc A A3 D ks lv (slot + 1) below val ((unhide hr).grow hM.grow) (Reads.of_own (hM.row 0 rfl)) (unhide HL) (row_cap (hM.row 0 rfl)).1 (unhide HOK) (by rw [unhide HK4]; decide) (bytesUp (unhide hb2) hM.grow) hvc (by omega)).mono ?_; rw [unhide HP2]; rintro e1 w3 ⟨rfl, hg⟩; replace hM := hM.call hg; clear hg)
          | (go_at_call 14; refine (known7_any _).mono ?_; rintro e1 w3 ⟨rfl, hg⟩; replace hM := hM.call hg; clear hg))
        go_ret
        exact ⟨rfl, hg0.then_ hM.grow⟩
      · rw [if_neg hy] at hpr
        have HP1 : Hid (pvT (provesOf ks lv slot below val) = #[.int .i64 (-1), .bool false]) := hide (by rw [hpr]; rfl)
        clear hpr
        rcases (by omega : m < 3 ∨ (3 ≤ m ∧ below ≤ view)) with hy1 | ⟨hy1, hy2⟩
        · clear hy
          go_enter Try.func3, Try.ntmps3
          go_wp2_with (first
            | ((with_reducible refine wl_shape ?_); first | (apply wl_boxa; exact rfl; exact hM; exact rfl; exact rfl; clear hM; intro gg ww hM; simp only [putT, List.set_cons_succ, List.set_cons_zero]) | (apply wl_box1; exact rfl; exact hM; exact rfl; exact rfl; exact rfl; clear hM; intro gg ww hM; simp only [putT, List.set_cons_succ, List.set_cons_zero]) | (apply wl_alloc; exact rfl; exact hM; exact rfl; exact inferInstance; clear hM; intro gg ww hM; simp only [putT, List.set_cons_succ, List.set_cons_zero]) | (apply wl_ld; exact rfl; exact hM; exact rfl; exact rfl; exact inferInstance; exact inferInstance; simp only [putT, List.set_cons_succ, List.set_cons_zero]) | (apply wl_lda; exact rfl; exact hM; exact rfl; exact rfl; exact inferInstance; exact inferInstance; exact inferInstance; exact inferInstance; simp only [putT, List.set_cons_succ, List.set_cons_zero]) | (apply wl_ldr; exact rfl; exact hM; exact rfl; exact rfl; exact inferInstance; exact inferInstance; exact inferInstance; exact inferInstance; simp only [putT, List.set_cons_succ, List.set_cons_zero]) | (apply wl_st; exact rfl; exact hM; exact rfl; exact rfl; exact rfl; exact rfl; exact inferInstance; exact inferInstance; clear hM; intro ww hM; simp only [putT, List.set_cons_succ, List.set_cons_zero]) | (apply wl_sta; exact rfl; exact hM; exact rfl; exact rfl; exact rfl; exact all_oneCell_toArray One.out; exact inferInstance; exact inferInstance; exact inferInstance; clear hM; intro ww hM; simp only [putT, List.set_cons_succ, List.set_cons_zero]) | (apply wl_bs0; exact rfl; exact hM; exact rfl; exact inferInstance; clear hM; intro gg ww hM; simp only [putT, List.set_cons_succ, List.set_cons_zero]) | (apply wl_bs1a; exact rfl; exact hM; exact rfl; exact inferInstance; exact rfl; exact inferInstance; clear hM; intro gg ww hM; simp only [putT, List.set_cons_succ, List.set_cons_zero]) | (apply wl_bs11; exact rfl; exact hM; exact rfl; exact inferInstance; exact rfl; exact rfl; clear hM; intro gg ww hM; simp only [putT, List.set_cons_succ, List.set_cons_zero]) | (apply wl_conv; exact rfl; exact hM; exact rfl; exact rfl; exact inferInstance; exact inferInstance; simp only [putT, List.set_cons_succ, List.set_cons_zero]))
            | (refine wpList_build_to rfl 26 #[(0, .const (.int .u8 1))] rfl (hv (seed1 1#8)) (by kernel_rfl) ?_) | (go_at_call 8; refine (New_any _ 4 (seed1 1#8) rfl).mono ?_; rintro e w1 ⟨⟨p, rfl, g, A, c, rfl, hr0⟩, hg⟩; rw [cnt4, ← unhide HKS] at hr0; replace hM := hM.call hg; have hr1 := hide hr0; clear hr0 hg) | (go_at_call 9; refine (RNew_any _ 4 (seed1 1#8) rfl).mono ?_; rintro e w2 ⟨⟨p, rfl, g2, A2, c2, rfl, hr0⟩, hg⟩; rw [cnt4, ← unhide HKS] at hr0; replace hM := hM.call hg; have hr := hide ((unhide hr1).grow hg); have hrx := hide hr0; have hg0 := hM.grow; have hb2 := hide (bytesUp hb hM.grow); clear hM; have hM := Mem.nil w2 noOwn; clear hr0 hg)
            | (go_at_call 10; refine (Votes7_any _ g2 c2 m vn vc A2 D ks slot view val ((unhide hrx).grow hM.grow) hm4 (bytesUp (unhide hb2) hM.grow) hvc (by omega)).mono ?_; rintro e1 w3 ⟨A3, c3, rfl, hM1⟩; clear hM; have hM := hM1; clear hM1; rw [← unhide HLV] at hM)
            | (have _t := tok; go_at_call 13; refine (Proves_any _ g c m c3 vn vc A A3 D ks lv slot below val ((unhide hr).grow hM.grow) (Reads.of_own (hM.row 0 rfl)) (unhide HL) (row_cap (hM.row 0 rfl)).1 (unhide HOK) (by rw [unhide HK4]; decide) (bytesUp (unhide hb2) hM.grow) hvc (by omega)).mono ?_; rw [unhide HP1]; rintro e1 w3 ⟨rfl, hg⟩; replace hM := hM.call hg; clear hg; clear tok)
            | (go_at_call 13; refine (Proves_any _ g c m c3 vn vc A A3 D ks lv (slot + 1) below val ((unhide hr).grow hM.grow) (Reads.of_own (hM.row 0 rfl)) (unhide HL) (row_cap (hM.row 0 rfl)).1 (unhide HOK) (by rw [unhide HK4]; decide) (bytesUp (unhide hb2) hM.grow) hvc (by omega)).mono ?_; rw [unhide HP2]; rintro e1 w3 ⟨rfl, hg⟩; replace hM := hM.call hg; clear hg)
            | (go_at_call 14; refine (known7_any _).mono ?_; rintro e1 w3 ⟨rfl, hg⟩; replace hM := hM.call hg; clear hg))
          go_ret
          exact ⟨rfl, hg0.then_ hM.grow⟩
        · clear hy
          go_enter Try.func3, Try.ntmps3
          go_wp2_with (first
            | ((with_reducible refine wl_shape ?_); first | (apply wl_boxa; exact rfl; exact hM; exact rfl; exact rfl; clear hM; intro gg ww hM; simp only [putT, List.set_cons_succ, List.set_cons_zero]) | (apply wl_box1; exact rfl; exact hM; exact rfl; exact rfl; exact rfl; clear hM; intro gg ww hM; simp only [putT, List.set_cons_succ, List.set_cons_zero]) | (apply wl_alloc; exact rfl; exact hM; exact rfl; exact inferInstance; clear hM; intro gg ww hM; simp only [putT, List.set_cons_succ, List.set_cons_zero]) | (apply wl_ld; exact rfl; exact hM; exact rfl; exact rfl; exact inferInstance; exact inferInstance; simp only [putT, List.set_cons_succ, List.set_cons_zero]) | (apply wl_lda; exact rfl; exact hM; exact rfl; exact rfl; exact inferInstance; exact inferInstance; exact inferInstance; exact inferInstance; simp only [putT, List.set_cons_succ, List.set_cons_zero]) | (apply wl_ldr; exact rfl; exact hM; exact rfl; exact rfl; exact inferInstance; exact inferInstance; exact inferInstance; exact inferInstance; simp only [putT, List.set_cons_succ, List.set_cons_zero]) | (apply wl_st; exact rfl; exact hM; exact rfl; exact rfl; exact rfl; exact rfl; exact inferInstance; exact inferInstance; clear hM; intro ww hM; simp only [putT, List.set_cons_succ, List.set_cons_zero]) | (apply wl_sta; exact rfl; exact hM; exact rfl; exact rfl; exact rfl; exact all_oneCell_toArray One.out; exact inferInstance; exact inferInstance; exact inferInstance; clear hM; intro ww hM; simp only [putT, List.set_cons_succ, List.set_cons_zero]) | (apply wl_bs0; exact rfl; exact hM; exact rfl; exact inferInstance; clear hM; intro gg ww hM; simp only [putT, List.set_cons_succ, List.set_cons_zero]) | (apply wl_bs1a; exact rfl; exact hM; exact rfl; exact inferInstance; exact rfl; exact inferInstance; clear hM; intro gg ww hM; simp only [putT, List.set_cons_succ, List.set_cons_zero]) | (apply wl_bs11; exact rfl; exact hM; exact rfl; exact inferInstance; exact rfl; exact rfl; clear hM; intro gg ww hM; simp only [putT, List.set_cons_succ, List.set_cons_zero]) | (apply wl_conv; exact rfl; exact hM; exact rfl; exact rfl; exact inferInstance; exact inferInstance; simp only [putT, List.set_cons_succ, List.set_cons_zero]))
            | (refine wpList_build_to rfl 26 #[(0, .const (.int .u8 1))] rfl (hv (seed1 1#8)) (by kernel_rfl) ?_) | (go_at_call 8; refine (New_any _ 4 (seed1 1#8) rfl).mono ?_; rintro e w1 ⟨⟨p, rfl, g, A, c, rfl, hr0⟩, hg⟩; rw [cnt4, ← unhide HKS] at hr0; replace hM := hM.call hg; have hr1 := hide hr0; clear hr0 hg) | (go_at_call 9; refine (RNew_any _ 4 (seed1 1#8) rfl).mono ?_; rintro e w2 ⟨⟨p, rfl, g2, A2, c2, rfl, hr0⟩, hg⟩; rw [cnt4, ← unhide HKS] at hr0; replace hM := hM.call hg; have hr := hide ((unhide hr1).grow hg); have hrx := hide hr0; have hg0 := hM.grow; have hb2 := hide (bytesUp hb hM.grow); clear hM; have hM := Mem.nil w2 noOwn; clear hr0 hg)
            | (go_at_call 10; refine (Votes7_any _ g2 c2 m vn vc A2 D ks slot view val ((unhide hrx).grow hM.grow) hm4 (bytesUp (unhide hb2) hM.grow) hvc (by omega)).mono ?_; rintro e1 w3 ⟨A3, c3, rfl, hM1⟩; clear hM; have hM := hM1; clear hM1; rw [← unhide HLV] at hM)
            | (have _t := tok; go_at_call 13; refine (Proves_any _ g c m c3 vn vc A A3 D ks lv slot below val ((unhide hr).grow hM.grow) (Reads.of_own (hM.row 0 rfl)) (unhide HL) (row_cap (hM.row 0 rfl)).1 (unhide HOK) (by rw [unhide HK4]; decide) (bytesUp (unhide hb2) hM.grow) hvc (by omega)).mono ?_; rw [unhide HP1]; rintro e1 w3 ⟨rfl, hg⟩; replace hM := hM.call hg; clear hg; clear tok)
            | (go_at_call 13; refine (Proves_any _ g c m c3 vn vc A A3 D ks lv (slot + 1) below val ((unhide hr).grow hM.grow) (Reads.of_own (hM.row 0 rfl)) (unhide HL) (row_cap (hM.row 0 rfl)).1 (unhide HOK) (by rw [unhide HK4]; decide) (bytesUp (unhide hb2) hM.grow) hvc (by omega)).mono ?_; rw [unhide HP2]; rintro e1 w3 ⟨rfl, hg⟩; replace hM := hM.call hg; clear hg)
            | (go_at_call 14; refine (known7_any _).mono ?_; rintro e1 w3 ⟨rfl, hg⟩; replace hM := hM.call hg; clear hg))
          go_ret
          exact ⟨rfl, hg0.then_ hM.grow⟩
    · obtain ⟨lv, hlv⟩ : ∃ lv, lv = castN ks 2 slot view (sha val) m := ⟨_, rfl⟩
      have hok : ∀ u ∈ lv, u.Ok := by rw [hlv]; exact castN_ok _ _ _ _ _ hsl _
      have hll : lv.length = m := by rw [hlv, castN_len]
      have HP1 : Hid (pvT (provesOf ks lv slot below val) = #[.int .i64 (-1), .bool false]) := hide (by rw [hlv, proves_else ks hk4 2 slot slot below view val _ m (.inl (by omega)) h5]; rfl)
      have HP2 : Hid (pvT (provesOf ks lv (slot + 1) below val) = #[.int .i64 (-1), .bool false]) := hide (by rw [hlv, proves_else ks hk4 2 slot (slot + 1) below view val _ m (.inl (by omega)) h5]; rfl)
      have HL := hide hll
      have HOK := hide hok
      have HLV := hide hlv
      have HK4 := hide hk4
      have hmo := fun q => mixN_ok ks slot view (sha val) hsl m q
      have HMO := hide hmo
      clear hlv hll hok hk4 hmo
      go_enter Try.func3, Try.ntmps3
      go_wp2_with (first
        | ((with_reducible refine wl_shape ?_); first | (apply wl_boxa; exact rfl; exact hM; exact rfl; exact rfl; clear hM; intro gg ww hM; simp only [putT, List.set_cons_succ, List.set_cons_zero]) | (apply wl_box1; exact rfl; exact hM; exact rfl; exact rfl; exact rfl; clear hM; intro gg ww hM; simp only [putT, List.set_cons_succ, List.set_cons_zero]) | (apply wl_alloc; exact rfl; exact hM; exact rfl; exact inferInstance; clear hM; intro gg ww hM; simp only [putT, List.set_cons_succ, List.set_cons_zero]) | (apply wl_ld; exact rfl; exact hM; exact rfl; exact rfl; exact inferInstance; exact inferInstance; simp only [putT, List.set_cons_succ, List.set_cons_zero]) | (apply wl_lda; exact rfl; exact hM; exact rfl; exact rfl; exact inferInstance; exact inferInstance; exact inferInstance; exact inferInstance; simp only [putT, List.set_cons_succ, List.set_cons_zero]) | (apply wl_ldr; exact rfl; exact hM; exact rfl; exact rfl; exact inferInstance; exact inferInstance; exact inferInstance; exact inferInstance; simp only [putT, List.set_cons_succ, List.set_cons_zero]) | (apply wl_st; exact rfl; exact hM; exact rfl; exact rfl; exact rfl; exact rfl; exact inferInstance; exact inferInstance; clear hM; intro ww hM; simp only [putT, List.set_cons_succ, List.set_cons_zero]) | (apply wl_sta; exact rfl; exact hM; exact rfl; exact rfl; exact rfl; exact all_oneCell_toArray One.out; exact inferInstance; exact inferInstance; exact inferInstance; clear hM; intro ww hM; simp only [putT, List.set_cons_succ, List.set_cons_zero]) | (apply wl_bs0; exact rfl; exact hM; exact rfl; exact inferInstance; clear hM; intro gg ww hM; simp only [putT, List.set_cons_succ, List.set_cons_zero]) | (apply wl_bs1a; exact rfl; exact hM; exact rfl; exact inferInstance; exact rfl; exact inferInstance; clear hM; intro gg ww hM; simp only [putT, List.set_cons_succ, List.set_cons_zero]) | (apply wl_bs11; exact rfl; exact hM; exact rfl; exact inferInstance; exact rfl; exact rfl; clear hM; intro gg ww hM; simp only [putT, List.set_cons_succ, List.set_cons_zero]) | (apply wl_conv; exact rfl; exact hM; exact rfl; exact rfl; exact inferInstance; exact inferInstance; simp only [putT, List.set_cons_succ, List.set_cons_zero]))
        | (refine wpList_build_to rfl 26 #[(0, .const (.int .u8 1))] rfl (hv (seed1 1#8)) (by kernel_rfl) ?_) | (go_at_call 8; refine (New_any _ 4 (seed1 1#8) rfl).mono ?_; rintro e w1 ⟨⟨p, rfl, g, A, c, rfl, hr0⟩, hg⟩; rw [cnt4, ← unhide HKS] at hr0; replace hM := hM.call hg; have hr1 := hide hr0; clear hr0 hg) | (go_at_call 9; refine (RNew_any _ 4 (seed1 1#8) rfl).mono ?_; rintro e w2 ⟨⟨p, rfl, g2, A2, c2, rfl, hr0⟩, hg⟩; rw [cnt4, ← unhide HKS] at hr0; replace hM := hM.call hg; have hr := hide ((unhide hr1).grow hg); have hrx := hide hr0; have hg0 := hM.grow; have hb2 := hide (bytesUp hb hM.grow); clear hM; have hM := Mem.nil w2 noOwn; clear hr0 hg)
        | (go_at_call 10; refine (Votes7_any _ g2 c2 m vn vc A2 D ks slot view val ((unhide hrx).grow hM.grow) hm4 (bytesUp (unhide hb2) hM.grow) hvc (by omega)).mono ?_; rintro e1 w3 ⟨A3, c3, rfl, hM1⟩; clear hM; have hM := hM1; clear hM1))
      rw [show castN ks 1 slot view (sha val) m = mixN ks slot view (sha val) m 0 from rfl] at hM
      have HM := hide hM
      go_loopw [16] (fun iv wr => ∃ q : Nat, q ≤ m ∧ iv = .int .i64 q ∧ Mem w2 noOwn wr [.row (.slice A3 m c3) 32 68 m (vCells (mixN ks slot view (sha val) m q))]) (fun iv _ => m - (intOf iv).toNat)
      case atStart => exact ⟨0, Nat.zero_le _, by go_num, hM⟩
      case round =>
        clear hM HM
        obtain ⟨q, hq, rfl, hM⟩ := hrel
        by_cases hlt : q < m
        · obtain ⟨v, hv⟩ : ∃ v, v = castOf ks 2 slot view (sha val) (q : Nat) := ⟨_, rfl⟩
          have vok : v.Ok := by rw [hv]; exact castOf_ok _ _ _ _ _ _ hsl
          have hstep := mixN_step ks slot view (sha val) hsl m q hlt
          rw [← hv] at hstep
          have HST := hide hstep
          have hvl := vtc_len vok
          have zj : SzL (vtc v) 68 := ⟨hvl⟩
          have hml := vCells_len _ (unhide HMO q)
          have hmn : (mixN ks slot view (sha val) m q).length = m := by unfold mixN; rw [List.length_append, List.length_drop, castN_len, castN_len]; omega
          have hroom : q * 68 + (vtc v).length ≤ (vCells (mixN ks slot view (sha val) m q)).length := by rw [hml, hmn, hvl]; omega
          obtain ⟨ga, rfl, -⟩ := row_some (hM.row 0 rfl) (by omega)
          have HV := hide hv
          clear hv hstep hml hmn
          go_wp2_with (first
            | ((with_reducible refine wl_shape ?_); first | (apply wl_boxa; exact rfl; exact hM; exact rfl; exact rfl; clear hM; intro gg ww hM; simp only [putT, List.set_cons_succ, List.set_cons_zero]) | (apply wl_box1; exact rfl; exact hM; exact rfl; exact rfl; exact rfl; clear hM; intro gg ww hM; simp only [putT, List.set_cons_succ, List.set_cons_zero]) | (apply wl_alloc; exact rfl; exact hM; exact rfl; exact inferInstance; clear hM; intro gg ww hM; simp only [putT, List.set_cons_succ, List.set_cons_zero]) | (apply wl_ld; exact rfl; exact hM; exact rfl; exact rfl; exact inferInstance; exact inferInstance; simp only [putT, List.set_cons_succ, List.set_cons_zero]) | (apply wl_lda; exact rfl; exact hM; exact rfl; exact rfl; exact inferInstance; exact inferInstance; exact inferInstance; exact inferInstance; simp only [putT, List.set_cons_succ, List.set_cons_zero]) | (apply wl_ldr; exact rfl; exact hM; exact rfl; exact rfl; exact inferInstance; exact inferInstance; exact inferInstance; exact inferInstance; simp only [putT, List.set_cons_succ, List.set_cons_zero]) | (apply wl_st; exact rfl; exact hM; exact rfl; exact rfl; exact rfl; exact rfl; exact inferInstance; exact inferInstance; clear hM; intro ww hM; simp only [putT, List.set_cons_succ, List.set_cons_zero]) | (apply wl_sta; exact rfl; exact hM; exact rfl; exact rfl; exact rfl; exact all_oneCell_toArray One.out; exact inferInstance; exact inferInstance; exact inferInstance; clear hM; intro ww hM; simp only [putT, List.set_cons_succ, List.set_cons_zero]) | (apply wl_bs0; exact rfl; exact hM; exact rfl; exact inferInstance; clear hM; intro gg ww hM; simp only [putT, List.set_cons_succ, List.set_cons_zero]) | (apply wl_bs1a; exact rfl; exact hM; exact rfl; exact inferInstance; exact rfl; exact inferInstance; clear hM; intro gg ww hM; simp only [putT, List.set_cons_succ, List.set_cons_zero]) | (apply wl_bs11; exact rfl; exact hM; exact rfl; exact inferInstance; exact rfl; exact rfl; clear hM; intro gg ww hM; simp only [putT, List.set_cons_succ, List.set_cons_zero]) | (apply wl_conv; exact rfl; exact hM; exact rfl; exact rfl; exact inferInstance; exact inferInstance; simp only [putT, List.set_cons_succ, List.set_cons_zero]))
            | (go_at_call 12; refine (RValueSum_any _ vn vc D val (gro_up hM.grow (unhide hb2)) hvc (by omega)).mono ?_; rintro e1 w1 ⟨rfl, hg⟩; replace hM := hM.call hg; clear hg)
            | (go_at_call 11; refine (RCast_any _ g2 c2 _ ks 2 slot view ((q : Nat) : Int) (sha val) ((unhide hrx).grow hM.grow) hsl).mono ?_; rw [← unhide HV]; rintro e1 w9 ⟨rfl, hg⟩; replace hM := hM.call hg; clear hg)
            | (refine wpList_store_rowagg rfl 32 _ _ rfl hM 0 ga m c3 68 (q * 68) 32 _ _ rfl (vtc v) hroom rfl rfl (vtc_one v) (by rw [sizeV, zj.out]) (unhide HST) ?_; clear hM; intro ww hM; simp only [List.set_cons_zero] at hM))
          go_roundw
          case rel => exact ⟨q + 1, by omega, by go_num, hM⟩
          case measure => simp [intOf]; omega
        · have e : q = m := by omega
          subst e
          rw [mixN_full, ← unhide HLV] at hM
          rcases (by omega : q < 3 ∨ (3 ≤ q ∧ below ≤ view) ∨ (3 ≤ q ∧ view < below)) with hy1 | ⟨hy1, hy2⟩ | ⟨hy1, hy2⟩
          all_goals
            go_wp2_with (first
              | ((with_reducible refine wl_shape ?_); first | (apply wl_boxa; exact rfl; exact hM; exact rfl; exact rfl; clear hM; intro gg ww hM; simp only [putT, List.set_cons_succ, List.set_cons_zero]) | (apply wl_box1; exact rfl; exact hM; exact rfl; exact rfl; exact rfl; clear hM; intro gg ww hM; simp only [putT, List.set_cons_succ, List.set_cons_zero]) | (apply wl_alloc; exact rfl; exact hM; exact rfl; exact inferInstance; clear hM; intro gg ww hM; simp only [putT, List.set_cons_succ, List.set_cons_zero]) | (apply wl_ld; exact rfl; exact hM; exact rfl; exact rfl; exact inferInstance; exact inferInstance; simp only [putT, List.set_cons_succ, List.set_cons_zero]) | (apply wl_lda; exact rfl; exact hM; exact rfl; exact rfl; exact inferInstance; exact inferInstance; exact inferInstance; exact inferInstance; simp only [putT, List.set_cons_succ, List.set_cons_zero]) | (apply wl_ldr; exact rfl; exact hM; exact rfl; exact rfl; exact inferInstance; exact inferInstance; exact inferInstance; exact inferInstance; simp only [putT, List.set_cons_succ, List.set_cons_zero]) | (apply wl_st; exact rfl; exact hM; exact rfl; exact rfl; exact rfl; exact rfl; exact inferInstance; exact inferInstance; clear hM; intro ww hM; simp only [putT, List.set_cons_succ, List.set_cons_zero]) | (apply wl_sta; exact rfl; exact hM; exact rfl; exact rfl; exact rfl; exact all_oneCell_toArray One.out; exact inferInstance; exact inferInstance; exact inferInstance; clear hM; intro ww hM; simp only [putT, List.set_cons_succ, List.set_cons_zero]) | (apply wl_bs0; exact rfl; exact hM; exact rfl; exact inferInstance; clear hM; intro gg ww hM; simp only [putT, List.set_cons_succ, List.set_cons_zero]) | (apply wl_bs1a; exact rfl; exact hM; exact rfl; exact inferInstance; exact rfl; exact inferInstance; clear hM; intro gg ww hM; simp only [putT, List.set_cons_succ, List.set_cons_zero]) | (apply wl_bs11; exact rfl; exact hM; exact rfl; exact inferInstance; exact rfl; exact rfl; clear hM; intro gg ww hM; simp only [putT, List.set_cons_succ, List.set_cons_zero]) | (apply wl_conv; exact rfl; exact hM; exact rfl; exact rfl; exact inferInstance; exact inferInstance; simp only [putT, List.set_cons_succ, List.set_cons_zero]))
              | (have _t := tok; go_at_call 13; refine (Proves_any _ g c q c3 vn vc A A3 D ks lv slot below val ((unhide hr).grow hM.grow) (Reads.of_own (hM.row 0 rfl)) (unhide HL) (row_cap (hM.row 0 rfl)).1 (unhide HOK) (by rw [unhide HK4]; decide) (bytesUp (unhide hb2) hM.grow) hvc (by omega)).mono ?_; rw [unhide HP1]; rintro e1 w3 ⟨rfl, hg⟩; replace hM := hM.call hg; clear hg; clear tok)
              | (go_at_call 13; refine (Proves_any _ g c q c3 vn vc A A3 D ks lv (slot + 1) below val ((unhide hr).grow hM.grow) (Reads.of_own (hM.row 0 rfl)) (unhide HL) (row_cap (hM.row 0 rfl)).1 (unhide HOK) (by rw [unhide HK4]; decide) (bytesUp (unhide hb2) hM.grow) hvc (by omega)).mono ?_; rw [unhide HP2]; rintro e1 w3 ⟨rfl, hg⟩; replace hM := hM.call hg; clear hg)
              | (go_at_call 14; refine (known7_any _).mono ?_; rintro e1 w3 ⟨rfl, hg⟩; replace hM := hM.call hg; clear hg))
            go_ret
            exact ⟨rfl, hg0.then_ hM.grow⟩
  · go_enter Try.func3, Try.ntmps3
    go_wp2_with fail
    all_goals first | (exfalso; omega) | (go_ret; exact ⟨rfl, hM.grow⟩)
end Go.Proofs.Ytkcmnhmbpamehaa
