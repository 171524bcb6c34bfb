/- cert's law: CertOrder. -/
import Derived.Test.YtgdfdombcngpnaaKn6
namespace Go.Proofs.Ytgdfdombcngpnaa
open Go.RowKit Go.MapKept
set_option linter.unusedSimpArgs false
set_option linter.unusedVariables false
theorem vCells_app (l l2 : List Vt) : vCells (l ++ l2) = vCells l ++ vCells l2 := by simp [vCells]
theorem vCells_one (v : Vt) : vCells [v] = vtc v := by simp [vCells]
theorem and3 (i : Nat) (h : i < 1000000) : bits .and .i64 (i : Int) 3 = ((i % 4 : Nat) : Int) := by
  show IntKind.i64.wrap ((BitVec.ofInt 64 (i : Int) &&& BitVec.ofInt 64 3).toNat : Int) = _
  have h1 : BitVec.ofInt 64 (i : Int) = BitVec.ofNat 64 i := by
    apply BitVec.eq_of_toNat_eq
    simp [BitVec.toNat_ofInt]
  rw [h1, BitVec.toNat_and]
  have h2 : (BitVec.ofInt 64 3).toNat = 2 ^ 2 - 1 := by decide
  rw [h2, Nat.and_two_pow_sub_one_eq_mod, IntKind.wrap_i64, BitVec.toNat_ofNat]
  omega
/-- A vote that is none. -/
def junkV (i : Nat) : Vt := ⟨2, 0, 1, zb32, ((i % 4 : Nat) : Int), zb32⟩
theorem junkV_ok (i : Nat) : (junkV i).Ok := ⟨rfl, rfl⟩
def junkL (n : Nat) : List Vt := (List.range n).map junkV
theorem junkL_succ (n : Nat) : junkL (n + 1) = junkL n ++ [junkV n] := by simp [junkL, List.range_succ]
theorem built_junk (x : Int) : Try.prog.built 47 [(0, .int .i64 2), (2, .int .i64 1), (4, .int .i64 x)] = some (vtc ⟨2, 0, 1, zb32, x, zb32⟩).toArray := by kernel_rfl
theorem order_who : ∀ f < 4, ∀ m ≤ 4, (ddx (((List.range 4).map fun i => (((f + i) % 4 : Nat) : Int)).take m)).length = m := by decide
def ordC (ks : List (List (BitVec 8))) (f n : Nat) : List Vt := (List.range n).map fun i => castOf ks 2 0 1 (seed1 5#8) (((f + i) % 4 : Nat) : Int)
theorem ordC_succ (ks : List (List (BitVec 8))) (f n : Nat) : ordC ks f (n + 1) = ordC ks f n ++ [castOf ks 2 0 1 (seed1 5#8) (((f + n) % 4 : Nat) : Int)] := by simp [ordC, List.range_succ]
theorem order_on (ks : List (List (BitVec 8))) (hk : ks.length = 4) (f j : Nat) (hj : j ≤ 9) : onOf ks (junkL j ++ ordC ks f 4) 2 0 1 (seed1 5#8) = ((List.range 4).map fun i => (((f + i) % 4 : Nat) : Int)).take (10 - j) := by
  unfold onOf
  have hl : (junkL j).length = j := by simp [junkL]
  have h1 : ∀ u ∈ junkL j, votes ks 2 0 1 (seed1 5#8) u = false := by
    intro u hu
    obtain ⟨i, _, rfl⟩ := List.mem_map.1 hu
    exact votes_not _ _ _ _ _ _ (.inr (.inr (.inr (by simp only [junkV]; decide))))
  have h2 : ∀ u ∈ (ordC ks f 4).take (10 - j), votes ks 2 0 1 (seed1 5#8) u = true := by
    intro u hu
    obtain ⟨i, _, rfl⟩ := List.mem_map.1 (List.mem_of_mem_take hu)
    exact votes_cast _ _ _ _ _ _ (by omega)
  rw [List.take_append, hl, List.take_of_length_le (by omega), List.filter_append, List.filter_eq_nil_iff.2 (fun u hu => by simp [h1 u hu]), List.filter_eq_self.2 h2, List.nil_append, List.map_take]
  unfold ordC
  rw [List.map_map]
  rfl
theorem order_len (ks : List (List (BitVec 8))) (hk : ks.length = 4) (f j : Nat) (hf : f < 4) (hj : j ≤ 9) : (whoOf ks (junkL j ++ ordC ks f 4) 2 0 1 (seed1 5#8)).length = min 4 (10 - j) := by
  unfold whoOf
  rw [List.length_mergeSort, order_on ks hk f j hj]
  rcases Nat.le_total (10 - j) 4 with h | h
  · rw [order_who f hf _ h]
    omega
  · rw [List.take_of_length_le (by simp; exact h)]
    have := order_who f hf 4 (Nat.le_refl _)
    rw [List.take_of_length_le (by simp)] at this
    omega
theorem order_meets (ks : List (List (BitVec 8))) (hk : ks.length = 4) (f j : Nat) (hf : f < 4) (hj : j ≤ 9) : meetsOf ks (junkL j ++ ordC ks f 4) 2 0 1 (seed1 5#8) = decide (3 ≤ min 4 (10 - (j : Int))) := by
  unfold meetsOf
  rw [order_len ks hk f j hf hj, hk, show ((4 : Nat) : Int) = 4 from rfl, quorum4]
  congr 1
  apply propext
  omega
attribute [local irreducible] wpList Code.wp GW Calls
set_option maxRecDepth 100000 in
set_option maxHeartbeats 4000000 in
theorem CertOrder_any (w : World) (first junk : Int) : Calls Try.prog 11 #[.int .i64 first, .int .i64 junk] w fun e w' => e = .returned (.bool true) ∧ Grow w noOwn w' := by
  by_cases hin : 0 ≤ first ∧ first ≤ 3 ∧ 0 ≤ junk ∧ junk ≤ 9
  · have hM := Mem.nil w noOwn
    obtain ⟨f, rfl⟩ : ∃ f : Nat, first = f := ⟨first.toNat, by omega⟩
    obtain ⟨j, rfl⟩ : ∃ j : Nat, junk = j := ⟨junk.toNat, by omega⟩
    obtain ⟨h1, h2, h3, h4⟩ := hin
    obtain ⟨ks, hks⟩ : ∃ ks, ks = keysOf (seed1 1#8) 4 := ⟨_, rfl⟩
    have hk4 : ks.length = 4 := by rw [hks]; exact keysOf_length ..
    have HKS := hide hks
    have HK4 := hide hk4
    clear hks hk4
    go_enter Try.func11, Try.ntmps11
    go_wp2_with (first
      | ((with_reducible refine wl_shape ?_); first | (apply wl_boxa; exact rfl; exact hM; exact rfl; exact rfl; clear hM; intro gg ww hM; simp only [putT, List.set_cons_succ, List.set_cons_zero]) | (apply wl_box1; exact rfl; exact hM; exact rfl; exact rfl; exact rfl; clear hM; intro gg ww hM; simp only [putT, List.set_cons_succ, List.set_cons_zero]) | (apply wl_alloc; exact rfl; exact hM; exact rfl; exact inferInstance; clear hM; intro gg ww hM; simp only [putT, List.set_cons_succ, List.set_cons_zero]) | (apply wl_ld; exact rfl; exact hM; exact rfl; exact rfl; exact inferInstance; exact inferInstance; simp only [putT, List.set_cons_succ, List.set_cons_zero]) | (apply wl_lda; exact rfl; exact hM; exact rfl; exact rfl; exact inferInstance; exact inferInstance; exact inferInstance; exact inferInstance; simp only [putT, List.set_cons_succ, List.set_cons_zero]) | (apply wl_ldr; exact rfl; exact hM; exact rfl; exact rfl; exact inferInstance; exact inferInstance; exact inferInstance; exact inferInstance; simp only [putT, List.set_cons_succ, List.set_cons_zero]) | (apply wl_st; exact rfl; exact hM; exact rfl; exact rfl; exact rfl; exact rfl; exact inferInstance; exact inferInstance; clear hM; intro ww hM; simp only [putT, List.set_cons_succ, List.set_cons_zero]) | (apply wl_sta; exact rfl; exact hM; exact rfl; exact rfl; exact rfl; exact all_oneCell_toArray One.out; exact inferInstance; exact inferInstance; exact inferInstance; clear hM; intro ww hM; simp only [putT, List.set_cons_succ, List.set_cons_zero]) | (apply wl_bs0; exact rfl; exact hM; exact rfl; exact inferInstance; clear hM; intro gg ww hM; simp only [putT, List.set_cons_succ, List.set_cons_zero]) | (apply wl_bs1a; exact rfl; exact hM; exact rfl; exact inferInstance; exact rfl; exact inferInstance; clear hM; intro gg ww hM; simp only [putT, List.set_cons_succ, List.set_cons_zero]) | (apply wl_bs11; exact rfl; exact hM; exact rfl; exact inferInstance; exact rfl; exact rfl; clear hM; intro gg ww hM; simp only [putT, List.set_cons_succ, List.set_cons_zero]) | (apply wl_conv; exact rfl; exact hM; exact rfl; exact rfl; exact inferInstance; exact inferInstance; simp only [putT, List.set_cons_succ, List.set_cons_zero]))
      | (refine wpList_build_to rfl 30 #[(0, .const (.int .u8 1))] rfl (hv (seed1 1#8)) (by kernel_rfl) ?_)
      | (go_at_call 17; refine (New_any _ 4 (seed1 1#8) rfl).mono ?_; rintro e w1 ⟨⟨p, rfl, g, A, c, rfl, hr0⟩, hg⟩; rw [cnt4, ← unhide HKS] at hr0; have hg0 := hM.grow.then_ hg; clear hM; have hM := Mem.nil w1 noOwn; have hr := hide hr0; clear hr0 hg))
    replace hM := hM.pushNil 47 68
    have HM := hide hM
    go_loopw [6, 7] (fun lv iv wr => ∃ (q cc : Nat) (A : Option Addr), q ≤ j ∧ lv = .slice A q cc ∧ iv = .int .i64 q ∧ Mem w1 noOwn wr [.row (.slice A q cc) 47 68 q (vCells (junkL q))]) (fun _ iv _ => j - (intOf iv).toNat)
    case atStart => exact ⟨0, 0, none, Nat.zero_le _, rfl, by go_num, hM⟩
    case round =>
      clear hM HM
      obtain ⟨q, cc, A, hq, rfl, rfl, hM⟩ := hrel
      by_cases hlt : q < j
      · have hand := and3 q (by omega)
        have hcel : vCells (junkL q) ++ vtc (junkV q) = vCells (junkL (q + 1)) := by rw [junkL_succ, vCells_app, vCells_one]
        have HC := hide hcel
        have zj : SzL (vtc (junkV q)) 68 := ⟨vtc_len (junkV_ok q)⟩
        clear hcel
        go_wp2_with (first
          | ((with_reducible refine wl_shape ?_); first | (apply wl_boxa; exact rfl; exact hM; exact rfl; exact rfl; clear hM; intro gg ww hM; simp only [putT, List.set_cons_succ, List.set_cons_zero]) | (apply wl_box1; exact rfl; exact hM; exact rfl; exact rfl; exact rfl; clear hM; intro gg ww hM; simp only [putT, List.set_cons_succ, List.set_cons_zero]) | (apply wl_alloc; exact rfl; exact hM; exact rfl; exact inferInstance; clear hM; intro gg ww hM; simp only [putT, List.set_cons_succ, List.set_cons_zero]) | (apply wl_ld; exact rfl; exact hM; exact rfl; exact rfl; exact inferInstance; exact inferInstance; simp only [putT, List.set_cons_succ, List.set_cons_zero]) | (apply wl_lda; exact rfl; exact hM; exact rfl; exact rfl; exact inferInstance; exact inferInstance; exact inferInstance; exact inferInstance; simp only [putT, List.set_cons_succ, List.set_cons_zero]) | (apply wl_ldr; exact rfl; exact hM; exact rfl; exact rfl; exact inferInstance; exact inferInstance; exact inferInstance; exact inferInstance; simp only [putT, List.set_cons_succ, List.set_cons_zero]) | (apply wl_st; exact rfl; exact hM; exact rfl; exact rfl; exact rfl; exact rfl; exact inferInstance; exact inferInstance; clear hM; intro ww hM; simp only [putT, List.set_cons_succ, List.set_cons_zero]) | (apply wl_sta; exact rfl; exact hM; exact rfl; exact rfl; exact rfl; exact all_oneCell_toArray One.out; exact inferInstance; exact inferInstance; exact inferInstance; clear hM; intro ww hM; simp only [putT, List.set_cons_succ, List.set_cons_zero]) | (apply wl_bs0; exact rfl; exact hM; exact rfl; exact inferInstance; clear hM; intro gg ww hM; simp only [putT, List.set_cons_succ, List.set_cons_zero]) | (apply wl_bs1a; exact rfl; exact hM; exact rfl; exact inferInstance; exact rfl; exact inferInstance; clear hM; intro gg ww hM; simp only [putT, List.set_cons_succ, List.set_cons_zero]) | (apply wl_bs11; exact rfl; exact hM; exact rfl; exact inferInstance; exact rfl; exact rfl; clear hM; intro gg ww hM; simp only [putT, List.set_cons_succ, List.set_cons_zero]) | (apply wl_conv; exact rfl; exact hM; exact rfl; exact rfl; exact inferInstance; exact inferInstance; simp only [putT, List.set_cons_succ, List.set_cons_zero]))
          | (rw [hand])
          | (refine wpList_built rfl 47 _ rfl [(0, .int .i64 2), (2, .int .i64 1), (4, .int .i64 ((q % 4 : Nat) : Int))] (vtc (junkV q)).toArray (by kernel_rfl) (built_junk _) ?_)
          | (apply wl_app; exact rfl; exact hM; exact rfl; exact inferInstance; exact rfl; exact rfl; exact inferInstance; exact One.out; exact inferInstance; (unfold maxLen; omega); omega; exact rfl; exact (unhide HC); clear hM; intro A4 c4 ww hM; simp only [List.set_cons_succ, List.set_cons_zero] at hM; simp only [putT, List.set_cons_succ, List.set_cons_zero]))
        go_roundw
        case rel => exact ⟨q + 1, c4, A4, by omega, rfl, by go_num, hM.tail⟩
        case measure => simp [intOf]; omega
      · have e : q = j := by omega
        subst e
        go_wp2_with (first | ((with_reducible refine wl_shape ?_); first | (apply wl_boxa; exact rfl; exact hM; exact rfl; exact rfl; clear hM; intro gg ww hM; simp only [putT, List.set_cons_succ, List.set_cons_zero]) | (apply wl_box1; exact rfl; exact hM; exact rfl; exact rfl; exact rfl; clear hM; intro gg ww hM; simp only [putT, List.set_cons_succ, List.set_cons_zero]) | (apply wl_alloc; exact rfl; exact hM; exact rfl; exact inferInstance; clear hM; intro gg ww hM; simp only [putT, List.set_cons_succ, List.set_cons_zero]) | (apply wl_ld; exact rfl; exact hM; exact rfl; exact rfl; exact inferInstance; exact inferInstance; simp only [putT, List.set_cons_succ, List.set_cons_zero]) | (apply wl_lda; exact rfl; exact hM; exact rfl; exact rfl; exact inferInstance; exact inferInstance; exact inferInstance; exact inferInstance; simp only [putT, List.set_cons_succ, List.set_cons_zero]) | (apply wl_ldr; exact rfl; exact hM; exact rfl; exact rfl; exact inferInstance; exact inferInstance; exact inferInstance; exact inferInstance; simp only [putT, List.set_cons_succ, List.set_cons_zero]) | (apply wl_st; exact rfl; exact hM; exact rfl; exact rfl; exact rfl; exact rfl; exact inferInstance; exact inferInstance; clear hM; intro ww hM; simp only [putT, List.set_cons_succ, List.set_cons_zero]) | (apply wl_sta; exact rfl; exact hM; exact rfl; exact rfl; exact rfl; exact all_oneCell_toArray One.out; exact inferInstance; exact inferInstance; exact inferInstance; clear hM; intro ww hM; simp only [putT, List.set_cons_succ, List.set_cons_zero]) | (apply wl_bs0; exact rfl; exact hM; exact rfl; exact inferInstance; clear hM; intro gg ww hM; simp only [putT, List.set_cons_succ, List.set_cons_zero]) | (apply wl_bs1a; exact rfl; exact hM; exact rfl; exact inferInstance; exact rfl; exact inferInstance; clear hM; intro gg ww hM; simp only [putT, List.set_cons_succ, List.set_cons_zero]) | (apply wl_bs11; exact rfl; exact hM; exact rfl; exact inferInstance; exact rfl; exact rfl; clear hM; intro gg ww hM; simp only [putT, List.set_cons_succ, List.set_cons_zero]) | (apply wl_conv; exact rfl; exact hM; exact rfl; exact rfl; exact inferInstance; exact inferInstance; simp only [putT, List.set_cons_succ, List.set_cons_zero])))
        have HM := hide hM
        go_loopw [6, 8] (fun lv iv wr => ∃ (i n cc : Nat) (A : Option Addr), i ≤ 4 ∧ Hid (n = q + i) ∧ lv = .slice A n cc ∧ iv = .int .i64 i ∧ Mem w1 noOwn wr [.row (.slice A n cc) 47 68 n (vCells (junkL q ++ ordC ks f i))]) (fun _ iv _ => 4 - (intOf iv).toNat)
        case atStart => exact ⟨0, q, cc, A, by omega, hide rfl, rfl, by go_num, by simpa [ordC] using hM⟩
        case round =>
          clear hM HM
          obtain ⟨i, n, cc, A, hi, hn, rfl, rfl, hM⟩ := hrel
          by_cases hlt : i < 4
          · have hand := and3 (f + i) (by omega)
            have hn9 : n ≤ 20 := by have := unhide hn; omega
            rw [show ((f + i : Nat) : Int) = (f : Int) + i from by omega] at hand
            obtain ⟨fi, hfi⟩ : ∃ fi, fi = (f + i) % 4 := ⟨_, rfl⟩
            rw [← hfi] at hand
            obtain ⟨v, hv⟩ : ∃ v, v = castOf ks 2 0 1 (seed1 5#8) ((fi : Nat) : Int) := ⟨_, rfl⟩
            have vok : v.Ok := by rw [hv]; exact castOf_ok _ _ _ _ _ _ rfl
            have hcel : vCells (junkL q ++ ordC ks f i) ++ vtc v = vCells (junkL q ++ ordC ks f (i + 1)) := by rw [ordC_succ, ← hfi, ← hv, ← List.append_assoc, vCells_app (junkL q ++ ordC ks f i), vCells_one]
            have HC := hide hcel
            have zj : SzL (vtc v) 68 := ⟨vtc_len vok⟩
            have HV := hide hv
            clear hcel hv hfi
            go_wp2_with (first
              | ((with_reducible refine wl_shape ?_); first | (apply wl_boxa; exact rfl; exact hM; exact rfl; exact rfl; clear hM; intro gg ww hM; simp only [putT, List.set_cons_succ, List.set_cons_zero]) | (apply wl_box1; exact rfl; exact hM; exact rfl; exact rfl; exact rfl; clear hM; intro gg ww hM; simp only [putT, List.set_cons_succ, List.set_cons_zero]) | (apply wl_alloc; exact rfl; exact hM; exact rfl; exact inferInstance; clear hM; intro gg ww hM; simp only [putT, List.set_cons_succ, List.set_cons_zero]) | (apply wl_ld; exact rfl; exact hM; exact rfl; exact rfl; exact inferInstance; exact inferInstance; simp only [putT, List.set_cons_succ, List.set_cons_zero]) | (apply wl_lda; exact rfl; exact hM; exact rfl; exact rfl; exact inferInstance; exact inferInstance; exact inferInstance; exact inferInstance; simp only [putT, List.set_cons_succ, List.set_cons_zero]) | (apply wl_ldr; exact rfl; exact hM; exact rfl; exact rfl; exact inferInstance; exact inferInstance; exact inferInstance; exact inferInstance; simp only [putT, List.set_cons_succ, List.set_cons_zero]) | (apply wl_st; exact rfl; exact hM; exact rfl; exact rfl; exact rfl; exact rfl; exact inferInstance; exact inferInstance; clear hM; intro ww hM; simp only [putT, List.set_cons_succ, List.set_cons_zero]) | (apply wl_sta; exact rfl; exact hM; exact rfl; exact rfl; exact rfl; exact all_oneCell_toArray One.out; exact inferInstance; exact inferInstance; exact inferInstance; clear hM; intro ww hM; simp only [putT, List.set_cons_succ, List.set_cons_zero]) | (apply wl_bs0; exact rfl; exact hM; exact rfl; exact inferInstance; clear hM; intro gg ww hM; simp only [putT, List.set_cons_succ, List.set_cons_zero]) | (apply wl_bs1a; exact rfl; exact hM; exact rfl; exact inferInstance; exact rfl; exact inferInstance; clear hM; intro gg ww hM; simp only [putT, List.set_cons_succ, List.set_cons_zero]) | (apply wl_bs11; exact rfl; exact hM; exact rfl; exact inferInstance; exact rfl; exact rfl; clear hM; intro gg ww hM; simp only [putT, List.set_cons_succ, List.set_cons_zero]) | (apply wl_conv; exact rfl; exact hM; exact rfl; exact rfl; exact inferInstance; exact inferInstance; simp only [putT, List.set_cons_succ, List.set_cons_zero]))
              | (rw [hand])
              | (refine wpList_build_to rfl 30 #[(0, .const (.int .u8 5))] rfl (hv (seed1 5#8)) (by kernel_rfl) ?_)
              | (go_at_call 27; refine (Cast_any _ g c _ ks 2 0 1 ((fi : Nat) : Int) (seed1 5#8) ((unhide hr).grow hM.grow) rfl).mono ?_; rw [← unhide HV]; rintro e1 w2 ⟨rfl, hg⟩; replace hM := hM.call hg; clear hg)
              | (apply wl_app; exact rfl; exact hM; exact rfl; exact inferInstance; exact rfl; exact rfl; exact inferInstance; exact One.out; exact inferInstance; (unfold maxLen; omega); omega; exact rfl; exact (unhide HC); clear hM; intro A4 c4 ww hM; simp only [List.set_cons_succ, List.set_cons_zero] at hM; simp only [putT, List.set_cons_succ, List.set_cons_zero]))
            go_roundw
            case rel => exact ⟨i + 1, n + 1, c4, A4, by omega, hide (by rw [unhide hn]; rfl), rfl, by go_num, hM.tail⟩
            case measure => simp [intOf]; omega
          · have e : i = 4 := by omega
            subst e
            obtain ⟨lv, hlv⟩ : ∃ lv, lv = junkL q ++ ordC ks f 4 := ⟨_, rfl⟩
            have hok : ∀ u ∈ lv, u.Ok := by
              rw [hlv]
              intro u hu
              rcases List.mem_append.1 hu with h | h
              · obtain ⟨x, _, rfl⟩ := List.mem_map.1 h; exact junkV_ok x
              · obtain ⟨x, _, rfl⟩ := List.mem_map.1 h; exact castOf_ok _ _ _ _ _ _ rfl
            have hlen : lv.length = n := by rw [hlv, unhide hn]; simp [junkL, ordC]
            have hw := order_len ks (unhide HK4) f q (by omega) (by omega)
            have hm := order_meets ks (unhide HK4) f q (by omega) (by omega)
            rw [← hlv] at hw hm hM
            have hcap := (row_cap (hM.row 0 rfl)).1
            obtain ⟨wh, hwh⟩ : ∃ wh, wh = whoOf ks lv 2 0 1 (seed1 5#8) := ⟨_, rfl⟩
            rw [← hwh] at hw
            have HW := hide hw
            have HMT := hide hm
            have HWH := hide hwh
            have HLEN := hide hlen
            have hwi : (wh.length : Int) = min 4 (10 - (q : Int)) := by omega
            have HWI := hide hwi
            clear hlv hw hm hwh hlen hwi
            go_wp2_with (first
              | ((with_reducible refine wl_shape ?_); first | (apply wl_boxa; exact rfl; exact hM; exact rfl; exact rfl; clear hM; intro gg ww hM; simp only [putT, List.set_cons_succ, List.set_cons_zero]) | (apply wl_box1; exact rfl; exact hM; exact rfl; exact rfl; exact rfl; clear hM; intro gg ww hM; simp only [putT, List.set_cons_succ, List.set_cons_zero]) | (apply wl_alloc; exact rfl; exact hM; exact rfl; exact inferInstance; clear hM; intro gg ww hM; simp only [putT, List.set_cons_succ, List.set_cons_zero]) | (apply wl_ld; exact rfl; exact hM; exact rfl; exact rfl; exact inferInstance; exact inferInstance; simp only [putT, List.set_cons_succ, List.set_cons_zero]) | (apply wl_lda; exact rfl; exact hM; exact rfl; exact rfl; exact inferInstance; exact inferInstance; exact inferInstance; exact inferInstance; simp only [putT, List.set_cons_succ, List.set_cons_zero]) | (apply wl_ldr; exact rfl; exact hM; exact rfl; exact rfl; exact inferInstance; exact inferInstance; exact inferInstance; exact inferInstance; simp only [putT, List.set_cons_succ, List.set_cons_zero]) | (apply wl_st; exact rfl; exact hM; exact rfl; exact rfl; exact rfl; exact rfl; exact inferInstance; exact inferInstance; clear hM; intro ww hM; simp only [putT, List.set_cons_succ, List.set_cons_zero]) | (apply wl_sta; exact rfl; exact hM; exact rfl; exact rfl; exact rfl; exact all_oneCell_toArray One.out; exact inferInstance; exact inferInstance; exact inferInstance; clear hM; intro ww hM; simp only [putT, List.set_cons_succ, List.set_cons_zero]) | (apply wl_bs0; exact rfl; exact hM; exact rfl; exact inferInstance; clear hM; intro gg ww hM; simp only [putT, List.set_cons_succ, List.set_cons_zero]) | (apply wl_bs1a; exact rfl; exact hM; exact rfl; exact inferInstance; exact rfl; exact inferInstance; clear hM; intro gg ww hM; simp only [putT, List.set_cons_succ, List.set_cons_zero]) | (apply wl_bs11; exact rfl; exact hM; exact rfl; exact inferInstance; exact rfl; exact rfl; clear hM; intro gg ww hM; simp only [putT, List.set_cons_succ, List.set_cons_zero]) | (apply wl_conv; exact rfl; exact hM; exact rfl; exact rfl; exact inferInstance; exact inferInstance; simp only [putT, List.set_cons_succ, List.set_cons_zero]))
              | (refine wpList_build_to rfl 30 #[(0, .const (.int .u8 5))] rfl (hv (seed1 5#8)) (by kernel_rfl) ?_)
              | (go_at_call 30; refine (Who_any _ g c n cc _ _ ks lv 2 0 1 (seed1 5#8) ((unhide hr).grow hM.grow) (Reads.of_own (hM.row 0 rfl)) (unhide HLEN) hcap hok rfl).mono ?_; rw [← unhide HWH]; rintro e1 w2 ⟨A1, cq, rfl, hM1⟩; replace hM := hM.call hM1.grow; clear hM1)
              | (go_at_call 32; refine (Meets_any _ g c n cc _ _ ks lv 2 0 1 (seed1 5#8) ((unhide hr).grow hM.grow) (Reads.of_own (hM.row 0 rfl)) (unhide HLEN) hcap hok rfl (by rw [unhide HK4]; decide)).mono ?_; rw [unhide HMT]; rintro e1 w2 ⟨rfl, hg⟩; replace hM := hM.call hg; clear hg)
              | (go_at_call 34; refine (known6_any _).mono ?_; rintro e1 w2 ⟨rfl, hg⟩; replace hM := hM.call hg; clear hg)
              | (rw [unhide HWI]))
            go_ret
            exact ⟨rfl, (unhide (hide hg0)).then_ hM.grow⟩
  · have hM := Mem.nil w noOwn
    have hcases : first < 0 ∨ (¬ first < 0 ∧ 3 < first) ∨ (¬ first < 0 ∧ ¬ 3 < first ∧ junk < 0) ∨ (¬ first < 0 ∧ ¬ 3 < first ∧ ¬ junk < 0 ∧ 9 < junk) := by omega
    clear hin
    go_enter Try.func11, Try.ntmps11
    rcases hcases with hc | ⟨hc, hd⟩ | ⟨hc, hd, hf⟩ | ⟨hc, hd, hf, hg⟩
    all_goals
      go_wp2_with (first
        | ((with_reducible refine wl_shape ?_); first | (apply wl_boxa; exact rfl; exact hM; exact rfl; exact rfl; clear hM; intro gg ww hM; simp only [putT, List.set_cons_succ, List.set_cons_zero]) | (apply wl_box1; exact rfl; exact hM; exact rfl; exact rfl; exact rfl; clear hM; intro gg ww hM; simp only [putT, List.set_cons_succ, List.set_cons_zero]) | (apply wl_alloc; exact rfl; exact hM; exact rfl; exact inferInstance; clear hM; intro gg ww hM; simp only [putT, List.set_cons_succ, List.set_cons_zero]) | (apply wl_ld; exact rfl; exact hM; exact rfl; exact rfl; exact inferInstance; exact inferInstance; simp only [putT, List.set_cons_succ, List.set_cons_zero]) | (apply wl_lda; exact rfl; exact hM; exact rfl; exact rfl; exact inferInstance; exact inferInstance; exact inferInstance; exact inferInstance; simp only [putT, List.set_cons_succ, List.set_cons_zero]) | (apply wl_ldr; exact rfl; exact hM; exact rfl; exact rfl; exact inferInstance; exact inferInstance; exact inferInstance; exact inferInstance; simp only [putT, List.set_cons_succ, List.set_cons_zero]) | (apply wl_st; exact rfl; exact hM; exact rfl; exact rfl; exact rfl; exact rfl; exact inferInstance; exact inferInstance; clear hM; intro ww hM; simp only [putT, List.set_cons_succ, List.set_cons_zero]) | (apply wl_sta; exact rfl; exact hM; exact rfl; exact rfl; exact rfl; exact all_oneCell_toArray One.out; exact inferInstance; exact inferInstance; exact inferInstance; clear hM; intro ww hM; simp only [putT, List.set_cons_succ, List.set_cons_zero]) | (apply wl_bs0; exact rfl; exact hM; exact rfl; exact inferInstance; clear hM; intro gg ww hM; simp only [putT, List.set_cons_succ, List.set_cons_zero]) | (apply wl_bs1a; exact rfl; exact hM; exact rfl; exact inferInstance; exact rfl; exact inferInstance; clear hM; intro gg ww hM; simp only [putT, List.set_cons_succ, List.set_cons_zero]) | (apply wl_bs11; exact rfl; exact hM; exact rfl; exact inferInstance; exact rfl; exact rfl; clear hM; intro gg ww hM; simp only [putT, List.set_cons_succ, List.set_cons_zero]) | (apply wl_conv; exact rfl; exact hM; exact rfl; exact rfl; exact inferInstance; exact inferInstance; simp only [putT, List.set_cons_succ, List.set_cons_zero]))
        | (go_at_call 34; refine (known6_any _).mono ?_; rintro e1 w2 ⟨rfl, hg⟩; replace hM := hM.call hg; clear hg))
      go_ret
      exact ⟨rfl, hM.grow⟩
end Go.Proofs.Ytgdfdombcngpnaa
