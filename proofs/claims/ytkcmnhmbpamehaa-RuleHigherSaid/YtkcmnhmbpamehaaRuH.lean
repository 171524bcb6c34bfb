/- rule's law: RuleHigher. -/
import Derived.Test.YtkcmnhmbpamehaaRuJ2
namespace Go.Proofs.Ytkcmnhmbpamehaa
open Go.RowKit Go.MapKept
set_option linter.unusedSimpArgs false
set_option linter.unusedVariables false
theorem Higher_len (w : World) (g c an ka n la bn kb m lb : Nat) (A KA LA KB LB : Option Addr) (ks : List (List (BitVec 8))) (va vb : List Vt) (slot below av bv : Int) (xa xb : List (BitVec 8)) (h : RingIs w g A c 56 ks) (hk10 : ks.length ≤ 1000)
    (e1 : xa.length = an) (e2 : va.length = n) (e3 : xb.length = bn) (e4 : vb.length = m)
    (hxa : Bytes w w.heap.size KA an xa) (hla : Reads w w.heap.size 68 LA n (vCells va)) (hka : an ≤ ka) (hca : n ≤ la) (hoka : ∀ v ∈ va, v.Ok) (hna : an ≤ 100000) (hma : n ≤ 100000)
    (hxb : Bytes w w.heap.size KB bn xb) (hlb : Reads w w.heap.size 68 LB m (vCells vb)) (hkb : bn ≤ kb) (hcb : m ≤ lb) (hokb : ∀ v ∈ vb, v.Ok) (hnb : bn ≤ 100000) (hmb : m ≤ 100000) :
    Calls Try.prog 17 #[.pointer (some ⟨g, 0, none⟩), .int .i64 slot, .int .i64 below, .agg #[.int .i64 av, .slice KA an ka, .slice LA n la], .agg #[.int .i64 bv, .slice KB bn kb, .slice LB m lb]] w
      (LockR (hiV (provesOf ks va slot below xa) (provesOf ks vb slot below xb)) (hiX (provesOf ks va slot below xa) (provesOf ks vb slot below xb) xa xb) (hiL (provesOf ks va slot below xa) (provesOf ks vb slot below xb) va vb) w) := by
  subst e1 e2 e3 e4
  exact Higher_any w g c ka la kb lb A KA LA KB LB ks va vb slot below av bv xa xb h hk10 hxa hla hka hca hoka hna hma hxb hlb hkb hcb hokb hnb hmb
attribute [local irreducible] wpList Code.wp GW Calls
set_option maxRecDepth 100000 in
set_option maxHeartbeats 8000000 in
theorem RuleHigher_any (w : World) (p q n m : Int) (an ac bn bc : Nat) (DA DB : Option Addr) (xa xb : List (BitVec 8)) (hba : Bytes w w.heap.size DA an xa) (hca : an ≤ ac) (hbb : Bytes w w.heap.size DB bn xb) (hcb : bn ≤ bc) :
    Calls Try.prog 6 #[.int .i64 p, .int .i64 q, .int .i64 n, .int .i64 m, .slice DA an ac, .slice DB bn bc] w fun e w' => e = .returned (.bool true) ∧ Grow w noOwn w' := by
  have hM := Mem.nil w noOwn
  by_cases hin : 0 ≤ p ∧ p ≤ 7 ∧ 0 ≤ q ∧ q ≤ 7 ∧ 0 ≤ n ∧ n ≤ 4 ∧ 0 ≤ m ∧ m ≤ 4 ∧ an ≤ 100 ∧ bn ≤ 100
  · obtain ⟨h1, h2, h3, h4, h5, h6, h7, h8, h9, h10⟩ := hin
    obtain ⟨n', rfl⟩ : ∃ m : Nat, n = m := ⟨n.toNat, by omega⟩
    obtain ⟨m', rfl⟩ : ∃ n : Nat, m = n := ⟨m.toNat, by omega⟩
    have hn4 : n' ≤ 4 := by omega
    have hm4 : m' ≤ 4 := by omega
    obtain ⟨ks, hks⟩ : ∃ ks, ks = keysOf (seed1 1#8) 4 := ⟨_, rfl⟩
    have hk4 : ks.length = 4 := by rw [hks]; exact keysOf_length ..
    have HKS := hide hks
    have HK4 := hide hk4
    have hsa := sha_length xa
    have hsb := sha_length xb
    have tok : True := trivial
    have tok2 : True := trivial
    obtain ⟨la, hla⟩ : ∃ lv, lv = castN ks 1 2 p (sha xa) n' := ⟨_, rfl⟩
    obtain ⟨lb, hlb⟩ : ∃ lv, lv = castN ks 1 2 q (sha xb) m' := ⟨_, rfl⟩
    have hoka : ∀ u ∈ la, u.Ok := by rw [hla]; exact castN_ok _ _ _ _ _ hsa _
    have hokb : ∀ u ∈ lb, u.Ok := by rw [hlb]; exact castN_ok _ _ _ _ _ hsb _
    have hlla : la.length = n' := by rw [hla, castN_len]
    have hllb : lb.length = m' := by rw [hlb, castN_len]
    have hpa := provesN ks hk4 2 9 p xa n' hn4 h1
    have hpb := provesN ks hk4 2 9 q xb m' hm4 h3
    rw [← hla] at hpa
    rw [← hlb] at hpb
    have HLLA := hide hlla
    have HLLB := hide hllb
    have HOKA := hide hoka
    have HOKB := hide hokb
    have HLA := hide hla
    have HLB := hide hlb
    have HXA := hide hba.len
    have HXB := hide hbb.len
    have hpv : ∀ b : Prop, [Decidable b] → ∀ z : Int, pvI (if b then some z else none) = if b then z else -1 := fun b _ z => by split <;> rfl
    have hpx : ∀ b : Prop, [Decidable b] → ∀ (z : Int) x, lkX (if b then some z else none) x = if b then x else [] := fun b _ z x => by split <;> rfl
    have hpl : ∀ b : Prop, [Decidable b] → ∀ (z : Int) x, lkV (if b then some z else none) x = if b then x else [] := fun b _ z x => by split <;> rfl
    have hV : hiV (provesOf ks la 2 9 xa) (provesOf ks lb 2 9 xb) = if (3 ≤ n' ∧ (m' < 3 ∨ q ≤ p)) then p else if 3 ≤ m' then q else -1 := by
      unfold hiV; rw [hpa, hpb, hpv, hpv]
      split <;> split <;> split <;> (try split) <;> first | rfl | omega
    have hX : hiX (provesOf ks la 2 9 xa) (provesOf ks lb 2 9 xb) xa xb = if (3 ≤ n' ∧ (m' < 3 ∨ q ≤ p)) then xa else if 3 ≤ m' then xb else [] := by
      unfold hiX; rw [hpa, hpb, hpv, hpv, hpx, hpx]
      split <;> split <;> split <;> (try split) <;> (try split) <;> first | rfl | omega
    have hL : ∀ x, x = hiL (provesOf ks la 2 9 xa) (provesOf ks lb 2 9 xb) la lb → ¬ (3 ≤ n' ∧ (m' < 3 ∨ q ≤ p)) → ¬ 3 ≤ m' → x = [] := by
      rintro _ rfl hq1 hq2
      unfold hiL; rw [hpa, hpb, hpv, hpv, hpl, hpl]
      split <;> (try split) <;> (try split) <;> first | rfl | omega
    obtain ⟨rl, hrl⟩ : ∃ rl, rl = hiL (provesOf ks la 2 9 xa) (provesOf ks lb 2 9 xb) la lb := ⟨_, rfl⟩
    have hL2 := hL rl hrl
    have HRL := hide hrl
    clear hL hks hk4 hla hlb hlla hllb hoka hokb hpa hpb hpv hpx hpl hrl
    by_cases hc1 : 3 ≤ n' ∧ (m' < 3 ∨ q ≤ p)
    · rw [if_pos hc1] at hV hX
      have HV := hide hV
      have HX := hide hX
      clear hV hX hL2
      obtain ⟨hc2, hc3⟩ := hc1
      rcases (by omega : m' < 3 ∨ (3 ≤ m' ∧ q ≤ p)) with hc4 | ⟨hc4, hc5⟩
      all_goals
        go_enter Try.func6, Try.ntmps6
        go_wp2_with (first
          | ((with_reducible refine wl_shape ?_); first | (apply wl_boxa; exact rfl; exact hM; exact rfl; exact rfl; clear hM; intro gg ww hM; simp only [putT, List.set_cons_succ, List.set_cons_zero]) | (apply wl_box1; exact rfl; exact hM; exact rfl; exact rfl; exact rfl; clear hM; intro gg ww hM; simp only [putT, List.set_cons_succ, List.set_cons_zero]) | (apply wl_alloc; exact rfl; exact hM; exact rfl; exact inferInstance; clear hM; intro gg ww hM; simp only [putT, List.set_cons_succ, List.set_cons_zero]) | (apply wl_ld; exact rfl; exact hM; exact rfl; exact rfl; exact inferInstance; exact inferInstance; simp only [putT, List.set_cons_succ, List.set_cons_zero]) | (apply wl_lda; exact rfl; exact hM; exact rfl; exact rfl; exact inferInstance; exact inferInstance; exact inferInstance; exact inferInstance; simp only [putT, List.set_cons_succ, List.set_cons_zero]) | (apply wl_ldr; exact rfl; exact hM; exact rfl; exact rfl; exact inferInstance; exact inferInstance; exact inferInstance; exact inferInstance; simp only [putT, List.set_cons_succ, List.set_cons_zero]) | (apply wl_st; exact rfl; exact hM; exact rfl; exact rfl; exact rfl; exact rfl; exact inferInstance; exact inferInstance; clear hM; intro ww hM; simp only [putT, List.set_cons_succ, List.set_cons_zero]) | (apply wl_sta; exact rfl; exact hM; exact rfl; exact rfl; exact rfl; exact all_oneCell_toArray One.out; exact inferInstance; exact inferInstance; exact inferInstance; clear hM; intro ww hM; simp only [putT, List.set_cons_succ, List.set_cons_zero]) | (apply wl_bs0; exact rfl; exact hM; exact rfl; exact inferInstance; clear hM; intro gg ww hM; simp only [putT, List.set_cons_succ, List.set_cons_zero]) | (apply wl_bs1a; exact rfl; exact hM; exact rfl; exact inferInstance; exact rfl; exact inferInstance; clear hM; intro gg ww hM; simp only [putT, List.set_cons_succ, List.set_cons_zero]) | (apply wl_bs11; exact rfl; exact hM; exact rfl; exact inferInstance; exact rfl; exact rfl; clear hM; intro gg ww hM; simp only [putT, List.set_cons_succ, List.set_cons_zero]) | (apply wl_conv; exact rfl; exact hM; exact rfl; exact rfl; exact inferInstance; exact inferInstance; simp only [putT, List.set_cons_succ, List.set_cons_zero]))
          | (refine wpList_build_to rfl 26 #[(0, .const (.int .u8 1))] rfl (hv (seed1 1#8)) (by kernel_rfl) ?_) | (go_at_call 8; refine (New_any _ 4 (seed1 1#8) rfl).mono ?_; rintro e w1 ⟨⟨p, rfl, g, A, c, rfl, hr0⟩, hg⟩; rw [cnt4, ← unhide HKS] at hr0; replace hM := hM.call hg; have hr1 := hide hr0; clear hr0 hg) | (go_at_call 9; refine (RNew_any _ 4 (seed1 1#8) rfl).mono ?_; rintro e w2 ⟨⟨p, rfl, g2, A2, c2, rfl, hr0⟩, hg⟩; rw [cnt4, ← unhide HKS] at hr0; replace hM := hM.call hg; have hr := hide ((unhide hr1).grow hg); have hrx := hide hr0; have hg0 := hM.grow; have hba2 := hide (bytesUp hba hM.grow); have hbb2 := hide (bytesUp hbb hM.grow);  clear hM; have hM := Mem.nil w2 noOwn; clear hr0 hg)
          | (have _t := tok; go_at_call 10; refine (Votes7_any _ g2 c2 n' an ac A2 DA ks 2 p xa ((unhide hrx).grow hM.grow) (by omega) (bytesUp (unhide hba2) hM.grow) hca (by omega)).mono ?_; rintro e1 w3 ⟨A5, c5, rfl, hM1⟩; replace hM := hM.on hM1; simp only [List.cons_append, List.nil_append] at hM; clear hM1; rw [← unhide HLA] at hM; clear tok)
          | (go_at_call 10; refine (Votes7_any _ g2 c2 m' bn bc A2 DB ks 2 q xb ((unhide hrx).grow hM.grow) (by omega) (bytesUp (unhide hbb2) hM.grow) hcb (by omega)).mono ?_; rintro e1 w3 ⟨A6, c6, rfl, hM1⟩; replace hM := hM.on hM1; simp only [List.cons_append, List.nil_append] at hM; clear hM1; rw [← unhide HLB] at hM)
          | (have _t := tok2; refine wpList_build_to rfl 40 _ rfl #[.int .i64 0, .slice DA an ac, .slice A5 n' c5] (by kernel_rfl) ?_; clear tok2)
          | (refine wpList_build_to rfl 40 _ rfl #[.int .i64 0, .slice DB bn bc, .slice A6 m' c6] (by kernel_rfl) ?_)
          | (go_at_call 17; refine (Higher_len _ g c an ac n' c5 bn bc m' c6 A DA A5 DB A6 ks la lb 2 9 0 0 xa xb ((unhide hr).grow hM.grow) (by rw [unhide HK4]; decide) (unhide HXA) (unhide HLLA) (unhide HXB) (unhide HLLB) (bytesUp (unhide hba2) hM.grow) (Reads.of_own (hM.row 1 rfl)) hca (row_cap (hM.row 1 rfl)).1 (unhide HOKA) (by omega) (by omega) (bytesUp (unhide hbb2) hM.grow) (Reads.of_own (hM.row 0 rfl)) hcb (row_cap (hM.row 0 rfl)).1 (unhide HOKB) (by omega) (by omega)).mono ?_; rw [unhide HV, unhide HX, ← unhide HRL]; rintro e1 w3 ⟨val, rfl, ⟨A7, c7, A8, c8, rfl, hv1, hv2, hv3, hv4⟩, hg⟩; have hg1 := (hg0.then_ hM.grow).then_ hg; clear hM; have hM := Mem.nil w3 noOwn; have rres := rdsB_no hv3; have rba : RdsB w3 noOwn DA an xa := rdsB_no (bytesUp hba hg1); have rbb : RdsB w3 noOwn DB bn xb := rdsB_no (bytesUp hbb hg1); clear hg hv1 hv2 hv3 hv4)
          | (go_at_call 14; refine (known7_any _).mono ?_; rintro e1 w3 ⟨rfl, hg⟩; replace hM := hM.call hg; clear hg))
        go_ret
        exact ⟨rfl, hg1.then_ hM.grow⟩
    · rw [if_neg hc1] at hV hX
      by_cases hc2 : 3 ≤ m'
      · rw [if_pos hc2] at hV hX
        have HV := hide hV
        have HX := hide hX
        clear hV hX hL2
        rcases (by omega : n' < 3 ∨ (3 ≤ n' ∧ p < q)) with hc4 | ⟨hc4, hc5⟩
        all_goals
          clear hc1
          go_enter Try.func6, Try.ntmps6
          go_wp2_with (first
            | ((with_reducible refine wl_shape ?_); first | (apply wl_boxa; exact rfl; exact hM; exact rfl; exact rfl; clear hM; intro gg ww hM; simp only [putT, List.set_cons_succ, List.set_cons_zero]) | (apply wl_box1; exact rfl; exact hM; exact rfl; exact rfl; exact rfl; clear hM; intro gg ww hM; simp only [putT, List.set_cons_succ, List.set_cons_zero]) | (apply wl_alloc; exact rfl; exact hM; exact rfl; exact inferInstance; clear hM; intro gg ww hM; simp only [putT, List.set_cons_succ, List.set_cons_zero]) | (apply wl_ld; exact rfl; exact hM; exact rfl; exact rfl; exact inferInstance; exact inferInstance; simp only [putT, List.set_cons_succ, List.set_cons_zero]) | (apply wl_lda; exact rfl; exact hM; exact rfl; exact rfl; exact inferInstance; exact inferInstance; exact inferInstance; exact inferInstance; simp only [putT, List.set_cons_succ, List.set_cons_zero]) | (apply wl_ldr; exact rfl; exact hM; exact rfl; exact rfl; exact inferInstance; exact inferInstance; exact inferInstance; exact inferInstance; simp only [putT, List.set_cons_succ, List.set_cons_zero]) | (apply wl_st; exact rfl; exact hM; exact rfl; exact rfl; exact rfl; exact rfl; exact inferInstance; exact inferInstance; clear hM; intro ww hM; simp only [putT, List.set_cons_succ, List.set_cons_zero]) | (apply wl_sta; exact rfl; exact hM; exact rfl; exact rfl; exact rfl; exact all_oneCell_toArray One.out; exact inferInstance; exact inferInstance; exact inferInstance; clear hM; intro ww hM; simp only [putT, List.set_cons_succ, List.set_cons_zero]) | (apply wl_bs0; exact rfl; exact hM; exact rfl; exact inferInstance; clear hM; intro gg ww hM; simp only [putT, List.set_cons_succ, List.set_cons_zero]) | (apply wl_bs1a; exact rfl; exact hM; exact rfl; exact inferInstance; exact rfl; exact inferInstance; clear hM; intro gg ww hM; simp only [putT, List.set_cons_succ, List.set_cons_zero]) | (apply wl_bs11; exact rfl; exact hM; exact rfl; exact inferInstance; exact rfl; exact rfl; clear hM; intro gg ww hM; simp only [putT, List.set_cons_succ, List.set_cons_zero]) | (apply wl_conv; exact rfl; exact hM; exact rfl; exact rfl; exact inferInstance; exact inferInstance; simp only [putT, List.set_cons_succ, List.set_cons_zero]))
            | (refine wpList_build_to rfl 26 #[(0, .const (.int .u8 1))] rfl (hv (seed1 1#8)) (by kernel_rfl) ?_) | (go_at_call 8; refine (New_any _ 4 (seed1 1#8) rfl).mono ?_; rintro e w1 ⟨⟨p, rfl, g, A, c, rfl, hr0⟩, hg⟩; rw [cnt4, ← unhide HKS] at hr0; replace hM := hM.call hg; have hr1 := hide hr0; clear hr0 hg) | (go_at_call 9; refine (RNew_any _ 4 (seed1 1#8) rfl).mono ?_; rintro e w2 ⟨⟨p, rfl, g2, A2, c2, rfl, hr0⟩, hg⟩; rw [cnt4, ← unhide HKS] at hr0; replace hM := hM.call hg; have hr := hide ((unhide hr1).grow hg); have hrx := hide hr0; have hg0 := hM.grow; have hba2 := hide (bytesUp hba hM.grow); have hbb2 := hide (bytesUp hbb hM.grow);  clear hM; have hM := Mem.nil w2 noOwn; clear hr0 hg)
            | (have _t := tok; go_at_call 10; refine (Votes7_any _ g2 c2 n' an ac A2 DA ks 2 p xa ((unhide hrx).grow hM.grow) (by omega) (bytesUp (unhide hba2) hM.grow) hca (by omega)).mono ?_; rintro e1 w3 ⟨A5, c5, rfl, hM1⟩; replace hM := hM.on hM1; simp only [List.cons_append, List.nil_append] at hM; clear hM1; rw [← unhide HLA] at hM; clear tok)
            | (go_at_call 10; refine (Votes7_any _ g2 c2 m' bn bc A2 DB ks 2 q xb ((unhide hrx).grow hM.grow) (by omega) (bytesUp (unhide hbb2) hM.grow) hcb (by omega)).mono ?_; rintro e1 w3 ⟨A6, c6, rfl, hM1⟩; replace hM := hM.on hM1; simp only [List.cons_append, List.nil_append] at hM; clear hM1; rw [← unhide HLB] at hM)
            | (have _t := tok2; refine wpList_build_to rfl 40 _ rfl #[.int .i64 0, .slice DA an ac, .slice A5 n' c5] (by kernel_rfl) ?_; clear tok2)
            | (refine wpList_build_to rfl 40 _ rfl #[.int .i64 0, .slice DB bn bc, .slice A6 m' c6] (by kernel_rfl) ?_)
            | (go_at_call 17; refine (Higher_len _ g c an ac n' c5 bn bc m' c6 A DA A5 DB A6 ks la lb 2 9 0 0 xa xb ((unhide hr).grow hM.grow) (by rw [unhide HK4]; decide) (unhide HXA) (unhide HLLA) (unhide HXB) (unhide HLLB) (bytesUp (unhide hba2) hM.grow) (Reads.of_own (hM.row 1 rfl)) hca (row_cap (hM.row 1 rfl)).1 (unhide HOKA) (by omega) (by omega) (bytesUp (unhide hbb2) hM.grow) (Reads.of_own (hM.row 0 rfl)) hcb (row_cap (hM.row 0 rfl)).1 (unhide HOKB) (by omega) (by omega)).mono ?_; rw [unhide HV, unhide HX, ← unhide HRL]; rintro e1 w3 ⟨val, rfl, ⟨A7, c7, A8, c8, rfl, hv1, hv2, hv3, hv4⟩, hg⟩; have hg1 := (hg0.then_ hM.grow).then_ hg; clear hM; have hM := Mem.nil w3 noOwn; have rres := rdsB_no hv3; have rba : RdsB w3 noOwn DA an xa := rdsB_no (bytesUp hba hg1); have rbb : RdsB w3 noOwn DB bn xb := rdsB_no (bytesUp hbb hg1); clear hg hv1 hv2 hv3 hv4)
            | (go_at_call 14; refine (known7_any _).mono ?_; rintro e1 w3 ⟨rfl, hg⟩; replace hM := hM.call hg; clear hg))
          go_ret
          exact ⟨rfl, hg1.then_ hM.grow⟩
      · rw [if_neg hc2] at hV hX
        have HV := hide hV
        have HX := hide hX
        obtain rfl := hL2 hc1 hc2
        clear hV hX hL2
        have hc4 : n' < 3 := by omega
        have hc5 : m' < 3 := by omega
        clear hc1 hc2
        go_enter Try.func6, Try.ntmps6
        go_wp2_with (first
          | ((with_reducible refine wl_shape ?_); first | (apply wl_boxa; exact rfl; exact hM; exact rfl; exact rfl; clear hM; intro gg ww hM; simp only [putT, List.set_cons_succ, List.set_cons_zero]) | (apply wl_box1; exact rfl; exact hM; exact rfl; exact rfl; exact rfl; clear hM; intro gg ww hM; simp only [putT, List.set_cons_succ, List.set_cons_zero]) | (apply wl_alloc; exact rfl; exact hM; exact rfl; exact inferInstance; clear hM; intro gg ww hM; simp only [putT, List.set_cons_succ, List.set_cons_zero]) | (apply wl_ld; exact rfl; exact hM; exact rfl; exact rfl; exact inferInstance; exact inferInstance; simp only [putT, List.set_cons_succ, List.set_cons_zero]) | (apply wl_lda; exact rfl; exact hM; exact rfl; exact rfl; exact inferInstance; exact inferInstance; exact inferInstance; exact inferInstance; simp only [putT, List.set_cons_succ, List.set_cons_zero]) | (apply wl_ldr; exact rfl; exact hM; exact rfl; exact rfl; exact inferInstance; exact inferInstance; exact inferInstance; exact inferInstance; simp only [putT, List.set_cons_succ, List.set_cons_zero]) | (apply wl_st; exact rfl; exact hM; exact rfl; exact rfl; exact rfl; exact rfl; exact inferInstance; exact inferInstance; clear hM; intro ww hM; simp only [putT, List.set_cons_succ, List.set_cons_zero]) | (apply wl_sta; exact rfl; exact hM; exact rfl; exact rfl; exact rfl; exact all_oneCell_toArray One.out; exact inferInstance; exact inferInstance; exact inferInstance; clear hM; intro ww hM; simp only [putT, List.set_cons_succ, List.set_cons_zero]) | (apply wl_bs0; exact rfl; exact hM; exact rfl; exact inferInstance; clear hM; intro gg ww hM; simp only [putT, List.set_cons_succ, List.set_cons_zero]) | (apply wl_bs1a; exact rfl; exact hM; exact rfl; exact inferInstance; exact rfl; exact inferInstance; clear hM; intro gg ww hM; simp only [putT, List.set_cons_succ, List.set_cons_zero]) | (apply wl_bs11; exact rfl; exact hM; exact rfl; exact inferInstance; exact rfl; exact rfl; clear hM; intro gg ww hM; simp only [putT, List.set_cons_succ, List.set_cons_zero]) | (apply wl_conv; exact rfl; exact hM; exact rfl; exact rfl; exact inferInstance; exact inferInstance; simp only [putT, List.set_cons_succ, List.set_cons_zero]))
          | (refine wpList_build_to rfl 26 #[(0, .const (.int .u8 1))] rfl (hv (seed1 1#8)) (by kernel_rfl) ?_) | (go_at_call 8; refine (New_any _ 4 (seed1 1#8) rfl).mono ?_; rintro e w1 ⟨⟨p, rfl, g, A, c, rfl, hr0⟩, hg⟩; rw [cnt4, ← unhide HKS] at hr0; replace hM := hM.call hg; have hr1 := hide hr0; clear hr0 hg) | (go_at_call 9; refine (RNew_any _ 4 (seed1 1#8) rfl).mono ?_; rintro e w2 ⟨⟨p, rfl, g2, A2, c2, rfl, hr0⟩, hg⟩; rw [cnt4, ← unhide HKS] at hr0; replace hM := hM.call hg; have hr := hide ((unhide hr1).grow hg); have hrx := hide hr0; have hg0 := hM.grow; have hba2 := hide (bytesUp hba hM.grow); have hbb2 := hide (bytesUp hbb hM.grow);  clear hM; have hM := Mem.nil w2 noOwn; clear hr0 hg)
          | (have _t := tok; go_at_call 10; refine (Votes7_any _ g2 c2 n' an ac A2 DA ks 2 p xa ((unhide hrx).grow hM.grow) (by omega) (bytesUp (unhide hba2) hM.grow) hca (by omega)).mono ?_; rintro e1 w3 ⟨A5, c5, rfl, hM1⟩; replace hM := hM.on hM1; simp only [List.cons_append, List.nil_append] at hM; clear hM1; rw [← unhide HLA] at hM; clear tok)
          | (go_at_call 10; refine (Votes7_any _ g2 c2 m' bn bc A2 DB ks 2 q xb ((unhide hrx).grow hM.grow) (by omega) (bytesUp (unhide hbb2) hM.grow) hcb (by omega)).mono ?_; rintro e1 w3 ⟨A6, c6, rfl, hM1⟩; replace hM := hM.on hM1; simp only [List.cons_append, List.nil_append] at hM; clear hM1; rw [← unhide HLB] at hM)
          | (have _t := tok2; refine wpList_build_to rfl 40 _ rfl #[.int .i64 0, .slice DA an ac, .slice A5 n' c5] (by kernel_rfl) ?_; clear tok2)
          | (refine wpList_build_to rfl 40 _ rfl #[.int .i64 0, .slice DB bn bc, .slice A6 m' c6] (by kernel_rfl) ?_)
          | (go_at_call 17; refine (Higher_len _ g c an ac n' c5 bn bc m' c6 A DA A5 DB A6 ks la lb 2 9 0 0 xa xb ((unhide hr).grow hM.grow) (by rw [unhide HK4]; decide) (unhide HXA) (unhide HLLA) (unhide HXB) (unhide HLLB) (bytesUp (unhide hba2) hM.grow) (Reads.of_own (hM.row 1 rfl)) hca (row_cap (hM.row 1 rfl)).1 (unhide HOKA) (by omega) (by omega) (bytesUp (unhide hbb2) hM.grow) (Reads.of_own (hM.row 0 rfl)) hcb (row_cap (hM.row 0 rfl)).1 (unhide HOKB) (by omega) (by omega)).mono ?_; rw [unhide HV, unhide HX, ← unhide HRL]; rintro e1 w3 ⟨val, rfl, ⟨A7, c7, A8, c8, rfl, hv1, hv2, hv3, hv4⟩, hg⟩; have hg1 := (hg0.then_ hM.grow).then_ hg; clear hM; have hM := Mem.nil w3 noOwn; have rres := rdsB_no hv3; have rba : RdsB w3 noOwn DA an xa := rdsB_no (bytesUp hba hg1); have rbb : RdsB w3 noOwn DB bn xb := rdsB_no (bytesUp hbb hg1); clear hg hv1 hv2 hv3 hv4)
          | (go_at_call 14; refine (known7_any _).mono ?_; rintro e1 w3 ⟨rfl, hg⟩; replace hM := hM.call hg; clear hg))
        go_ret
        exact ⟨rfl, hg1.then_ hM.grow⟩
  · go_enter Try.func6, Try.ntmps6
    go_wp2_with fail
    all_goals first | (exfalso; omega) | (go_ret; exact ⟨rfl, hM.grow⟩)
end Go.Proofs.Ytkcmnhmbpamehaa
