/- rule's law: RuleBinds. -/
import Derived.Test.YtkcmnhmbpamehaaRuJ2
namespace Go.Proofs.Ytkcmnhmbpamehaa
open Go.RowKit Go.MapKept
set_option linter.unusedSimpArgs false
set_option linter.unusedVariables false
theorem may_free (ks : List (List (BitVec 8))) (kx : List (BitVec 8)) (slot view : Int) (val : List (BitVec 8)) (lv : List Vt) : mayOf ks (-1) kx slot view val lv = true := by simp [mayOf]
attribute [local irreducible] wpList Code.wp GW Calls
set_option maxRecDepth 100000 in
set_option maxHeartbeats 8000000 in
theorem RuleBinds_any (w : World) (at_ pf view n : Int) (an ac bn bc : Nat) (DA DB : Option Addr) (xa xb : List (BitVec 8)) (hba : Bytes w w.heap.size DA an xa) (hca : an ≤ ac) (hbb : Bytes w w.heap.size DB bn xb) (hcb : bn ≤ bc) :
    Calls Try.prog 4 #[.int .i64 at_, .int .i64 pf, .int .i64 view, .int .i64 n, .slice DA an ac, .slice DB bn bc] w fun e w' => e = .returned (.bool true) ∧ Grow w noOwn w' := by
  have hM := Mem.nil w noOwn
  by_cases hin : 0 ≤ at_ ∧ at_ ≤ 8 ∧ 0 ≤ pf ∧ pf ≤ 8 ∧ 0 ≤ view ∧ view ≤ 8 ∧ 0 ≤ n ∧ n ≤ 4 ∧ an ≤ 100 ∧ bn ≤ 100
  · obtain ⟨h1, h2, h3, h4, h5, h6, h7, h8, h9, h10⟩ := hin
    obtain ⟨m, rfl⟩ : ∃ m : Nat, n = m := ⟨n.toNat, by omega⟩
    have hm4 : m ≤ 4 := by omega
    obtain ⟨ks, hks⟩ : ∃ ks, ks = keysOf (seed1 1#8) 4 := ⟨_, rfl⟩
    have hk4 : ks.length = 4 := by rw [hks]; exact keysOf_length ..
    have HKS := hide hks
    have HK4 := hide hk4
    have hsa := sha_length xa
    have hsb := sha_length xb
    have tok : True := trivial
    have tok2 : True := trivial
    obtain ⟨lv, hlv⟩ : ∃ lv, lv = castN ks 1 1 pf (sha xb) m := ⟨_, rfl⟩
    have hok : ∀ u ∈ lv, u.Ok := by rw [hlv]; exact castN_ok _ _ _ _ _ hsb _
    have hll : lv.length = m := by rw [hlv, castN_len]
    have hpr := provesN ks hk4 1 view pf xb m hm4 h3
    rw [← hlv] at hpr
    have hmay : mayOf ks at_ xa 1 view xb lv = ((xa == xb) || match provesOf ks lv 1 view xb with
      | some v => decide (at_ < v)
      | none => false) := by
      unfold mayOf
      rw [decide_eq_false (by omega : ¬ at_ = -1), Bool.false_or]
      rfl
    have BEQ2 := strOf_beq xa xb
    have HL := hide hll
    have HOK := hide hok
    have HLV := hide hlv
    clear hks hk4 hlv hll hok
    cases BEQ : (xa == xb)
    · rw [BEQ] at BEQ2 hmay
      by_cases hy : 3 ≤ m ∧ pf < view
      · rw [if_pos hy] at hpr
        rw [hpr] at hmay
        obtain ⟨hy1, hy2⟩ := hy
        by_cases hy3 : at_ < pf
        · have HM1 : Hid (mayOf ks at_ xa 1 view xb lv = true) := hide (by rw [hmay]; simp [hy3])
          clear hpr hmay BEQ
          go_enter Try.func4, Try.ntmps4
          go_wp2_with (first
            | ((with_reducible refine wl_shape ?_); first | (apply wl_boxa; exact rfl; exact hM; exact rfl; exact rfl; clear hM; intro gg ww hM; simp only [putT, List.set_cons_succ, List.set_cons_zero]) | (apply wl_box1; exact rfl; exact hM; exact rfl; exact rfl; exact rfl; clear hM; intro gg ww hM; simp only [putT, List.set_cons_succ, List.set_cons_zero]) | (apply wl_alloc; exact rfl; exact hM; exact rfl; exact inferInstance; clear hM; intro gg ww hM; simp only [putT, List.set_cons_succ, List.set_cons_zero]) | (apply wl_ld; exact rfl; exact hM; exact rfl; exact rfl; exact inferInstance; exact inferInstance; simp only [putT, List.set_cons_succ, List.set_cons_zero]) | (apply wl_lda; exact rfl; exact hM; exact rfl; exact rfl; exact inferInstance; exact inferInstance; exact inferInstance; exact inferInstance; simp only [putT, List.set_cons_succ, List.set_cons_zero]) | (apply wl_ldr; exact rfl; exact hM; exact rfl; exact rfl; exact inferInstance; exact inferInstance; exact inferInstance; exact inferInstance; simp only [putT, List.set_cons_succ, List.set_cons_zero]) | (apply wl_st; exact rfl; exact hM; exact rfl; exact rfl; exact rfl; exact rfl; exact inferInstance; exact inferInstance; clear hM; intro ww hM; simp only [putT, List.set_cons_succ, List.set_cons_zero]) | (apply wl_sta; exact rfl; exact hM; exact rfl; exact rfl; exact rfl; exact all_oneCell_toArray One.out; exact inferInstance; exact inferInstance; exact inferInstance; clear hM; intro ww hM; simp only [putT, List.set_cons_succ, List.set_cons_zero]) | (apply wl_bs0; exact rfl; exact hM; exact rfl; exact inferInstance; clear hM; intro gg ww hM; simp only [putT, List.set_cons_succ, List.set_cons_zero]) | (apply wl_bs1a; exact rfl; exact hM; exact rfl; exact inferInstance; exact rfl; exact inferInstance; clear hM; intro gg ww hM; simp only [putT, List.set_cons_succ, List.set_cons_zero]) | (apply wl_bs11; exact rfl; exact hM; exact rfl; exact inferInstance; exact rfl; exact rfl; clear hM; intro gg ww hM; simp only [putT, List.set_cons_succ, List.set_cons_zero]) | (apply wl_conv; exact rfl; exact hM; exact rfl; exact rfl; exact inferInstance; exact inferInstance; simp only [putT, List.set_cons_succ, List.set_cons_zero]))
            | (refine wpList_build_to rfl 26 #[(0, .const (.int .u8 1))] rfl (hv (seed1 1#8)) (by kernel_rfl) ?_) | (go_at_call 8; refine (New_any _ 4 (seed1 1#8) rfl).mono ?_; rintro e w1 ⟨⟨p, rfl, g, A, c, rfl, hr0⟩, hg⟩; rw [cnt4, ← unhide HKS] at hr0; replace hM := hM.call hg; have hr1 := hide hr0; clear hr0 hg) | (go_at_call 9; refine (RNew_any _ 4 (seed1 1#8) rfl).mono ?_; rintro e w2 ⟨⟨p, rfl, g2, A2, c2, rfl, hr0⟩, hg⟩; rw [cnt4, ← unhide HKS] at hr0; replace hM := hM.call hg; have hr := hide ((unhide hr1).grow hg); have hrx := hide hr0; have hg0 := hM.grow; have hba2 := hide (bytesUp hba hM.grow); have hbb2 := hide (bytesUp hbb hM.grow); have rba : RdsB w2 noOwn DA an xa := rdsB_no (bytesUp hba hM.grow); have rbb : RdsB w2 noOwn DB bn xb := rdsB_no (bytesUp hbb hM.grow); clear hM; have hM := Mem.nil w2 noOwn; clear hr0 hg)
            | (rw [BEQ2])
            | (have _t := tok; go_at_call 10; refine (Votes7_any _ g2 c2 3 an ac A2 DA ks 1 at_ xa ((unhide hrx).grow hM.grow) (by omega) (bytesUp (unhide hba2) hM.grow) hca (by omega)).mono ?_; rintro e1 w3 ⟨A5, c5, rfl, hM1⟩; replace hM := hM.on hM1; simp only [List.cons_append, List.nil_append] at hM; clear hM1; clear tok)
            | (go_at_call 10; refine (Votes7_any _ g2 c2 m bn bc A2 DB ks 1 pf xb ((unhide hrx).grow hM.grow) (by omega) (bytesUp (unhide hbb2) hM.grow) hcb (by omega)).mono ?_; rintro e1 w3 ⟨A6, c6, rfl, hM1⟩; replace hM := hM.on hM1; simp only [List.cons_append, List.nil_append] at hM; clear hM1; rw [← unhide HLV] at hM)
            | (refine wpList_build_to rfl 40 _ rfl #[.int .i64 at_, .slice DA an ac, .slice A5 3 c5] (by kernel_rfl) ?_)
            | (have _t := tok2; go_at_call 15; refine (May_any _ g c m c6 bn bc an ac 3 c5 A A6 DB DA A5 ks lv 1 view at_ xa xb ((unhide hr).grow hM.grow) (bytesUp (unhide hba2) hM.grow) (Reads.of_own (hM.row 0 rfl)) (unhide HL) (row_cap (hM.row 0 rfl)).1 (unhide HOK) (by rw [unhide HK4]; decide) (bytesUp (unhide hbb2) hM.grow) hcb (by omega)).mono ?_; rw [unhide HM1]; clear tok2; rintro e1 w3 ⟨rfl, hg⟩; replace hM := hM.call hg; clear hg)
            | (go_at_call 16; refine (Free_any _).mono ?_; rintro e1 w1 ⟨rfl, hg⟩; replace hM := hM.call hg; clear hg)
            | (go_at_call 15; refine (May_any _ g c 0 0 bn bc 0 0 0 0 A none DB none none ks [] 1 view (-1) [] xb ((unhide hr).grow hM.grow) Reads.none_ Reads.none_ rfl (Nat.le_refl _) (fun u hu => by cases hu) (by rw [unhide HK4]; decide) (bytesUp (unhide hbb2) hM.grow) hcb (by omega)).mono ?_; rw [may_free]; rintro e1 w3 ⟨rfl, hg⟩; replace hM := hM.call hg; clear hg)
            | (go_at_call 14; refine (known7_any _).mono ?_; rintro e1 w3 ⟨rfl, hg⟩; replace hM := hM.call hg; clear hg))
          go_ret
          exact ⟨rfl, hg0.then_ hM.grow⟩
        · have HM1 : Hid (mayOf ks at_ xa 1 view xb lv = false) := hide (by rw [hmay]; simp [hy3])
          clear hpr hmay BEQ
          go_enter Try.func4, Try.ntmps4
          go_wp2_with (first
            | ((with_reducible refine wl_shape ?_); first | (apply wl_boxa; exact rfl; exact hM; exact rfl; exact rfl; clear hM; intro gg ww hM; simp only [putT, List.set_cons_succ, List.set_cons_zero]) | (apply wl_box1; exact rfl; exact hM; exact rfl; exact rfl; exact rfl; clear hM; intro gg ww hM; simp only [putT, List.set_cons_succ, List.set_cons_zero]) | (apply wl_alloc; exact rfl; exact hM; exact rfl; exact inferInstance; clear hM; intro gg ww hM; simp only [putT, List.set_cons_succ, List.set_cons_zero]) | (apply wl_ld; exact rfl; exact hM; exact rfl; exact rfl; exact inferInstance; exact inferInstance; simp only [putT, List.set_cons_succ, List.set_cons_zero]) | (apply wl_lda; exact rfl; exact hM; exact rfl; exact rfl; exact inferInstance; exact inferInstance; exact inferInstance; exact inferInstance; simp only [putT, List.set_cons_succ, List.set_cons_zero]) | (apply wl_ldr; exact rfl; exact hM; exact rfl; exact rfl; exact inferInstance; exact inferInstance; exact inferInstance; exact inferInstance; simp only [putT, List.set_cons_succ, List.set_cons_zero]) | (apply wl_st; exact rfl; exact hM; exact rfl; exact rfl; exact rfl; exact rfl; exact inferInstance; exact inferInstance; clear hM; intro ww hM; simp only [putT, List.set_cons_succ, List.set_cons_zero]) | (apply wl_sta; exact rfl; exact hM; exact rfl; exact rfl; exact rfl; exact all_oneCell_toArray One.out; exact inferInstance; exact inferInstance; exact inferInstance; clear hM; intro ww hM; simp only [putT, List.set_cons_succ, List.set_cons_zero]) | (apply wl_bs0; exact rfl; exact hM; exact rfl; exact inferInstance; clear hM; intro gg ww hM; simp only [putT, List.set_cons_succ, List.set_cons_zero]) | (apply wl_bs1a; exact rfl; exact hM; exact rfl; exact inferInstance; exact rfl; exact inferInstance; clear hM; intro gg ww hM; simp only [putT, List.set_cons_succ, List.set_cons_zero]) | (apply wl_bs11; exact rfl; exact hM; exact rfl; exact inferInstance; exact rfl; exact rfl; clear hM; intro gg ww hM; simp only [putT, List.set_cons_succ, List.set_cons_zero]) | (apply wl_conv; exact rfl; exact hM; exact rfl; exact rfl; exact inferInstance; exact inferInstance; simp only [putT, List.set_cons_succ, List.set_cons_zero]))
            | (refine wpList_build_to rfl 26 #[(0, .const (.int .u8 1))] rfl (hv (seed1 1#8)) (by kernel_rfl) ?_) | (go_at_call 8; refine (New_any _ 4 (seed1 1#8) rfl).mono ?_; rintro e w1 ⟨⟨p, rfl, g, A, c, rfl, hr0⟩, hg⟩; rw [cnt4, ← unhide HKS] at hr0; replace hM := hM.call hg; have hr1 := hide hr0; clear hr0 hg) | (go_at_call 9; refine (RNew_any _ 4 (seed1 1#8) rfl).mono ?_; rintro e w2 ⟨⟨p, rfl, g2, A2, c2, rfl, hr0⟩, hg⟩; rw [cnt4, ← unhide HKS] at hr0; replace hM := hM.call hg; have hr := hide ((unhide hr1).grow hg); have hrx := hide hr0; have hg0 := hM.grow; have hba2 := hide (bytesUp hba hM.grow); have hbb2 := hide (bytesUp hbb hM.grow); have rba : RdsB w2 noOwn DA an xa := rdsB_no (bytesUp hba hM.grow); have rbb : RdsB w2 noOwn DB bn xb := rdsB_no (bytesUp hbb hM.grow); clear hM; have hM := Mem.nil w2 noOwn; clear hr0 hg)
            | (rw [BEQ2])
            | (have _t := tok; go_at_call 10; refine (Votes7_any _ g2 c2 3 an ac A2 DA ks 1 at_ xa ((unhide hrx).grow hM.grow) (by omega) (bytesUp (unhide hba2) hM.grow) hca (by omega)).mono ?_; rintro e1 w3 ⟨A5, c5, rfl, hM1⟩; replace hM := hM.on hM1; simp only [List.cons_append, List.nil_append] at hM; clear hM1; clear tok)
            | (go_at_call 10; refine (Votes7_any _ g2 c2 m bn bc A2 DB ks 1 pf xb ((unhide hrx).grow hM.grow) (by omega) (bytesUp (unhide hbb2) hM.grow) hcb (by omega)).mono ?_; rintro e1 w3 ⟨A6, c6, rfl, hM1⟩; replace hM := hM.on hM1; simp only [List.cons_append, List.nil_append] at hM; clear hM1; rw [← unhide HLV] at hM)
            | (refine wpList_build_to rfl 40 _ rfl #[.int .i64 at_, .slice DA an ac, .slice A5 3 c5] (by kernel_rfl) ?_)
            | (have _t := tok2; go_at_call 15; refine (May_any _ g c m c6 bn bc an ac 3 c5 A A6 DB DA A5 ks lv 1 view at_ xa xb ((unhide hr).grow hM.grow) (bytesUp (unhide hba2) hM.grow) (Reads.of_own (hM.row 0 rfl)) (unhide HL) (row_cap (hM.row 0 rfl)).1 (unhide HOK) (by rw [unhide HK4]; decide) (bytesUp (unhide hbb2) hM.grow) hcb (by omega)).mono ?_; rw [unhide HM1]; clear tok2; rintro e1 w3 ⟨rfl, hg⟩; replace hM := hM.call hg; clear hg)
            | (go_at_call 16; refine (Free_any _).mono ?_; rintro e1 w1 ⟨rfl, hg⟩; replace hM := hM.call hg; clear hg)
            | (go_at_call 15; refine (May_any _ g c 0 0 bn bc 0 0 0 0 A none DB none none ks [] 1 view (-1) [] xb ((unhide hr).grow hM.grow) Reads.none_ Reads.none_ rfl (Nat.le_refl _) (fun u hu => by cases hu) (by rw [unhide HK4]; decide) (bytesUp (unhide hbb2) hM.grow) hcb (by omega)).mono ?_; rw [may_free]; rintro e1 w3 ⟨rfl, hg⟩; replace hM := hM.call hg; clear hg)
            | (go_at_call 14; refine (known7_any _).mono ?_; rintro e1 w3 ⟨rfl, hg⟩; replace hM := hM.call hg; clear hg))
          go_ret
          exact ⟨rfl, hg0.then_ hM.grow⟩
      · rw [if_neg hy] at hpr
        rw [hpr] at hmay
        have HM1 : Hid (mayOf ks at_ xa 1 view xb lv = false) := hide (by rw [hmay]; rfl)
        clear hpr hmay BEQ
        rcases (by omega : m < 3 ∨ (3 ≤ m ∧ pf ≤ at_) ∨ (3 ≤ m ∧ at_ < pf ∧ view ≤ pf)) with hy1 | ⟨hy1, hy2⟩ | ⟨hy1, hy2, hy3⟩
        all_goals
          clear hy
          try have hd : decide (pf < view) = false := decide_eq_false (by omega)
          go_enter Try.func4, Try.ntmps4
          go_wp2_with (first
            | ((with_reducible refine wl_shape ?_); first | (apply wl_boxa; exact rfl; exact hM; exact rfl; exact rfl; clear hM; intro gg ww hM; simp only [putT, List.set_cons_succ, List.set_cons_zero]) | (apply wl_box1; exact rfl; exact hM; exact rfl; exact rfl; exact rfl; clear hM; intro gg ww hM; simp only [putT, List.set_cons_succ, List.set_cons_zero]) | (apply wl_alloc; exact rfl; exact hM; exact rfl; exact inferInstance; clear hM; intro gg ww hM; simp only [putT, List.set_cons_succ, List.set_cons_zero]) | (apply wl_ld; exact rfl; exact hM; exact rfl; exact rfl; exact inferInstance; exact inferInstance; simp only [putT, List.set_cons_succ, List.set_cons_zero]) | (apply wl_lda; exact rfl; exact hM; exact rfl; exact rfl; exact inferInstance; exact inferInstance; exact inferInstance; exact inferInstance; simp only [putT, List.set_cons_succ, List.set_cons_zero]) | (apply wl_ldr; exact rfl; exact hM; exact rfl; exact rfl; exact inferInstance; exact inferInstance; exact inferInstance; exact inferInstance; simp only [putT, List.set_cons_succ, List.set_cons_zero]) | (apply wl_st; exact rfl; exact hM; exact rfl; exact rfl; exact rfl; exact rfl; exact inferInstance; exact inferInstance; clear hM; intro ww hM; simp only [putT, List.set_cons_succ, List.set_cons_zero]) | (apply wl_sta; exact rfl; exact hM; exact rfl; exact rfl; exact rfl; exact all_oneCell_toArray One.out; exact inferInstance; exact inferInstance; exact inferInstance; clear hM; intro ww hM; simp only [putT, List.set_cons_succ, List.set_cons_zero]) | (apply wl_bs0; exact rfl; exact hM; exact rfl; exact inferInstance; clear hM; intro gg ww hM; simp only [putT, List.set_cons_succ, List.set_cons_zero]) | (apply wl_bs1a; exact rfl; exact hM; exact rfl; exact inferInstance; exact rfl; exact inferInstance; clear hM; intro gg ww hM; simp only [putT, List.set_cons_succ, List.set_cons_zero]) | (apply wl_bs11; exact rfl; exact hM; exact rfl; exact inferInstance; exact rfl; exact rfl; clear hM; intro gg ww hM; simp only [putT, List.set_cons_succ, List.set_cons_zero]) | (apply wl_conv; exact rfl; exact hM; exact rfl; exact rfl; exact inferInstance; exact inferInstance; simp only [putT, List.set_cons_succ, List.set_cons_zero]))
            | (refine wpList_build_to rfl 26 #[(0, .const (.int .u8 1))] rfl (hv (seed1 1#8)) (by kernel_rfl) ?_) | (go_at_call 8; refine (New_any _ 4 (seed1 1#8) rfl).mono ?_; rintro e w1 ⟨⟨p, rfl, g, A, c, rfl, hr0⟩, hg⟩; rw [cnt4, ← unhide HKS] at hr0; replace hM := hM.call hg; have hr1 := hide hr0; clear hr0 hg) | (go_at_call 9; refine (RNew_any _ 4 (seed1 1#8) rfl).mono ?_; rintro e w2 ⟨⟨p, rfl, g2, A2, c2, rfl, hr0⟩, hg⟩; rw [cnt4, ← unhide HKS] at hr0; replace hM := hM.call hg; have hr := hide ((unhide hr1).grow hg); have hrx := hide hr0; have hg0 := hM.grow; have hba2 := hide (bytesUp hba hM.grow); have hbb2 := hide (bytesUp hbb hM.grow); have rba : RdsB w2 noOwn DA an xa := rdsB_no (bytesUp hba hM.grow); have rbb : RdsB w2 noOwn DB bn xb := rdsB_no (bytesUp hbb hM.grow); clear hM; have hM := Mem.nil w2 noOwn; clear hr0 hg)
            | (rw [BEQ2])
            | (have _t := tok; go_at_call 10; refine (Votes7_any _ g2 c2 3 an ac A2 DA ks 1 at_ xa ((unhide hrx).grow hM.grow) (by omega) (bytesUp (unhide hba2) hM.grow) hca (by omega)).mono ?_; rintro e1 w3 ⟨A5, c5, rfl, hM1⟩; replace hM := hM.on hM1; simp only [List.cons_append, List.nil_append] at hM; clear hM1; clear tok)
            | (go_at_call 10; refine (Votes7_any _ g2 c2 m bn bc A2 DB ks 1 pf xb ((unhide hrx).grow hM.grow) (by omega) (bytesUp (unhide hbb2) hM.grow) hcb (by omega)).mono ?_; rintro e1 w3 ⟨A6, c6, rfl, hM1⟩; replace hM := hM.on hM1; simp only [List.cons_append, List.nil_append] at hM; clear hM1; rw [← unhide HLV] at hM)
            | (refine wpList_build_to rfl 40 _ rfl #[.int .i64 at_, .slice DA an ac, .slice A5 3 c5] (by kernel_rfl) ?_)
            | (have _t := tok2; go_at_call 15; refine (May_any _ g c m c6 bn bc an ac 3 c5 A A6 DB DA A5 ks lv 1 view at_ xa xb ((unhide hr).grow hM.grow) (bytesUp (unhide hba2) hM.grow) (Reads.of_own (hM.row 0 rfl)) (unhide HL) (row_cap (hM.row 0 rfl)).1 (unhide HOK) (by rw [unhide HK4]; decide) (bytesUp (unhide hbb2) hM.grow) hcb (by omega)).mono ?_; rw [unhide HM1]; clear tok2; rintro e1 w3 ⟨rfl, hg⟩; replace hM := hM.call hg; clear hg)
            | (go_at_call 16; refine (Free_any _).mono ?_; rintro e1 w1 ⟨rfl, hg⟩; replace hM := hM.call hg; clear hg)
            | (go_at_call 15; refine (May_any _ g c 0 0 bn bc 0 0 0 0 A none DB none none ks [] 1 view (-1) [] xb ((unhide hr).grow hM.grow) Reads.none_ Reads.none_ rfl (Nat.le_refl _) (fun u hu => by cases hu) (by rw [unhide HK4]; decide) (bytesUp (unhide hbb2) hM.grow) hcb (by omega)).mono ?_; rw [may_free]; rintro e1 w3 ⟨rfl, hg⟩; replace hM := hM.call hg; clear hg)
            | (go_at_call 14; refine (known7_any _).mono ?_; rintro e1 w3 ⟨rfl, hg⟩; replace hM := hM.call hg; clear hg))
          go_ret
          exact ⟨rfl, hg0.then_ hM.grow⟩
    · rw [BEQ] at BEQ2 hmay
      have HM1 : Hid (mayOf ks at_ xa 1 view xb lv = true) := hide (by rw [hmay]; rfl)
      clear hpr hmay BEQ
      go_enter Try.func4, Try.ntmps4
      go_wp2_with (first
        | ((with_reducible refine wl_shape ?_); first | (apply wl_boxa; exact rfl; exact hM; exact rfl; exact rfl; clear hM; intro gg ww hM; simp only [putT, List.set_cons_succ, List.set_cons_zero]) | (apply wl_box1; exact rfl; exact hM; exact rfl; exact rfl; exact rfl; clear hM; intro gg ww hM; simp only [putT, List.set_cons_succ, List.set_cons_zero]) | (apply wl_alloc; exact rfl; exact hM; exact rfl; exact inferInstance; clear hM; intro gg ww hM; simp only [putT, List.set_cons_succ, List.set_cons_zero]) | (apply wl_ld; exact rfl; exact hM; exact rfl; exact rfl; exact inferInstance; exact inferInstance; simp only [putT, List.set_cons_succ, List.set_cons_zero]) | (apply wl_lda; exact rfl; exact hM; exact rfl; exact rfl; exact inferInstance; exact inferInstance; exact inferInstance; exact inferInstance; simp only [putT, List.set_cons_succ, List.set_cons_zero]) | (apply wl_ldr; exact rfl; exact hM; exact rfl; exact rfl; exact inferInstance; exact inferInstance; exact inferInstance; exact inferInstance; simp only [putT, List.set_cons_succ, List.set_cons_zero]) | (apply wl_st; exact rfl; exact hM; exact rfl; exact rfl; exact rfl; exact rfl; exact inferInstance; exact inferInstance; clear hM; intro ww hM; simp only [putT, List.set_cons_succ, List.set_cons_zero]) | (apply wl_sta; exact rfl; exact hM; exact rfl; exact rfl; exact rfl; exact all_oneCell_toArray One.out; exact inferInstance; exact inferInstance; exact inferInstance; clear hM; intro ww hM; simp only [putT, List.set_cons_succ, List.set_cons_zero]) | (apply wl_bs0; exact rfl; exact hM; exact rfl; exact inferInstance; clear hM; intro gg ww hM; simp only [putT, List.set_cons_succ, List.set_cons_zero]) | (apply wl_bs1a; exact rfl; exact hM; exact rfl; exact inferInstance; exact rfl; exact inferInstance; clear hM; intro gg ww hM; simp only [putT, List.set_cons_succ, List.set_cons_zero]) | (apply wl_bs11; exact rfl; exact hM; exact rfl; exact inferInstance; exact rfl; exact rfl; clear hM; intro gg ww hM; simp only [putT, List.set_cons_succ, List.set_cons_zero]) | (apply wl_conv; exact rfl; exact hM; exact rfl; exact rfl; exact inferInstance; exact inferInstance; simp only [putT, List.set_cons_succ, List.set_cons_zero]))
        | (refine wpList_build_to rfl 26 #[(0, .const (.int .u8 1))] rfl (hv (seed1 1#8)) (by kernel_rfl) ?_) | (go_at_call 8; refine (New_any _ 4 (seed1 1#8) rfl).mono ?_; rintro e w1 ⟨⟨p, rfl, g, A, c, rfl, hr0⟩, hg⟩; rw [cnt4, ← unhide HKS] at hr0; replace hM := hM.call hg; have hr1 := hide hr0; clear hr0 hg) | (go_at_call 9; refine (RNew_any _ 4 (seed1 1#8) rfl).mono ?_; rintro e w2 ⟨⟨p, rfl, g2, A2, c2, rfl, hr0⟩, hg⟩; rw [cnt4, ← unhide HKS] at hr0; replace hM := hM.call hg; have hr := hide ((unhide hr1).grow hg); have hrx := hide hr0; have hg0 := hM.grow; have hba2 := hide (bytesUp hba hM.grow); have hbb2 := hide (bytesUp hbb hM.grow); have rba : RdsB w2 noOwn DA an xa := rdsB_no (bytesUp hba hM.grow); have rbb : RdsB w2 noOwn DB bn xb := rdsB_no (bytesUp hbb hM.grow); clear hM; have hM := Mem.nil w2 noOwn; clear hr0 hg)
        | (rw [BEQ2])
        | (have _t := tok; go_at_call 10; refine (Votes7_any _ g2 c2 3 an ac A2 DA ks 1 at_ xa ((unhide hrx).grow hM.grow) (by omega) (bytesUp (unhide hba2) hM.grow) hca (by omega)).mono ?_; rintro e1 w3 ⟨A5, c5, rfl, hM1⟩; replace hM := hM.on hM1; simp only [List.cons_append, List.nil_append] at hM; clear hM1; clear tok)
        | (go_at_call 10; refine (Votes7_any _ g2 c2 m bn bc A2 DB ks 1 pf xb ((unhide hrx).grow hM.grow) (by omega) (bytesUp (unhide hbb2) hM.grow) hcb (by omega)).mono ?_; rintro e1 w3 ⟨A6, c6, rfl, hM1⟩; replace hM := hM.on hM1; simp only [List.cons_append, List.nil_append] at hM; clear hM1; rw [← unhide HLV] at hM)
        | (refine wpList_build_to rfl 40 _ rfl #[.int .i64 at_, .slice DA an ac, .slice A5 3 c5] (by kernel_rfl) ?_)
        | (have _t := tok2; go_at_call 15; refine (May_any _ g c m c6 bn bc an ac 3 c5 A A6 DB DA A5 ks lv 1 view at_ xa xb ((unhide hr).grow hM.grow) (bytesUp (unhide hba2) hM.grow) (Reads.of_own (hM.row 0 rfl)) (unhide HL) (row_cap (hM.row 0 rfl)).1 (unhide HOK) (by rw [unhide HK4]; decide) (bytesUp (unhide hbb2) hM.grow) hcb (by omega)).mono ?_; rw [unhide HM1]; clear tok2; rintro e1 w3 ⟨rfl, hg⟩; replace hM := hM.call hg; clear hg)
        | (go_at_call 16; refine (Free_any _).mono ?_; rintro e1 w1 ⟨rfl, hg⟩; replace hM := hM.call hg; clear hg)
        | (go_at_call 15; refine (May_any _ g c 0 0 bn bc 0 0 0 0 A none DB none none ks [] 1 view (-1) [] xb ((unhide hr).grow hM.grow) Reads.none_ Reads.none_ rfl (Nat.le_refl _) (fun u hu => by cases hu) (by rw [unhide HK4]; decide) (bytesUp (unhide hbb2) hM.grow) hcb (by omega)).mono ?_; rw [may_free]; rintro e1 w3 ⟨rfl, hg⟩; replace hM := hM.call hg; clear hg)
        | (go_at_call 14; refine (known7_any _).mono ?_; rintro e1 w3 ⟨rfl, hg⟩; replace hM := hM.call hg; clear hg))
      go_ret
      exact ⟨rfl, hg0.then_ hM.grow⟩
  · go_enter Try.func4, Try.ntmps4
    go_wp2_with fail
    all_goals first | (exfalso; omega) | (go_ret; exact ⟨rfl, hM.grow⟩)
end Go.Proofs.Ytkcmnhmbpamehaa
