/- cert's law: CertCounts. -/
import Derived.Test.YtgdfdombcngpnaaCnt
import Derived.Test.YtgdfdombcngpnaaOrd
namespace Go.Proofs.Ytgdfdombcngpnaa
open Go.RowKit Go.MapKept
set_option linter.unusedSimpArgs false
set_option linter.unusedVariables false
/-- The nodes below q that voted. -/
def wl (wn q : Nat) : List Nat := (List.range q).filter fun i => wn.testBit i
theorem wl_yes {wn q : Nat} (h : wn.testBit q = true) : wl wn (q + 1) = wl wn q ++ [q] := by simp [wl, List.range_succ, h]
theorem wl_no {wn q : Nat} (h : wn.testBit q = false) : wl wn (q + 1) = wl wn q := by simp [wl, List.range_succ, h]
theorem wl_len (wn q : Nat) : (wl wn q).length ≤ q := by
  unfold wl
  have := List.length_filter_le (fun i => wn.testBit i) (List.range q)
  simpa using this
def cL (ks : List (List (BitVec 8))) (sum : List (BitVec 8)) (l : List Nat) : List Vt := l.reverse.map fun i => castOf ks 1 3 1 sum ((i : Nat) : Int)
theorem cL_snoc (ks : List (List (BitVec 8))) (sum : List (BitVec 8)) (l : List Nat) (q : Nat) : cL ks sum (l ++ [q]) = castOf ks 1 3 1 sum ((q : Nat) : Int) :: cL ks sum l := by simp [cL]
theorem vCells_cons (v : Vt) (l : List Vt) : vCells (v :: l) = vtc v ++ vCells l := by simp [vCells]
instance {l : List Vt} : One (vCells l) := ⟨fun u hu => by
  obtain ⟨v, _, h⟩ := List.mem_flatMap.1 hu
  exact (One.out (l := vtc v)) u h⟩
theorem cL_ok (ks : List (List (BitVec 8))) (sum : List (BitVec 8)) (l : List Nat) (hs : sum.length = 32) : ∀ u ∈ cL ks sum l, u.Ok := by
  intro u hu
  obtain ⟨x, _, rfl⟩ := List.mem_map.1 hu
  exact castOf_ok _ _ _ _ _ _ hs
def wInts (l : List Nat) : List Int := l.map fun i : Nat => (i : Int)
theorem wInts_snoc (l : List Nat) (q : Nat) : wInts (l ++ [q]) = wInts l ++ [(q : Int)] := by simp [wInts]
theorem and1 (n : Int) : bits .and .i64 n 1 = n % 2 := by
  have h63 : (BitVec.ofInt 64 1).toNat = 2 ^ 1 - 1 := by decide
  have key : (BitVec.ofInt 64 n &&& BitVec.ofInt 64 1).toNat = (n % ((2 ^ 64 : Nat) : Int)).toNat % 2 ^ 1 := by
    rw [BitVec.toNat_and, BitVec.toNat_ofInt, h63, Nat.and_two_pow_sub_one_eq_mod]
  show IntKind.i64.wrap ((BitVec.ofInt 64 n &&& BitVec.ofInt 64 1).toNat : Nat) = n % 2
  rw [key, IntKind.wrap_i64]
  omega
theorem bit_at (wn q : Nat) : (bits .and .i64 ((wn : Int) / 2 ^ q) 1 == 1) = wn.testBit q := by
  rw [and1, Nat.testBit_eq_decide_div_mod_eq]
  have e : ((wn : Int) / 2 ^ q) = ((wn / 2 ^ q : Nat) : Int) := by simp
  rw [e, Bool.eq_iff_iff, beq_iff_eq, decide_eq_true_eq]
  omega
theorem wl_lt (wn q : Nat) : ∀ i ∈ wl wn q, i < q := fun i hi => by
  unfold wl at hi
  simpa using (List.mem_filter.1 hi).1
theorem wInts_sorted (wn q : Nat) : (wInts (wl wn q)).Pairwise (· < ·) := by
  unfold wInts wl
  rw [List.pairwise_map]
  refine List.Pairwise.filter _ (List.pairwise_lt_range.imp fun {a b} h => by omega)
theorem quorum7 : quorumOf 7 = 5 := by unfold quorumOf faultsOf wrap64; omega
structure CntP (ks : List (List (BitVec 8))) (sum : List (BitVec 8)) (l : List Nat) (lv : List Vt) : Prop where
  len : lv.length ≤ 10
  all : ∀ u ∈ lv, ∃ i ∈ l, u = castOf ks 1 3 1 sum ((i : Nat) : Int)
  has : ∀ i ∈ l, castOf ks 1 3 1 sum ((i : Nat) : Int) ∈ lv
theorem cntP_who {ks : List (List (BitVec 8))} {sum : List (BitVec 8)} {wn : Nat} {lv : List Vt} (hk : ks.length = 7) (h : CntP ks sum (wl wn 7) lv) : whoOf ks lv 1 3 1 sum = wInts (wl wn 7) := by
  refine who_plain (wInts_sorted ..) fun x => ?_
  rw [on_mem, List.take_of_length_le h.len]
  unfold wInts
  constructor
  · intro hx
    obtain ⟨i, hi, rfl⟩ := List.mem_map.1 hx
    have := wl_lt wn 7 i hi
    exact ⟨_, h.has i hi, votes_cast _ _ _ _ _ _ (by omega), rfl⟩
  · rintro ⟨u, hu, _, rfl⟩
    obtain ⟨i, hi, rfl⟩ := h.all u hu
    exact List.mem_map.2 ⟨i, hi, rfl⟩
theorem cntP_meets {ks : List (List (BitVec 8))} {sum : List (BitVec 8)} {wn : Nat} {lv : List Vt} (hk : ks.length = 7) (h : CntP ks sum (wl wn 7) lv) : meetsOf ks lv 1 3 1 sum = decide (5 ≤ ((wInts (wl wn 7)).length : Int)) := by
  unfold meetsOf
  rw [cntP_who hk h, hk, show ((7 : Nat) : Int) = 7 from rfl, quorum7]
theorem cntP_not {ks : List (List (BitVec 8))} {sum : List (BitVec 8)} {wn : Nat} {lv : List Vt} (hk : ks.length = 7) (h : CntP ks sum (wl wn 7) lv) (k s v : Int) (hn : k ≠ 1 ∨ s ≠ 3 ∨ v ≠ 1) : meetsOf ks lv k s v sum = false := by
  have e : whoOf ks lv k s v sum = [] := who_plain List.Pairwise.nil fun x => by
    rw [on_mem, List.take_of_length_le h.len]
    constructor
    · intro hx; cases hx
    · rintro ⟨u, hu, hv, _⟩
      obtain ⟨i, hi, rfl⟩ := h.all u hu
      rw [votes_not] at hv
      · cases hv
      · simp only [castOf]
        rcases hn with hn | hn | hn
        · exact .inl (Ne.symm hn)
        · exact .inr (.inl (Ne.symm hn))
        · exact .inr (.inr (.inl (Ne.symm hn)))
  unfold meetsOf
  rw [e, hk, show ((7 : Nat) : Int) = 7 from rfl, quorum7]
  rfl
theorem cntP_of (ks : List (List (BitVec 8))) (sum : List (BitVec 8)) (wn : Nat) : CntP ks sum (wl wn 7) (cL ks sum (wl wn 7)) := by
  have := wl_len wn 7
  refine ⟨by simp [cL]; omega, fun u hu => ?_, fun i hi => ?_⟩
  · obtain ⟨i, hi, rfl⟩ := List.mem_map.1 hu
    exact ⟨i, by simpa using hi, rfl⟩
  · exact List.mem_map.2 ⟨i, by simpa using hi, rfl⟩
theorem cntP_more {ks : List (List (BitVec 8))} {sum : List (BitVec 8)} {wn : Nat} {v : Vt} (h : v ∈ cL ks sum (wl wn 7)) : CntP ks sum (wl wn 7) (cL ks sum (wl wn 7) ++ [v]) := by
  have h0 := cntP_of ks sum wn
  have := wl_len wn 7
  refine ⟨by simp [cL]; omega, fun u hu => ?_, fun i hi => List.mem_append_left _ (h0.has i hi)⟩
  rcases List.mem_append.1 hu with hu | hu
  · exact h0.all u hu
  · have : u = v := by simpa using hu
    subst this
    exact h0.all u h
theorem blk_range {w : World} {g : Nat} {T : TypeId} {l : List Value} (h : Blk w g T l.toArray) : w.rangeAt g 0 l := fun j v hj => by
  rw [Nat.zero_add, h.cell]
  simpa using hj
attribute [local irreducible] wpList Code.wp GW Calls
set_option maxRecDepth 100000 in
set_option maxHeartbeats 4000000 in
theorem CertCounts_any (w : World) (which : Int) (twice : Bool) (sum : List (BitVec 8)) (hs : sum.length = 32) : Calls Try.prog 8 #[.int .i64 which, .bool twice, .agg (hv sum)] w fun e w' => e = .returned (.bool true) ∧ Grow w noOwn w' := by
  have z3 : SzA (hv sum) 32 := ⟨by rw [hv_size, hs]⟩
  have z6 : SzL (sum.map V8) 32 := ⟨by simpa using hs⟩
  have hM := Mem.nil w noOwn
  by_cases hin : 0 ≤ which ∧ which ≤ 127
  · obtain ⟨wn, rfl⟩ : ∃ f : Nat, which = f := ⟨which.toNat, by omega⟩
    obtain ⟨h1, h2⟩ := hin
    obtain ⟨ks, hks⟩ : ∃ ks, ks = keysOf (seed1 1#8) 7 := ⟨_, rfl⟩
    have hk7 : ks.length = 7 := by rw [hks]; exact keysOf_length ..
    have cnt7 : cnt 7 = 7 := by decide
    have HKS := hide hks
    have HK7 := hide hk7
    clear hks hk7
    go_enter Try.func8, Try.ntmps8
    go_wp2_with (first
      | ((with_reducible refine wl_shape ?_); first | (apply wl_boxa; exact rfl; exact hM; exact rfl; exact rfl; clear hM; intro gg ww hM; simp only [putT, List.set_cons_succ, List.set_cons_zero]) | (apply wl_box1; exact rfl; exact hM; exact rfl; exact rfl; exact rfl; clear hM; intro gg ww hM; simp only [putT, List.set_cons_succ, List.set_cons_zero]) | (apply wl_alloc; exact rfl; exact hM; exact rfl; exact inferInstance; clear hM; intro gg ww hM; simp only [putT, List.set_cons_succ, List.set_cons_zero]) | (apply wl_ld; exact rfl; exact hM; exact rfl; exact rfl; exact inferInstance; exact inferInstance; simp only [putT, List.set_cons_succ, List.set_cons_zero]) | (apply wl_lda; exact rfl; exact hM; exact rfl; exact rfl; exact inferInstance; exact inferInstance; exact inferInstance; exact inferInstance; simp only [putT, List.set_cons_succ, List.set_cons_zero]) | (apply wl_ldr; exact rfl; exact hM; exact rfl; exact rfl; exact inferInstance; exact inferInstance; exact inferInstance; exact inferInstance; simp only [putT, List.set_cons_succ, List.set_cons_zero]) | (apply wl_st; exact rfl; exact hM; exact rfl; exact rfl; exact rfl; exact rfl; exact inferInstance; exact inferInstance; clear hM; intro ww hM; simp only [putT, List.set_cons_succ, List.set_cons_zero]) | (apply wl_sta; exact rfl; exact hM; exact rfl; exact rfl; exact rfl; exact all_oneCell_toArray One.out; exact inferInstance; exact inferInstance; exact inferInstance; clear hM; intro ww hM; simp only [putT, List.set_cons_succ, List.set_cons_zero]) | (apply wl_bs0; exact rfl; exact hM; exact rfl; exact inferInstance; clear hM; intro gg ww hM; simp only [putT, List.set_cons_succ, List.set_cons_zero]) | (apply wl_bs1a; exact rfl; exact hM; exact rfl; exact inferInstance; exact rfl; exact inferInstance; clear hM; intro gg ww hM; simp only [putT, List.set_cons_succ, List.set_cons_zero]) | (apply wl_bs11; exact rfl; exact hM; exact rfl; exact inferInstance; exact rfl; exact rfl; clear hM; intro gg ww hM; simp only [putT, List.set_cons_succ, List.set_cons_zero]) | (apply wl_conv; exact rfl; exact hM; exact rfl; exact rfl; exact inferInstance; exact inferInstance; simp only [putT, List.set_cons_succ, List.set_cons_zero]))
      | (refine wpList_build_to rfl 30 #[(0, .const (.int .u8 1))] rfl (hv (seed1 1#8)) (by kernel_rfl) ?_)
      | (go_at_call 17; refine (New_any _ 7 (seed1 1#8) rfl).mono ?_; rintro e w1 ⟨⟨p, rfl, g, A, c, rfl, hr0⟩, hg⟩; rw [cnt7, ← unhide HKS] at hr0; replace hM := hM.call hg; have hg0 := hM.grow; have cbox : OldR w1 noOwn gg 0 (sum.map V8) := oldR_no (blk_range (hM.blk 0 rfl)) (hM.lt 0 rfl rfl); clear hM; have hM := Mem.nil w1 noOwn; have hr := hide hr0; clear hr0 hg))
    have HM := hide hM
    go_loopw [8, 9, 10] (fun lv wv iv wr => ∃ (q n1 n2 c1 c2 : Nat) (A1 A2 : Option Addr), q ≤ 7 ∧ Hid (n1 = (wl wn q).length) ∧ Hid (n2 = (wl wn q).length) ∧ lv = .slice A1 n1 c1 ∧ wv = .slice A2 n2 c2 ∧ iv = .int .i64 q ∧
      Mem w1 noOwn wr [.row (.slice A1 n1 c1) 47 68 n1 (vCells (cL ks sum (wl wn q))), .row (.slice A2 n2 c2) 3 1 n2 ((wInts (wl wn q)).map (Value.int .i64))]) (fun _ _ iv _ => 7 - (intOf iv).toNat)
    case atStart => exact ⟨0, 0, 0, 0, 0, none, none, by omega, hide rfl, hide rfl, rfl, rfl, by go_num, by have h9 := (hM.pushNil 3 1).pushNil 47 68; exact h9⟩
    case round =>
      clear hM HM
      obtain ⟨q, n1, n2, c1, c2, A1, A2, hq, hn1, hn2, rfl, rfl, rfl, hM⟩ := hrel
      by_cases hlt : q < 7
      · have hn7 := wl_len wn q
        have hb1 : n1 ≤ 7 := by have := unhide hn1; omega
        have hb2 : n2 ≤ 7 := by have := unhide hn2; omega
        cases hbit : wn.testBit q
        · have hbv : (bits .and .i64 ((wn : Int) / 2 ^ q) 1 == 1) = false := by rw [bit_at, hbit]
          have hnx := wl_no hbit
          have HNX := hide hnx
          clear hnx hbit hn7
          go_wp2_with (first | ((with_reducible refine wl_shape ?_); first | (apply wl_boxa; exact rfl; exact hM; exact rfl; exact rfl; clear hM; intro gg ww hM; simp only [putT, List.set_cons_succ, List.set_cons_zero]) | (apply wl_box1; exact rfl; exact hM; exact rfl; exact rfl; exact rfl; clear hM; intro gg ww hM; simp only [putT, List.set_cons_succ, List.set_cons_zero]) | (apply wl_alloc; exact rfl; exact hM; exact rfl; exact inferInstance; clear hM; intro gg ww hM; simp only [putT, List.set_cons_succ, List.set_cons_zero]) | (apply wl_ld; exact rfl; exact hM; exact rfl; exact rfl; exact inferInstance; exact inferInstance; simp only [putT, List.set_cons_succ, List.set_cons_zero]) | (apply wl_lda; exact rfl; exact hM; exact rfl; exact rfl; exact inferInstance; exact inferInstance; exact inferInstance; exact inferInstance; simp only [putT, List.set_cons_succ, List.set_cons_zero]) | (apply wl_ldr; exact rfl; exact hM; exact rfl; exact rfl; exact inferInstance; exact inferInstance; exact inferInstance; exact inferInstance; simp only [putT, List.set_cons_succ, List.set_cons_zero]) | (apply wl_st; exact rfl; exact hM; exact rfl; exact rfl; exact rfl; exact rfl; exact inferInstance; exact inferInstance; clear hM; intro ww hM; simp only [putT, List.set_cons_succ, List.set_cons_zero]) | (apply wl_sta; exact rfl; exact hM; exact rfl; exact rfl; exact rfl; exact all_oneCell_toArray One.out; exact inferInstance; exact inferInstance; exact inferInstance; clear hM; intro ww hM; simp only [putT, List.set_cons_succ, List.set_cons_zero]) | (apply wl_bs0; exact rfl; exact hM; exact rfl; exact inferInstance; clear hM; intro gg ww hM; simp only [putT, List.set_cons_succ, List.set_cons_zero]) | (apply wl_bs1a; exact rfl; exact hM; exact rfl; exact inferInstance; exact rfl; exact inferInstance; clear hM; intro gg ww hM; simp only [putT, List.set_cons_succ, List.set_cons_zero]) | (apply wl_bs11; exact rfl; exact hM; exact rfl; exact inferInstance; exact rfl; exact rfl; clear hM; intro gg ww hM; simp only [putT, List.set_cons_succ, List.set_cons_zero]) | (apply wl_conv; exact rfl; exact hM; exact rfl; exact rfl; exact inferInstance; exact inferInstance; simp only [putT, List.set_cons_succ, List.set_cons_zero])) | (rw [hbv]))
          go_roundw
          case rel => exact ⟨q + 1, n1, n2, c1, c2, A1, A2, by omega, hide (by rw [unhide HNX]; exact unhide hn1), hide (by rw [unhide HNX]; exact unhide hn2), rfl, rfl, by go_num, by rw [unhide HNX]; exact hM⟩
          case measure => simp [intOf]; omega
        · have hbv : (bits .and .i64 ((wn : Int) / 2 ^ q) 1 == 1) = true := by rw [bit_at, hbit]
          have hnx := wl_yes hbit
          obtain ⟨v, hv⟩ : ∃ v, v = castOf ks 1 3 1 sum ((q : Nat) : Int) := ⟨_, rfl⟩
          have vok : v.Ok := by rw [hv]; exact castOf_ok _ _ _ _ _ _ hs
          have z4 : SzA (vtc v).toArray 68 := ⟨by simpa using vtc_len vok⟩
          have z5 : SzL (vtc v) 68 := ⟨vtc_len vok⟩
          have hcel : vtc v ++ vCells (cL ks sum (wl wn q)) = vCells (cL ks sum (wl wn (q + 1))) := by rw [hnx, cL_snoc, ← hv, vCells_cons]
          have hint : (wInts (wl wn q)).map (Value.int .i64) ++ [.int .i64 ((q : Nat) : Int)] = (wInts (wl wn (q + 1))).map (Value.int .i64) := by rw [hnx, wInts_snoc, List.map_append]; rfl
          have HNX := hide hnx
          have HV := hide hv
          have HC := hide hcel
          have HI := hide hint
          clear hnx hbit hn7 hv hcel hint
          go_wp2_with (first
            | ((with_reducible refine wl_shape ?_); first | (apply wl_boxa; exact rfl; exact hM; exact rfl; exact rfl; clear hM; intro gg ww hM; simp only [putT, List.set_cons_succ, List.set_cons_zero]) | (apply wl_box1; exact rfl; exact hM; exact rfl; exact rfl; exact rfl; clear hM; intro gg ww hM; simp only [putT, List.set_cons_succ, List.set_cons_zero]) | (apply wl_alloc; exact rfl; exact hM; exact rfl; exact inferInstance; clear hM; intro gg ww hM; simp only [putT, List.set_cons_succ, List.set_cons_zero]) | (apply wl_ld; exact rfl; exact hM; exact rfl; exact rfl; exact inferInstance; exact inferInstance; simp only [putT, List.set_cons_succ, List.set_cons_zero]) | (apply wl_lda; exact rfl; exact hM; exact rfl; exact rfl; exact inferInstance; exact inferInstance; exact inferInstance; exact inferInstance; simp only [putT, List.set_cons_succ, List.set_cons_zero]) | (apply wl_ldr; exact rfl; exact hM; exact rfl; exact rfl; exact inferInstance; exact inferInstance; exact inferInstance; exact inferInstance; simp only [putT, List.set_cons_succ, List.set_cons_zero]) | (apply wl_st; exact rfl; exact hM; exact rfl; exact rfl; exact rfl; exact rfl; exact inferInstance; exact inferInstance; clear hM; intro ww hM; simp only [putT, List.set_cons_succ, List.set_cons_zero]) | (apply wl_sta; exact rfl; exact hM; exact rfl; exact rfl; exact rfl; exact all_oneCell_toArray One.out; exact inferInstance; exact inferInstance; exact inferInstance; clear hM; intro ww hM; simp only [putT, List.set_cons_succ, List.set_cons_zero]) | (apply wl_bs0; exact rfl; exact hM; exact rfl; exact inferInstance; clear hM; intro gg ww hM; simp only [putT, List.set_cons_succ, List.set_cons_zero]) | (apply wl_bs1a; exact rfl; exact hM; exact rfl; exact inferInstance; exact rfl; exact inferInstance; clear hM; intro gg ww hM; simp only [putT, List.set_cons_succ, List.set_cons_zero]) | (apply wl_bs11; exact rfl; exact hM; exact rfl; exact inferInstance; exact rfl; exact rfl; clear hM; intro gg ww hM; simp only [putT, List.set_cons_succ, List.set_cons_zero]) | (apply wl_conv; exact rfl; exact hM; exact rfl; exact rfl; exact inferInstance; exact inferInstance; simp only [putT, List.set_cons_succ, List.set_cons_zero]))
            | (rw [hbv])
            | (go_at_call 27; refine (Cast_any _ g c _ ks 1 3 1 ((q : Nat) : Int) sum ((unhide hr).grow hM.grow) hs).mono ?_; rw [← unhide HV]; rintro e1 w2 ⟨rfl, hg⟩; replace hM := hM.call hg; clear hg)
            | (apply wl_app; exact rfl; exact hM; exact rfl; exact inferInstance; exact rfl; exact rfl; exact inferInstance; exact One.out; exact inferInstance; (unfold maxLen; omega); omega; exact rfl; exact (unhide HC); clear hM; intro A4 c4 ww hM; simp only [List.set_cons_succ, List.set_cons_zero] at hM; simp only [putT, List.set_cons_succ, List.set_cons_zero])
            | (apply wl_app; exact rfl; exact hM; exact rfl; exact inferInstance; exact rfl; exact rfl; exact inferInstance; exact One.out; exact inferInstance; (unfold maxLen; omega); omega; exact rfl; exact (unhide HI); clear hM; intro A5 c5 ww hM; simp only [List.set_cons_succ, List.set_cons_zero] at hM; simp only [putT, List.set_cons_succ, List.set_cons_zero]))
          go_roundw
          case rel => exact ⟨q + 1, _, _, c4, c5, A4, A5, by omega, hide (by rw [unhide HNX, List.length_append, ← unhide hn1]; exact Nat.add_comm _ _), hide (by rw [unhide HNX, List.length_append, ← unhide hn2]; rfl), rfl, rfl, by go_num, hM.sub (List.Sublist.cons _ (List.Sublist.cons_cons _ (List.Sublist.cons _ (List.Sublist.cons _ (List.Sublist.cons_cons _ (List.nil_sublist _))))))⟩
          case measure => simp [intOf]; omega
      · have e : q = 7 := by omega
        subst e
        have hok := cL_ok ks sum (wl wn 7) hs
        have hl7 := wl_len wn 7
        have hcl : (cL ks sum (wl wn 7)).length = (wl wn 7).length := by simp [cL]
        have hwl : (wInts (wl wn 7)).length = (wl wn 7).length := by simp [wInts]
        obtain ⟨wi, hwi⟩ : ∃ wi, wi = wInts (wl wn 7) := ⟨_, rfl⟩
        obtain ⟨lv, hlv⟩ : ∃ lv, lv = cL ks sum (wl wn 7) := ⟨_, rfl⟩
        rw [← hwi, ← hlv] at hM
        rw [← hlv] at hok hcl
        rw [← hwi] at hwl
        have hwn : wi.length = n2 := by rw [hwl, unhide hn2]
        have hln : lv.length = n1 := by rw [hcl, unhide hn1]
        have hb1 : n1 ≤ 7 := by omega
        have hb2 : n2 ≤ 7 := by omega
        have HWN := hide hwn
        have HLN := hide hln
        have HWI := hide hwi
        have HLV := hide hlv
        have hcap1 := (row_cap (hM.row 0 rfl)).1
        have hcap2 := (row_cap (hM.row 1 rfl)).1
        clear hwl hcl hl7 hwn hln hwi hlv hn1 hn2
        by_cases hadd : twice = true ∧ 0 < n1 ∧ n1 < 7
        · obtain ⟨rfl, h0, h7⟩ := hadd
          have hlv0 : 0 < lv.length := by have := unhide HLN; omega
          obtain ⟨v0, hv0⟩ : ∃ v0, v0 = lv[0] := ⟨_, rfl⟩
          have hmem : v0 ∈ lv := by rw [hv0]; exact List.getElem_mem _
          have v0ok := hok v0 hmem
          obtain ⟨ga, ca, hga, hblka, _, htk⟩ := row_blk (hM.row 0 rfl) h0
          subst hga
          have hrg : ∀ (L' : List Item) [HasRow L' (.slice (some ⟨ga, 0, none⟩) n1 c1) 47 68 n1 (vCells lv)], Rng w1 noOwn L' ga 0 (vtc v0) := fun L' hh => ⟨fun w' hM' => by
            have hrow : w'.ownsRow 0 47 68 (.slice (some ⟨ga, 0, none⟩) n1 c1) n1 (vCells lv) := hM'.has _ hh.out
            obtain ⟨b', o', e1, _, hr'⟩ := vote_range (Reads.of_own hrow) hok (unhide HLN) 0 hlv0
            injection e1 with e1
            injection e1 with e1 e2 _
            subst e1
            rw [hv0]
            have e3 : o' + 0 * 68 = 0 := by omega
            rw [e3] at hr'
            exact hr'⟩
          have zv0 : SzL (vtc v0) 68 := ⟨vtc_len v0ok⟩
          have hcel : vCells lv ++ vtc v0 = vCells (lv ++ [v0]) := by rw [vCells_app, vCells_one]
          have HC := hide hcel
          have HP : CntP ks sum (wl wn 7) (lv ++ [v0]) := by rw [unhide HLV]; exact cntP_more (by rw [← unhide HLV]; exact hmem)
          have HP' := hide HP
          clear hcel hblka htk hv0 HP
          go_wp2_with (first | ((with_reducible refine wl_shape ?_); first | (apply wl_boxa; exact rfl; exact hM; exact rfl; exact rfl; clear hM; intro gg ww hM; simp only [putT, List.set_cons_succ, List.set_cons_zero]) | (apply wl_box1; exact rfl; exact hM; exact rfl; exact rfl; exact rfl; clear hM; intro gg ww hM; simp only [putT, List.set_cons_succ, List.set_cons_zero]) | (apply wl_alloc; exact rfl; exact hM; exact rfl; exact inferInstance; clear hM; intro gg ww hM; simp only [putT, List.set_cons_succ, List.set_cons_zero]) | (apply wl_ld; exact rfl; exact hM; exact rfl; exact rfl; exact inferInstance; exact inferInstance; simp only [putT, List.set_cons_succ, List.set_cons_zero]) | (apply wl_lda; exact rfl; exact hM; exact rfl; exact rfl; exact inferInstance; exact inferInstance; exact inferInstance; exact inferInstance; simp only [putT, List.set_cons_succ, List.set_cons_zero]) | (apply wl_ldr; exact rfl; exact hM; exact rfl; exact rfl; exact inferInstance; exact inferInstance; exact inferInstance; exact inferInstance; simp only [putT, List.set_cons_succ, List.set_cons_zero]) | (apply wl_st; exact rfl; exact hM; exact rfl; exact rfl; exact rfl; exact rfl; exact inferInstance; exact inferInstance; clear hM; intro ww hM; simp only [putT, List.set_cons_succ, List.set_cons_zero]) | (apply wl_sta; exact rfl; exact hM; exact rfl; exact rfl; exact rfl; exact all_oneCell_toArray One.out; exact inferInstance; exact inferInstance; exact inferInstance; clear hM; intro ww hM; simp only [putT, List.set_cons_succ, List.set_cons_zero]) | (apply wl_bs0; exact rfl; exact hM; exact rfl; exact inferInstance; clear hM; intro gg ww hM; simp only [putT, List.set_cons_succ, List.set_cons_zero]) | (apply wl_bs1a; exact rfl; exact hM; exact rfl; exact inferInstance; exact rfl; exact inferInstance; clear hM; intro gg ww hM; simp only [putT, List.set_cons_succ, List.set_cons_zero]) | (apply wl_bs11; exact rfl; exact hM; exact rfl; exact inferInstance; exact rfl; exact rfl; clear hM; intro gg ww hM; simp only [putT, List.set_cons_succ, List.set_cons_zero]) | (apply wl_conv; exact rfl; exact hM; exact rfl; exact rfl; exact inferInstance; exact inferInstance; simp only [putT, List.set_cons_succ, List.set_cons_zero])) | (apply wl_app; exact rfl; exact hM; exact rfl; exact inferInstance; exact rfl; exact rfl; exact inferInstance; exact One.out; exact inferInstance; (unfold maxLen; omega); omega; exact rfl; exact (unhide HC); clear hM; intro A4 c4 ww hM; simp only [List.set_cons_succ, List.set_cons_zero] at hM; simp only [putT, List.set_cons_succ, List.set_cons_zero]))
          replace hM := hM.tail
          have hcap3 := (row_cap (hM.row 0 rfl)).1
          have hok3 : ∀ u ∈ lv ++ [v0], u.Ok := by
            intro u hu
            rcases List.mem_append.1 hu with h | h
            · exact hok u h
            · have : u = v0 := by simpa using h
              rw [this]; exact v0ok
          have HLN3 := hide (show (lv ++ [v0]).length = n1 + 1 from by rw [List.length_append, unhide HLN]; rfl)
          obtain ⟨lv3, hlv3⟩ : ∃ l, l = lv ++ [v0] := ⟨_, rfl⟩
          rw [← hlv3] at hM hok3 HLN3 HP'
          have hw1 := cntP_who (unhide HK7) (unhide HP')
          have hm1 := cntP_meets (unhide HK7) (unhide HP')
          have hm2 := cntP_not (unhide HK7) (unhide HP') 2 3 1 (by omega)
          have hm3 := cntP_not (unhide HK7) (unhide HP') 1 3 2 (by omega)
          have hm4 := cntP_not (unhide HK7) (unhide HP') 1 4 1 (by omega)
          rw [← unhide HWI] at hw1 hm1
          rw [unhide HWN] at hm1
          have HW1 := hide hw1
          have HM1 := hide hm1
          have HM2 := hide hm2
          have HM3 := hide hm3
          have HM4 := hide hm4
          clear hw1 hm1 hm2 hm3 hm4 HP' hlv3 HC
          (go_wp2_with (first | ((with_reducible refine wl_shape ?_); first | (apply wl_boxa; exact rfl; exact hM; exact rfl; exact rfl; clear hM; intro gg ww hM; simp only [putT, List.set_cons_succ, List.set_cons_zero]) | (apply wl_box1; exact rfl; exact hM; exact rfl; exact rfl; exact rfl; clear hM; intro gg ww hM; simp only [putT, List.set_cons_succ, List.set_cons_zero]) | (apply wl_alloc; exact rfl; exact hM; exact rfl; exact inferInstance; clear hM; intro gg ww hM; simp only [putT, List.set_cons_succ, List.set_cons_zero]) | (apply wl_ld; exact rfl; exact hM; exact rfl; exact rfl; exact inferInstance; exact inferInstance; simp only [putT, List.set_cons_succ, List.set_cons_zero]) | (apply wl_lda; exact rfl; exact hM; exact rfl; exact rfl; exact inferInstance; exact inferInstance; exact inferInstance; exact inferInstance; simp only [putT, List.set_cons_succ, List.set_cons_zero]) | (apply wl_ldr; exact rfl; exact hM; exact rfl; exact rfl; exact inferInstance; exact inferInstance; exact inferInstance; exact inferInstance; simp only [putT, List.set_cons_succ, List.set_cons_zero]) | (apply wl_st; exact rfl; exact hM; exact rfl; exact rfl; exact rfl; exact rfl; exact inferInstance; exact inferInstance; clear hM; intro ww hM; simp only [putT, List.set_cons_succ, List.set_cons_zero]) | (apply wl_sta; exact rfl; exact hM; exact rfl; exact rfl; exact rfl; exact all_oneCell_toArray One.out; exact inferInstance; exact inferInstance; exact inferInstance; clear hM; intro ww hM; simp only [putT, List.set_cons_succ, List.set_cons_zero]) | (apply wl_bs0; exact rfl; exact hM; exact rfl; exact inferInstance; clear hM; intro gg ww hM; simp only [putT, List.set_cons_succ, List.set_cons_zero]) | (apply wl_bs1a; exact rfl; exact hM; exact rfl; exact inferInstance; exact rfl; exact inferInstance; clear hM; intro gg ww hM; simp only [putT, List.set_cons_succ, List.set_cons_zero]) | (apply wl_bs11; exact rfl; exact hM; exact rfl; exact inferInstance; exact rfl; exact rfl; clear hM; intro gg ww hM; simp only [putT, List.set_cons_succ, List.set_cons_zero]) | (apply wl_conv; exact rfl; exact hM; exact rfl; exact rfl; exact inferInstance; exact inferInstance; simp only [putT, List.set_cons_succ, List.set_cons_zero])) | (go_at_call 30; refine (Who_any _ g c (n1 + 1) c4 _ _ ks (lv3) 1 3 1 sum ((unhide hr).grow hM.grow) (Reads.of_own (hM.row 0 rfl)) (unhide HLN3) hcap3 hok3 hs).mono ?_; rw [unhide HW1, unhide HWN]; rintro e1 w2 ⟨A7, cq, rfl, hMW⟩; replace hM := hM.on hMW; clear hMW; simp only [List.cons_append, List.nil_append] at hM) | (go_at_call 29; refine (Ints_same (xs := wi) (Reads.of_own (hM.row 0 rfl)) (Reads.of_own (hM.row 2 rfl)) (unhide HWN) (by omega)).mono ?_; rintro e1 w2 ⟨rfl, hg⟩; replace hM := (hM.call hg).tail; clear hg) | (go_at_call 32; refine (Meets_any _ g c (n1 + 1) c4 _ _ ks (lv3) 1 3 1 sum ((unhide hr).grow hM.grow) (Reads.of_own (hM.row 0 rfl)) (unhide HLN3) hcap3 hok3 hs (by rw [unhide HK7]; decide)).mono ?_; rw [unhide HM1]; rintro e1 w2 ⟨rfl, hg⟩; replace hM := hM.call hg; clear hg) | (go_at_call 32; refine (Meets_any _ g c (n1 + 1) c4 _ _ ks (lv3) 2 3 1 sum ((unhide hr).grow hM.grow) (Reads.of_own (hM.row 0 rfl)) (unhide HLN3) hcap3 hok3 hs (by rw [unhide HK7]; decide)).mono ?_; rw [unhide HM2]; rintro e1 w2 ⟨rfl, hg⟩; replace hM := hM.call hg; clear hg) | (go_at_call 32; refine (Meets_any _ g c (n1 + 1) c4 _ _ ks (lv3) 1 3 2 sum ((unhide hr).grow hM.grow) (Reads.of_own (hM.row 0 rfl)) (unhide HLN3) hcap3 hok3 hs (by rw [unhide HK7]; decide)).mono ?_; rw [unhide HM3]; rintro e1 w2 ⟨rfl, hg⟩; replace hM := hM.call hg; clear hg) | (go_at_call 32; refine (Meets_any _ g c (n1 + 1) c4 _ _ ks (lv3) 1 4 1 sum ((unhide hr).grow hM.grow) (Reads.of_own (hM.row 0 rfl)) (unhide HLN3) hcap3 hok3 hs (by rw [unhide HK7]; decide)).mono ?_; rw [unhide HM4]; rintro e1 w2 ⟨rfl, hg⟩; replace hM := hM.call hg; clear hg) | (go_at_call 34; refine (known6_any _).mono ?_; rintro e1 w2 ⟨rfl, hg⟩; replace hM := hM.call hg; clear hg)); go_ret; exact ⟨rfl, hg0.then_ hM.grow⟩)
        · have HP : CntP ks sum (wl wn 7) lv := by rw [unhide HLV]; exact cntP_of ks sum wn
          have hw1 := cntP_who (unhide HK7) HP
          have hm1 := cntP_meets (unhide HK7) HP
          have hm2 := cntP_not (unhide HK7) HP 2 3 1 (by omega)
          have hm3 := cntP_not (unhide HK7) HP 1 3 2 (by omega)
          have hm4 := cntP_not (unhide HK7) HP 1 4 1 (by omega)
          rw [← unhide HWI] at hw1 hm1
          rw [unhide HWN] at hm1
          have HW1 := hide hw1
          have HM1 := hide hm1
          have HM2 := hide hm2
          have HM3 := hide hm3
          have HM4 := hide hm4
          clear hw1 hm1 hm2 hm3 hm4 HP
          have hcases : twice = false ∨ (twice = true ∧ n1 = 0) ∨ (twice = true ∧ n1 = 7) := by
            cases twice
            · exact .inl rfl
            · rcases Nat.eq_zero_or_pos n1 with h | h
              · exact .inr (.inl ⟨rfl, h⟩)
              · rcases Nat.lt_or_ge n1 7 with h7 | h7
                · exact (hadd ⟨rfl, h, h7⟩).elim
                · exact .inr (.inr ⟨rfl, by omega⟩)
          clear hadd
          rcases hcases with rfl | ⟨rfl, rfl⟩ | ⟨rfl, rfl⟩
          · (go_wp2_with (first | ((with_reducible refine wl_shape ?_); first | (apply wl_boxa; exact rfl; exact hM; exact rfl; exact rfl; clear hM; intro gg ww hM; simp only [putT, List.set_cons_succ, List.set_cons_zero]) | (apply wl_box1; exact rfl; exact hM; exact rfl; exact rfl; exact rfl; clear hM; intro gg ww hM; simp only [putT, List.set_cons_succ, List.set_cons_zero]) | (apply wl_alloc; exact rfl; exact hM; exact rfl; exact inferInstance; clear hM; intro gg ww hM; simp only [putT, List.set_cons_succ, List.set_cons_zero]) | (apply wl_ld; exact rfl; exact hM; exact rfl; exact rfl; exact inferInstance; exact inferInstance; simp only [putT, List.set_cons_succ, List.set_cons_zero]) | (apply wl_lda; exact rfl; exact hM; exact rfl; exact rfl; exact inferInstance; exact inferInstance; exact inferInstance; exact inferInstance; simp only [putT, List.set_cons_succ, List.set_cons_zero]) | (apply wl_ldr; exact rfl; exact hM; exact rfl; exact rfl; exact inferInstance; exact inferInstance; exact inferInstance; exact inferInstance; simp only [putT, List.set_cons_succ, List.set_cons_zero]) | (apply wl_st; exact rfl; exact hM; exact rfl; exact rfl; exact rfl; exact rfl; exact inferInstance; exact inferInstance; clear hM; intro ww hM; simp only [putT, List.set_cons_succ, List.set_cons_zero]) | (apply wl_sta; exact rfl; exact hM; exact rfl; exact rfl; exact rfl; exact all_oneCell_toArray One.out; exact inferInstance; exact inferInstance; exact inferInstance; clear hM; intro ww hM; simp only [putT, List.set_cons_succ, List.set_cons_zero]) | (apply wl_bs0; exact rfl; exact hM; exact rfl; exact inferInstance; clear hM; intro gg ww hM; simp only [putT, List.set_cons_succ, List.set_cons_zero]) | (apply wl_bs1a; exact rfl; exact hM; exact rfl; exact inferInstance; exact rfl; exact inferInstance; clear hM; intro gg ww hM; simp only [putT, List.set_cons_succ, List.set_cons_zero]) | (apply wl_bs11; exact rfl; exact hM; exact rfl; exact inferInstance; exact rfl; exact rfl; clear hM; intro gg ww hM; simp only [putT, List.set_cons_succ, List.set_cons_zero]) | (apply wl_conv; exact rfl; exact hM; exact rfl; exact rfl; exact inferInstance; exact inferInstance; simp only [putT, List.set_cons_succ, List.set_cons_zero])) | (go_at_call 30; refine (Who_any _ g c (n1) c1 _ _ ks (lv) 1 3 1 sum ((unhide hr).grow hM.grow) (Reads.of_own (hM.row 0 rfl)) (unhide HLN) hcap1 hok hs).mono ?_; rw [unhide HW1, unhide HWN]; rintro e1 w2 ⟨A7, cq, rfl, hMW⟩; replace hM := hM.on hMW; clear hMW; simp only [List.cons_append, List.nil_append] at hM) | (go_at_call 29; refine (Ints_same (xs := wi) (Reads.of_own (hM.row 0 rfl)) (Reads.of_own (hM.row 2 rfl)) (unhide HWN) (by omega)).mono ?_; rintro e1 w2 ⟨rfl, hg⟩; replace hM := (hM.call hg).tail; clear hg) | (go_at_call 32; refine (Meets_any _ g c (n1) c1 _ _ ks (lv) 1 3 1 sum ((unhide hr).grow hM.grow) (Reads.of_own (hM.row 0 rfl)) (unhide HLN) hcap1 hok hs (by rw [unhide HK7]; decide)).mono ?_; rw [unhide HM1]; rintro e1 w2 ⟨rfl, hg⟩; replace hM := hM.call hg; clear hg) | (go_at_call 32; refine (Meets_any _ g c (n1) c1 _ _ ks (lv) 2 3 1 sum ((unhide hr).grow hM.grow) (Reads.of_own (hM.row 0 rfl)) (unhide HLN) hcap1 hok hs (by rw [unhide HK7]; decide)).mono ?_; rw [unhide HM2]; rintro e1 w2 ⟨rfl, hg⟩; replace hM := hM.call hg; clear hg) | (go_at_call 32; refine (Meets_any _ g c (n1) c1 _ _ ks (lv) 1 3 2 sum ((unhide hr).grow hM.grow) (Reads.of_own (hM.row 0 rfl)) (unhide HLN) hcap1 hok hs (by rw [unhide HK7]; decide)).mono ?_; rw [unhide HM3]; rintro e1 w2 ⟨rfl, hg⟩; replace hM := hM.call hg; clear hg) | (go_at_call 32; refine (Meets_any _ g c (n1) c1 _ _ ks (lv) 1 4 1 sum ((unhide hr).grow hM.grow) (Reads.of_own (hM.row 0 rfl)) (unhide HLN) hcap1 hok hs (by rw [unhide HK7]; decide)).mono ?_; rw [unhide HM4]; rintro e1 w2 ⟨rfl, hg⟩; replace hM := hM.call hg; clear hg) | (go_at_call 34; refine (known6_any _).mono ?_; rintro e1 w2 ⟨rfl, hg⟩; replace hM := hM.call hg; clear hg)); go_ret; exact ⟨rfl, hg0.then_ hM.grow⟩)
          · (go_wp2_with (first | ((with_reducible refine wl_shape ?_); first | (apply wl_boxa; exact rfl; exact hM; exact rfl; exact rfl; clear hM; intro gg ww hM; simp only [putT, List.set_cons_succ, List.set_cons_zero]) | (apply wl_box1; exact rfl; exact hM; exact rfl; exact rfl; exact rfl; clear hM; intro gg ww hM; simp only [putT, List.set_cons_succ, List.set_cons_zero]) | (apply wl_alloc; exact rfl; exact hM; exact rfl; exact inferInstance; clear hM; intro gg ww hM; simp only [putT, List.set_cons_succ, List.set_cons_zero]) | (apply wl_ld; exact rfl; exact hM; exact rfl; exact rfl; exact inferInstance; exact inferInstance; simp only [putT, List.set_cons_succ, List.set_cons_zero]) | (apply wl_lda; exact rfl; exact hM; exact rfl; exact rfl; exact inferInstance; exact inferInstance; exact inferInstance; exact inferInstance; simp only [putT, List.set_cons_succ, List.set_cons_zero]) | (apply wl_ldr; exact rfl; exact hM; exact rfl; exact rfl; exact inferInstance; exact inferInstance; exact inferInstance; exact inferInstance; simp only [putT, List.set_cons_succ, List.set_cons_zero]) | (apply wl_st; exact rfl; exact hM; exact rfl; exact rfl; exact rfl; exact rfl; exact inferInstance; exact inferInstance; clear hM; intro ww hM; simp only [putT, List.set_cons_succ, List.set_cons_zero]) | (apply wl_sta; exact rfl; exact hM; exact rfl; exact rfl; exact rfl; exact all_oneCell_toArray One.out; exact inferInstance; exact inferInstance; exact inferInstance; clear hM; intro ww hM; simp only [putT, List.set_cons_succ, List.set_cons_zero]) | (apply wl_bs0; exact rfl; exact hM; exact rfl; exact inferInstance; clear hM; intro gg ww hM; simp only [putT, List.set_cons_succ, List.set_cons_zero]) | (apply wl_bs1a; exact rfl; exact hM; exact rfl; exact inferInstance; exact rfl; exact inferInstance; clear hM; intro gg ww hM; simp only [putT, List.set_cons_succ, List.set_cons_zero]) | (apply wl_bs11; exact rfl; exact hM; exact rfl; exact inferInstance; exact rfl; exact rfl; clear hM; intro gg ww hM; simp only [putT, List.set_cons_succ, List.set_cons_zero]) | (apply wl_conv; exact rfl; exact hM; exact rfl; exact rfl; exact inferInstance; exact inferInstance; simp only [putT, List.set_cons_succ, List.set_cons_zero])) | (go_at_call 30; refine (Who_any _ g c (0) c1 _ _ ks (lv) 1 3 1 sum ((unhide hr).grow hM.grow) (Reads.of_own (hM.row 0 rfl)) (unhide HLN) hcap1 hok hs).mono ?_; rw [unhide HW1, unhide HWN]; rintro e1 w2 ⟨A7, cq, rfl, hMW⟩; replace hM := hM.on hMW; clear hMW; simp only [List.cons_append, List.nil_append] at hM) | (go_at_call 29; refine (Ints_same (xs := wi) (Reads.of_own (hM.row 0 rfl)) (Reads.of_own (hM.row 2 rfl)) (unhide HWN) (by omega)).mono ?_; rintro e1 w2 ⟨rfl, hg⟩; replace hM := (hM.call hg).tail; clear hg) | (go_at_call 32; refine (Meets_any _ g c (0) c1 _ _ ks (lv) 1 3 1 sum ((unhide hr).grow hM.grow) (Reads.of_own (hM.row 0 rfl)) (unhide HLN) hcap1 hok hs (by rw [unhide HK7]; decide)).mono ?_; rw [unhide HM1]; rintro e1 w2 ⟨rfl, hg⟩; replace hM := hM.call hg; clear hg) | (go_at_call 32; refine (Meets_any _ g c (0) c1 _ _ ks (lv) 2 3 1 sum ((unhide hr).grow hM.grow) (Reads.of_own (hM.row 0 rfl)) (unhide HLN) hcap1 hok hs (by rw [unhide HK7]; decide)).mono ?_; rw [unhide HM2]; rintro e1 w2 ⟨rfl, hg⟩; replace hM := hM.call hg; clear hg) | (go_at_call 32; refine (Meets_any _ g c (0) c1 _ _ ks (lv) 1 3 2 sum ((unhide hr).grow hM.grow) (Reads.of_own (hM.row 0 rfl)) (unhide HLN) hcap1 hok hs (by rw [unhide HK7]; decide)).mono ?_; rw [unhide HM3]; rintro e1 w2 ⟨rfl, hg⟩; replace hM := hM.call hg; clear hg) | (go_at_call 32; refine (Meets_any _ g c (0) c1 _ _ ks (lv) 1 4 1 sum ((unhide hr).grow hM.grow) (Reads.of_own (hM.row 0 rfl)) (unhide HLN) hcap1 hok hs (by rw [unhide HK7]; decide)).mono ?_; rw [unhide HM4]; rintro e1 w2 ⟨rfl, hg⟩; replace hM := hM.call hg; clear hg) | (go_at_call 34; refine (known6_any _).mono ?_; rintro e1 w2 ⟨rfl, hg⟩; replace hM := hM.call hg; clear hg)); go_ret; exact ⟨rfl, hg0.then_ hM.grow⟩)
          · (go_wp2_with (first | ((with_reducible refine wl_shape ?_); first | (apply wl_boxa; exact rfl; exact hM; exact rfl; exact rfl; clear hM; intro gg ww hM; simp only [putT, List.set_cons_succ, List.set_cons_zero]) | (apply wl_box1; exact rfl; exact hM; exact rfl; exact rfl; exact rfl; clear hM; intro gg ww hM; simp only [putT, List.set_cons_succ, List.set_cons_zero]) | (apply wl_alloc; exact rfl; exact hM; exact rfl; exact inferInstance; clear hM; intro gg ww hM; simp only [putT, List.set_cons_succ, List.set_cons_zero]) | (apply wl_ld; exact rfl; exact hM; exact rfl; exact rfl; exact inferInstance; exact inferInstance; simp only [putT, List.set_cons_succ, List.set_cons_zero]) | (apply wl_lda; exact rfl; exact hM; exact rfl; exact rfl; exact inferInstance; exact inferInstance; exact inferInstance; exact inferInstance; simp only [putT, List.set_cons_succ, List.set_cons_zero]) | (apply wl_ldr; exact rfl; exact hM; exact rfl; exact rfl; exact inferInstance; exact inferInstance; exact inferInstance; exact inferInstance; simp only [putT, List.set_cons_succ, List.set_cons_zero]) | (apply wl_st; exact rfl; exact hM; exact rfl; exact rfl; exact rfl; exact rfl; exact inferInstance; exact inferInstance; clear hM; intro ww hM; simp only [putT, List.set_cons_succ, List.set_cons_zero]) | (apply wl_sta; exact rfl; exact hM; exact rfl; exact rfl; exact rfl; exact all_oneCell_toArray One.out; exact inferInstance; exact inferInstance; exact inferInstance; clear hM; intro ww hM; simp only [putT, List.set_cons_succ, List.set_cons_zero]) | (apply wl_bs0; exact rfl; exact hM; exact rfl; exact inferInstance; clear hM; intro gg ww hM; simp only [putT, List.set_cons_succ, List.set_cons_zero]) | (apply wl_bs1a; exact rfl; exact hM; exact rfl; exact inferInstance; exact rfl; exact inferInstance; clear hM; intro gg ww hM; simp only [putT, List.set_cons_succ, List.set_cons_zero]) | (apply wl_bs11; exact rfl; exact hM; exact rfl; exact inferInstance; exact rfl; exact rfl; clear hM; intro gg ww hM; simp only [putT, List.set_cons_succ, List.set_cons_zero]) | (apply wl_conv; exact rfl; exact hM; exact rfl; exact rfl; exact inferInstance; exact inferInstance; simp only [putT, List.set_cons_succ, List.set_cons_zero])) | (go_at_call 30; refine (Who_any _ g c (7) c1 _ _ ks (lv) 1 3 1 sum ((unhide hr).grow hM.grow) (Reads.of_own (hM.row 0 rfl)) (unhide HLN) hcap1 hok hs).mono ?_; rw [unhide HW1, unhide HWN]; rintro e1 w2 ⟨A7, cq, rfl, hMW⟩; replace hM := hM.on hMW; clear hMW; simp only [List.cons_append, List.nil_append] at hM) | (go_at_call 29; refine (Ints_same (xs := wi) (Reads.of_own (hM.row 0 rfl)) (Reads.of_own (hM.row 2 rfl)) (unhide HWN) (by omega)).mono ?_; rintro e1 w2 ⟨rfl, hg⟩; replace hM := (hM.call hg).tail; clear hg) | (go_at_call 32; refine (Meets_any _ g c (7) c1 _ _ ks (lv) 1 3 1 sum ((unhide hr).grow hM.grow) (Reads.of_own (hM.row 0 rfl)) (unhide HLN) hcap1 hok hs (by rw [unhide HK7]; decide)).mono ?_; rw [unhide HM1]; rintro e1 w2 ⟨rfl, hg⟩; replace hM := hM.call hg; clear hg) | (go_at_call 32; refine (Meets_any _ g c (7) c1 _ _ ks (lv) 2 3 1 sum ((unhide hr).grow hM.grow) (Reads.of_own (hM.row 0 rfl)) (unhide HLN) hcap1 hok hs (by rw [unhide HK7]; decide)).mono ?_; rw [unhide HM2]; rintro e1 w2 ⟨rfl, hg⟩; replace hM := hM.call hg; clear hg) | (go_at_call 32; refine (Meets_any _ g c (7) c1 _ _ ks (lv) 1 3 2 sum ((unhide hr).grow hM.grow) (Reads.of_own (hM.row 0 rfl)) (unhide HLN) hcap1 hok hs (by rw [unhide HK7]; decide)).mono ?_; rw [unhide HM3]; rintro e1 w2 ⟨rfl, hg⟩; replace hM := hM.call hg; clear hg) | (go_at_call 32; refine (Meets_any _ g c (7) c1 _ _ ks (lv) 1 4 1 sum ((unhide hr).grow hM.grow) (Reads.of_own (hM.row 0 rfl)) (unhide HLN) hcap1 hok hs (by rw [unhide HK7]; decide)).mono ?_; rw [unhide HM4]; rintro e1 w2 ⟨rfl, hg⟩; replace hM := hM.call hg; clear hg) | (go_at_call 34; refine (known6_any _).mono ?_; rintro e1 w2 ⟨rfl, hg⟩; replace hM := hM.call hg; clear hg)); go_ret; exact ⟨rfl, hg0.then_ hM.grow⟩)
  · have hcases : which < 0 ∨ (¬ which < 0 ∧ 127 < which) := by omega
    clear hin
    go_enter Try.func8, Try.ntmps8
    rcases hcases with hc | ⟨hc, hd⟩
    all_goals
      go_wp2_with (first | ((with_reducible refine wl_shape ?_); first | (apply wl_boxa; exact rfl; exact hM; exact rfl; exact rfl; clear hM; intro gg ww hM; simp only [putT, List.set_cons_succ, List.set_cons_zero]) | (apply wl_box1; exact rfl; exact hM; exact rfl; exact rfl; exact rfl; clear hM; intro gg ww hM; simp only [putT, List.set_cons_succ, List.set_cons_zero]) | (apply wl_alloc; exact rfl; exact hM; exact rfl; exact inferInstance; clear hM; intro gg ww hM; simp only [putT, List.set_cons_succ, List.set_cons_zero]) | (apply wl_ld; exact rfl; exact hM; exact rfl; exact rfl; exact inferInstance; exact inferInstance; simp only [putT, List.set_cons_succ, List.set_cons_zero]) | (apply wl_lda; exact rfl; exact hM; exact rfl; exact rfl; exact inferInstance; exact inferInstance; exact inferInstance; exact inferInstance; simp only [putT, List.set_cons_succ, List.set_cons_zero]) | (apply wl_ldr; exact rfl; exact hM; exact rfl; exact rfl; exact inferInstance; exact inferInstance; exact inferInstance; exact inferInstance; simp only [putT, List.set_cons_succ, List.set_cons_zero]) | (apply wl_st; exact rfl; exact hM; exact rfl; exact rfl; exact rfl; exact rfl; exact inferInstance; exact inferInstance; clear hM; intro ww hM; simp only [putT, List.set_cons_succ, List.set_cons_zero]) | (apply wl_sta; exact rfl; exact hM; exact rfl; exact rfl; exact rfl; exact all_oneCell_toArray One.out; exact inferInstance; exact inferInstance; exact inferInstance; clear hM; intro ww hM; simp only [putT, List.set_cons_succ, List.set_cons_zero]) | (apply wl_bs0; exact rfl; exact hM; exact rfl; exact inferInstance; clear hM; intro gg ww hM; simp only [putT, List.set_cons_succ, List.set_cons_zero]) | (apply wl_bs1a; exact rfl; exact hM; exact rfl; exact inferInstance; exact rfl; exact inferInstance; clear hM; intro gg ww hM; simp only [putT, List.set_cons_succ, List.set_cons_zero]) | (apply wl_bs11; exact rfl; exact hM; exact rfl; exact inferInstance; exact rfl; exact rfl; clear hM; intro gg ww hM; simp only [putT, List.set_cons_succ, List.set_cons_zero]) | (apply wl_conv; exact rfl; exact hM; exact rfl; exact rfl; exact inferInstance; exact inferInstance; simp only [putT, List.set_cons_succ, List.set_cons_zero])))
      go_ret
      exact ⟨rfl, hM.grow⟩
end Go.Proofs.Ytgdfdombcngpnaa
