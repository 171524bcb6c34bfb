/- fault's law: FaultOwn. -/
import Derived.Test.YtgdfdombcngpnaaFltS0
namespace Go.Proofs.Ytgdfdombcngpnaa
open Go.RowKit Go.MapKept
set_option linter.unusedSimpArgs false
set_option linter.unusedVariables false
theorem any_more {α : Type} {p : α → Bool} {l : List α} {i : Nat} {u : α} (h : l[i]? = some u) : (l.take (i + 1)).any p = ((l.take i).any p || p u) := by
  obtain ⟨hi, rfl⟩ := List.getElem?_eq_some_iff.1 h
  rw [List.take_succ_eq_append_getElem hi, List.any_append, List.any_cons, List.any_nil, Bool.or_false]
/-- Is a vote among those that were heard? -/
def heardB (hs : List Hd) (u : Vt) : Bool := hs.any fun h => h.lv.any fun v => decide (v = u)
theorem make_01 (ks : List (List (BitVec 8))) (fr : Int) (l : Li) (val : List (BitVec 8)) (hs : List Hd) (us : List Int) : (makeOf ks fr l val hs us).err = 0 ∨ (makeOf ks fr l val hs us).err = 1 := by
  unfold makeOf
  split
  · exact .inl rfl
  · exact .inr rfl
theorem lent_heard {hs : List Hd} {us : List Int} {u : Vt} (h : u ∈ lentOf hs us) : heardB hs u = true := by
  obtain ⟨i, _, hi⟩ := List.mem_flatMap.1 h
  unfold votesAt at hi
  split at hi
  · cases hq : hs[i.toNat]? with
    | none => rw [hq] at hi; simp at hi
    | some x =>
      rw [hq] at hi
      exact List.any_eq_true.2 ⟨x, List.mem_of_getElem? hq, List.any_eq_true.2 ⟨u, by simpa using hi, by simp⟩⟩
  · cases hi
theorem make_own (ks : List (List (BitVec 8))) (fr : Int) (l : Li) (val : List (BitVec 8)) (hs : List Hd) (us : List Int) (hv : val.length = l.vn) (hk : ks.length ≤ 10) (h0 : (makeOf ks fr l val hs us).err = 0) :
    (makeOf ks fr l val hs us).f = fr ∧ (∀ u ∈ (makeOf ks fr l val hs us).lv, (u.f = fr ∧ goodOf ks u = true) ∨ heardB hs u = true) ∧ ∀ va vc wa wc, checkOf ks fr (bodyB (moMs (makeOf ks fr l val hs us) va vc wa wc) (makeOf ks fr l val hs us).val (makeOf ks fr l val hs us).lv) (makeOf ks fr l val hs us).tag = true := by
  unfold makeOf at h0 ⊢
  split at h0
  case isFalse => cases h0
  case isTrue hc =>
    rw [if_pos hc]
    simp only [Bool.and_eq_true] at hc
    obtain ⟨⟨d1, d2, _, _⟩, _, _⟩ := lie_yes hv hk hc.1
    refine ⟨rfl, fun u hu => ?_, fun va vc wa wc => checkOf_own ks fr _ ⟨by omega, by omega⟩⟩
    have hu' : u ∈ liVotes ks fr l val hs us := hu
    unfold liVotes at hu'
    split at hu'
    · simp at hu'; subst hu'
      exact .inl ⟨rfl, good_cast ks _ _ _ _ _ ⟨by omega, by omega⟩⟩
    · split at hu'
      · simp at hu'; subst hu'
        exact .inl ⟨rfl, good_cast ks _ _ _ _ _ ⟨by omega, by omega⟩⟩
      · exact .inr (lent_heard (List.mem_of_mem_take hu'))
attribute [local irreducible] wpList Code.wp GW Calls
set_option maxRecDepth 100000 in
set_option maxHeartbeats 4000000 in
theorem FaultOwn_any (w : World) (fr : Int) (l : Li) (val : List (BitVec 8)) (us : List Int) (hn hc : Nat) (hA : Option Addr) (hs : List Hd) (hby : Bytes w w.heap.size l.va l.vn val) (hvc : l.vn ≤ l.vc) (hU : Reads w w.heap.size 1 l.ua l.un (us.map (Value.int .i64))) (hul : us.length = l.un)
    (hH : HeardR w hA hn hs) (hnn : hn ≤ 140737488351232) (hbb : ∀ x ∈ hs, x.m.vn ≤ 140737488351232 ∧ x.m.wn ≤ 140737488351232) :
    Calls Try.prog 4 #[.int .i64 fr, .agg (lic l).toArray, .slice hA hn hc] w fun e w' => e = .returned (.bool true) ∧ Grow w noOwn w' := by
  have hM := Mem.nil w noOwn
  obtain ⟨ks, hks⟩ : ∃ ks, ks = keysOf (seed1 1#8) 4 := ⟨_, rfl⟩
  have hk4 : ks.length = 4 := by rw [hks]; exact keysOf_length ..
  obtain ⟨x, hx⟩ : ∃ x, x = makeOf ks fr l val hs us := ⟨_, rfl⟩
  have htl : x.tag.length = 32 := by
    rw [hx]; unfold makeOf; split
    · exact sealOf_length _ _ _
    · rfl
  have hlv : ∀ u ∈ x.lv, u.Ok := by
    rw [hx]; unfold makeOf; split
    · exact liVotes_ok hH
    · intro u hu; cases hu
  have hlv10 : x.lv.length ≤ 10 := by
    rw [hx]; unfold makeOf; split
    · exact liVotes_len ..
    · exact Nat.zero_le _
  have zm : ∀ (va : Option Addr) (vc : Nat) (wa : Option Addr) (wc : Nat), SzA (msc (moMs x va vc wa wc)).toArray 39 := fun _ _ _ _ => ⟨by simp [msc, moMs, htl]⟩
  have z0 : SzA (msc (moMs noMo none 0 none 0)).toArray 39 := ⟨rfl⟩
  have h01 : x.err = 0 ∨ x.err = 1 := by rw [hx]; exact make_01 ..
  have hown := make_own ks fr l val hs us hby.len (by omega)
  rw [← hx] at hown
  have hxv : x.val.length ≤ l.vn := by
    rw [hx]; unfold makeOf; split
    · exact Nat.le_of_eq hby.len
    · exact Nat.zero_le _
  have HX := hide hx
  have HKS := hide hks
  have HK4 := hide hk4
  have HLV := hide hlv
  have HBB := hide hbb
  have HHH := hide hH
  have HUL := hide hul
  clear hx hks hk4 hlv hbb hH hul
  have HO := hide hown
  clear hown
  by_cases h1 : l.vn ≤ 500 ∧ l.un ≤ 40
  · have e1 : decide ((500 : Int) < (l.vn : Int)) = false := decide_eq_false (by omega)
    have e2 : decide ((40 : Int) < (l.un : Int)) = false := decide_eq_false (by omega)
    have e3 : decide (500 < l.vn) = false := decide_eq_false (by omega)
    have e4 : decide (40 < l.un) = false := decide_eq_false (by omega)
    obtain ⟨h2, h3⟩ := h1
    go_enter Try.func4, Try.ntmps4
    go_wp2_with (first | ((with_reducible refine wl_shape ?_); first | (apply wl_boxa; exact rfl; exact hM; exact rfl; exact rfl; clear hM; intro gg ww hM; simp only [putT, List.set_cons_succ, List.set_cons_zero]) | (apply wl_alloc; exact rfl; exact hM; exact rfl; exact inferInstance; clear hM; intro gg ww hM; simp only [putT, List.set_cons_succ, List.set_cons_zero]) | (apply wl_ld; exact rfl; exact hM; exact rfl; exact rfl; exact inferInstance; exact inferInstance; simp only [putT, List.set_cons_succ, List.set_cons_zero]) | (apply wl_lda; exact rfl; exact hM; exact rfl; exact rfl; exact inferInstance; exact inferInstance; exact inferInstance; exact inferInstance; simp only [putT, List.set_cons_succ, List.set_cons_zero]) | (apply wl_ldr; exact rfl; exact hM; exact rfl; exact rfl; exact inferInstance; exact inferInstance; exact inferInstance; exact inferInstance; simp only [putT, List.set_cons_succ, List.set_cons_zero]) | (apply wl_sta; exact rfl; exact hM; exact rfl; exact rfl; exact rfl; exact all_oneCell_toArray One.out; exact inferInstance; exact inferInstance; exact inferInstance; clear hM; intro ww hM; simp only [putT, List.set_cons_succ, List.set_cons_zero])) | (rw [e1]) | (rw [e2]) | (rw [e3]) | (rw [e4]) | (refine wpList_build_to rfl 30 #[(0, .const (.int .u8 1))] rfl (Go.Proofs.Ytgdfdombcngpnaa.hv (seed1 1#8)) (by kernel_rfl) ?_) | (go_at_call 19; refine (RNew_any _ 4 (seed1 1#8) rfl).mono ?_; rintro e w1 ⟨⟨p, rfl, g2, A2, c2, rfl, hr0⟩, hg⟩; rw [cnt4, ← unhide HKS] at hr0; replace hM := hM.call hg; have zl7 : SzL (lic l) 7 := ⟨rfl⟩; have o5 : OldR w1 noOwn gg 0 (lic l) := oldR_no (blk_range2 (hM.blk 0 rfl)) (hM.lt 0 rfl rfl); have hby2 := bytesUp hby hM.grow; have hU2 := hU.up hM.grow; have HH2 := hide ((unhide HHH).up hM.grow); have hg0 := hM.grow; clear hM; have hM := Mem.nil w1 noOwn; have hrx := hide hr0; clear hr0 hg) | (go_at_call 15; refine (long17_any _ hA hn hc hs ((unhide HHH).up hM.grow) hnn (unhide HBB)).mono ?_; rintro e1 w1 ⟨b, rfl, hlo, hg⟩; replace hM := hM.call hg; clear hg; cases b))
    · have hw4 : ∀ x ∈ hs, x.m.wn ≤ 400 := by simpa using hlo
      have HW4 := hide hw4
      clear hlo hw4
      refine wp_region_memT2 10 8 [] [1, 5, 6, 7, 9] [7, 9] _ _ rfl rfl hM (by kernel_rfl) (by kernel_rfl) (by kernel_rfl) (by kernel_rfl) (by kernel_rfl) ?_; simp only [List.take_succ_cons, List.take_zero]; simp only [initS, Act.put, List.setIfInBounds_toArray, List.set_cons_succ, List.set_cons_zero, List.map_cons, List.map_nil]
      (repeat (first
        | (refine gw_at 0 ?_; (refine gl_wpV (.agg (Go.Proofs.Ytgdfdombcngpnaa.hv (seed1 1#8))) rfl (by decide) rfl (by simp) (fun γ w' hC hP => ?_) ?_; (focus (simp only [slAct, slVals, Slot.get]; go_wp2_with (first | (refine wpList_build_to rfl 30 #[(0, .const (.int .u8 1))] rfl (Go.Proofs.Ytgdfdombcngpnaa.hv (seed1 1#8)) (by kernel_rfl) ?_)); (first | exact ⟨Grow.refl _ _, rfl⟩ | exact Grow.refl _ _))); simp only [setD, List.set_cons_succ, List.set_cons_zero]))
        | (refine gw_at 1 ?_; (refine gl_wpF (RingV 88 ks) RingV.grow rfl (by decide) (by decide) rfl (by simp) (fun γ w' hC hP => ?_) ?_; (focus (simp only [slAct, slVals, Slot.get]; go_wp2_with (first | (go_at_call 17; refine (New_any _ 4 (seed1 1#8) rfl).mono ?_; rintro e w2 ⟨⟨p, rfl, g, A1, c1, rfl, hr0⟩, hg⟩; rw [cnt4, ← unhide HKS] at hr0)); (first | exact ⟨hg, g, A1, c1, rfl, hr0⟩ | exact ⟨g, A1, c1, rfl, hr0⟩))); simp only [setD, List.set_cons_succ, List.set_cons_zero]))
        | (refine gw_at 5 ?_; (refine gl_wpF (FMsg x) FMsg.grow rfl (by decide) (by decide) rfl (by simp) (fun γ w' hC hP => ?_) ?_; (focus (simp only [slAct, slVals, Slot.get]; obtain ⟨g, A1, c1, e5, hr⟩ := hP 35 (RingV 88 ks _) rfl rfl; rw [e5]; go_wp2_with (first | (go_at_call 16; refine (Make_any _ g c1 hn hc A1 hA ks fr l val hr (bytesUp hby2 hC.1.grow) hvc (by omega) hs us ((unhide HH2).up hC.1.grow) (hU2.up hC.1.grow) (unhide HUL) (by omega) (fun h hh => by have := unhide HW4 h hh; omega)).mono ?_; rw [← unhide HX]; rintro e1 w3 ⟨va, vc, wa, wc, rfl, hM1⟩)); exact ⟨hM1.grow, va, vc, wa, wc, w', rfl, hC.2.1, hM1⟩)); simp only [setD, List.set_cons_succ, List.set_cons_zero]))
        | (refine gw_at 6 ?_; (apply gl_moveP; (first | exact .inl rfl | exact .inr rfl); exact rfl; exact rfl; exact rfl; exact FMsg.grow; simp only [setD, List.set_cons_succ, List.set_cons_zero])) | (refine gw_at 7 ?_; (refine gl_extP rfl rfl (by decide) (FAggM x _) FAggM.grow rfl FMsg.agg ?_; simp only [setD, List.set_cons_succ, List.set_cons_zero])) | (refine gw_at 8 ?_; (refine gl_extV rfl rfl (.int .i64 x.err) rfl FMsg.err ?_; simp only [setD, List.set_cons_succ, List.set_cons_zero])) | (refine gw_at 9 ?_; (refine gl_wpF (FBlk 32 (msc (moMs noMo none 0 none 0)).toArray) FBlk.grow rfl (by decide) (by decide) rfl (by simp) (fun γ w' hC hP => ?_) ?_; (focus (simp only [slAct, slVals, Slot.get]; have hM9 := Mem.nil w' noOwn; go_wp2_with (first | (refine wpList_alloc_mem hM9 rfl 32 rfl _ zeroM ?_; clear hM9; intro gg ww hM9)); exact ⟨hM9.grow, gg, rfl, hM9.fresh hC.2.1 0 rfl⟩)); simp only [setD, List.set_cons_succ, List.set_cons_zero]))
        | (apply gl_move; (first | exact .inl rfl | exact .inr rfl); exact rfl; exact rfl; simp only [setD, List.set_cons_succ, List.set_cons_zero]) | (apply gl_ld; exact rfl; exact rfl; exact rfl; exact inferInstance; exact inferInstance; simp only [setD, List.set_cons_succ, List.set_cons_zero]) | (apply gl_lda; exact rfl; exact rfl; exact rfl; exact inferInstance; exact inferInstance; exact inferInstance; exact inferInstance; simp only [setD, List.set_cons_succ, List.set_cons_zero]) | (apply gl_ldr; exact rfl; exact rfl; exact rfl; exact inferInstance; exact inferInstance; exact inferInstance; exact inferInstance; simp only [setD, List.set_cons_succ, List.set_cons_zero]) | (apply gl_cmp true; exact rfl; exact rfl; exact rfl; exact rfl; (simp only [cmpB, Option.some.injEq, decide_eq_true_eq, ne_eq]; omega); simp only [setD, List.set_cons_succ, List.set_cons_zero]) | (apply gl_cmp false; exact rfl; exact rfl; exact rfl; exact rfl; (simp only [cmpB, Option.some.injEq, decide_eq_false_iff_not, ne_eq]; omega); simp only [setD, List.set_cons_succ, List.set_cons_zero]) | (apply gl_pick; exact rfl; exact rfl; exact rfl; exact rfl; exact rfl; simp only [setD, List.set_cons_succ, List.set_cons_zero, cond_true, cond_false]) | (apply gl_conv; exact rfl; exact rfl; exact rfl; exact inferInstance; exact inferInstance; simp only [setD, List.set_cons_succ, List.set_cons_zero]) | (apply gl_skip; exact rfl; simp only [setD, List.set_cons_succ, List.set_cons_zero]) | (apply gl_moveP; (first | exact .inl rfl | exact .inr rfl); exact rfl; exact rfl; exact rfl; (first | exact FRow.grow | exact FBlk.grow | exact FAgg.grow); simp only [setD, List.set_cons_succ, List.set_cons_zero]) | (refine gw_isPure rfl ?_; apply gl_pure; exact rfl; intro K hK; go_simp; refine hK _ ?_; clear hK K; simp only [setD, List.set_cons_succ, List.set_cons_zero])))
      refine gw_nil ?_; intro γ w6 hC' hk'; simp only [slAct, slVals, Slot.get]
      obtain ⟨va1, vc1, wa1, wc1, W1, e5, hB0, hM5⟩ : FAggM x _ _ _ := hk' 7 40 _ rfl rfl rfl
      obtain ⟨g1, e6, hf6⟩ : FBlk 32 (msc (moMs noMo none 0 none 0)).toArray _ _ _ := hk' 9 8 _ rfl rfl rfl
      simp only [e5, e6]
      have hM6 := cm_msg hC' hM5 hB0 hf6 (by decide) (by decide)
      refine wp_staL rfl hM6 rfl rfl (msc_all _) inferInstance inferInstance inferInstance ?_
      clear hM hM5 hM6 hC' hk' hf6 e5 e6 hB0
      simp only [putT]
      intro w7 hM
      refine wp_assignL (.inr rfl) rfl ?_
      simp only [putT, List.set_cons_succ, List.set_cons_zero]
      rcases h01 with h0 | h1
      · rw [h0]
        simp only [Nat.zero_add, Nat.reduceAdd]
        have hown := unhide HO h0
        have H0 := hide h0
        clear h0
        obtain ⟨hxf, hvot, hchk⟩ := hown
        have HVT := hide hvot
        have HCK := hide hchk
        have HXF := hide hxf
        clear hvot hchk hxf
        go_wp2_with (first | ((with_reducible refine wl_shape ?_); first | (apply wl_boxa; exact rfl; exact hM; exact rfl; exact rfl; clear hM; intro gg ww hM; simp only [putT, List.set_cons_succ, List.set_cons_zero]) | (apply wl_alloc; exact rfl; exact hM; exact rfl; exact inferInstance; clear hM; intro gg ww hM; simp only [putT, List.set_cons_succ, List.set_cons_zero]) | (apply wl_ld; exact rfl; exact hM; exact rfl; exact rfl; exact inferInstance; exact inferInstance; simp only [putT, List.set_cons_succ, List.set_cons_zero]) | (apply wl_lda; exact rfl; exact hM; exact rfl; exact rfl; exact inferInstance; exact inferInstance; exact inferInstance; exact inferInstance; simp only [putT, List.set_cons_succ, List.set_cons_zero]) | (apply wl_ldr; exact rfl; exact hM; exact rfl; exact rfl; exact inferInstance; exact inferInstance; exact inferInstance; exact inferInstance; simp only [putT, List.set_cons_succ, List.set_cons_zero]) | (apply wl_sta; exact rfl; exact hM; exact rfl; exact rfl; exact rfl; exact all_oneCell_toArray One.out; exact inferInstance; exact inferInstance; exact inferInstance; clear hM; intro ww hM; simp only [putT, List.set_cons_succ, List.set_cons_zero])))
        have a6 : ∀ (va : Option Addr) (vc : Nat) (wa : Option Addr) (wc : Nat), AtA (msc (moMs x va vc wa wc)).toArray 6 (.slice wa x.lv.length wc) := fun _ _ _ _ => ⟨rfl⟩
        have a1 : ∀ (va : Option Addr) (vc : Nat) (wa : Option Addr) (wc : Nat), AtA (msc (moMs x va vc wa wc)).toArray 1 (.int .i64 fr) := fun _ _ _ _ => ⟨by rw [← unhide HXF]; rfl⟩
        have HM := hide hM
        go_loopw [12] (fun iv wr => ∃ i : Nat, i ≤ x.lv.length ∧ iv = .int .i64 i ∧ Mem w1 noOwn wr [.row (.slice va1 x.val.length vc1) 5 1 x.val.length (x.val.map V8), .row (.slice wa1 x.lv.length wc1) 47 68 x.lv.length (vCells x.lv), .blk g1 32 (msc (moMs x va1 vc1 wa1 wc1)).toArray]) (fun iv _ => x.lv.length - (intOf iv).toNat)
        case atStart => exact ⟨0, Nat.zero_le _, by go_num, hM⟩
        case round =>
          clear hM HM
          obtain ⟨i, hi, rfl, hM⟩ := hrel
          by_cases hlt : i < x.lv.length
          · obtain ⟨u, hu⟩ : ∃ u, x.lv[i]? = some u := ⟨_, List.getElem?_eq_getElem hlt⟩
            have hue : x.lv[i] = u := (List.getElem?_eq_some_iff.1 hu).2
            have huo : u.Ok := unhide HLV u (List.mem_of_getElem? hu)
            have hvt := unhide HVT u (List.mem_of_getElem? hu)
            obtain ⟨gv, rfl, -⟩ := row_some (hM.row 1 rfl) (by omega)
            have q1 : ∀ (L' : List Item) [HasRow L' (.slice (some ⟨gv, 0, none⟩) x.lv.length wc1) 47 68 x.lv.length (vCells x.lv)], Rng w1 noOwn L' gv (i * 68) (vtc u) := fun L' h => ⟨fun w' hM' j y hj => by
              have hj6 : j < 68 := by have := (List.getElem?_eq_some_iff.1 hj).1; rwa [vtc_len huo] at this
              exact (row_cellS (w0 := w1) (own := noOwn) (L := L') (j := i * 68 + j) h (by rw [vCells_get x.lv (unhide HLV) i hlt j hj6, hue]; exact hj)).out w' hM'⟩
            have z1 : SzA (vtc u).toArray 68 := ⟨by simpa using vtc_len huo⟩
            have z2 : SzL (vtc u) 68 := ⟨vtc_len huo⟩
            have b3 : AtA (vtc u).toArray 4 (.int .i64 u.f) ∨ True := .inr trivial
            have a3 : AtA (vtc u).toArray 35 (.int .i64 u.f) := ⟨by simpa using vtc_35 huo⟩
            have HVTU := hide hvt
            clear hu hue hvt b3
            by_cases hf : u.f = fr
            · have ef : (u.f == fr) = true := beq_iff_eq.2 hf
              have HB0 : Hid ((goodOf ks u || heardB hs u) = true) := hide (by rcases unhide HVTU with ⟨_, h⟩ | h <;> simp [h])
              clear hf HVTU
              go_wp2_with (first
                | ((with_reducible refine wl_shape ?_); first | (apply wl_boxa; exact rfl; exact hM; exact rfl; exact rfl; clear hM; intro gg ww hM; simp only [putT, List.set_cons_succ, List.set_cons_zero]) | (apply wl_alloc; exact rfl; exact hM; exact rfl; exact inferInstance; clear hM; intro gg ww hM; simp only [putT, List.set_cons_succ, List.set_cons_zero]) | (apply wl_ld; exact rfl; exact hM; exact rfl; exact rfl; exact inferInstance; exact inferInstance; simp only [putT, List.set_cons_succ, List.set_cons_zero]) | (apply wl_lda; exact rfl; exact hM; exact rfl; exact rfl; exact inferInstance; exact inferInstance; exact inferInstance; exact inferInstance; simp only [putT, List.set_cons_succ, List.set_cons_zero]) | (apply wl_ldr; exact rfl; exact hM; exact rfl; exact rfl; exact inferInstance; exact inferInstance; exact inferInstance; exact inferInstance; simp only [putT, List.set_cons_succ, List.set_cons_zero]) | (apply wl_sta; exact rfl; exact hM; exact rfl; exact rfl; exact rfl; exact all_oneCell_toArray One.out; exact inferInstance; exact inferInstance; exact inferInstance; clear hM; intro ww hM; simp only [putT, List.set_cons_succ, List.set_cons_zero])) | (rw [ef])
                | (go_at_call 22; refine (RGood_any _ g2 c2 A2 ks u ((unhide hrx).grow hM.grow) huo).mono ?_; rintro e1 w9 ⟨rfl, hg⟩; replace hM := hM.call hg; clear hg))
              have HM := hide hM
              go_loopw [14, 15] (fun okv kv wr => ∃ (k : Nat) (b : Bool), k ≤ hn ∧ okv = .bool b ∧ kv = .int .i64 k ∧ Hid ((goodOf ks u || (hs.take k).any fun h => h.lv.any fun v => decide (v = u)) = b) ∧ Mem w1 noOwn wr [.blk gg 47 (vtc u).toArray, .row (.slice va1 x.val.length vc1) 5 1 x.val.length (x.val.map V8), .row (.slice (some ⟨gv, 0, none⟩) x.lv.length wc1) 47 68 x.lv.length (vCells x.lv), .blk g1 32 (msc (moMs x va1 vc1 (some ⟨gv, 0, none⟩) wc1)).toArray]) (fun _ kv _ => hn - (intOf kv).toNat)
              case atStart => exact ⟨0, goodOf ks u, Nat.zero_le _, rfl, by go_num, hide (by simp), hM⟩
              case round =>
                clear hM HM
                obtain ⟨k, b, hk, rfl, rfl, hany, hM⟩ := hrel
                cases b
                · by_cases hkn : k < hn
                  · have hkl : k < hs.length := by rw [(unhide HH2).len]; exact hkn
                    obtain ⟨b, off, hAe, d5, d6⟩ := (unhide HH2).olds k hkl
                    obtain ⟨h, hh⟩ : ∃ h, hs[k]? = some h := ⟨_, List.getElem?_eq_getElem hkl⟩
                    have hhe : hs[k] = h := (List.getElem?_eq_some_iff.1 hh).2
                    have hho : h.Ok w1 := by rw [← hhe]; exact (unhide HH2).ok _ (List.getElem_mem hkl)
                    rw [hhe] at d5 d6
                    obtain ⟨wa, hwa⟩ : ∃ wa, h.m.wa = wa := ⟨_, rfl⟩
                    have hrd := hho.rd
                    rw [hwa] at hrd d6
                    have HRD := hide hrd
                    have HHO := hide hho
                    have HHK := hide hh
                    have hwn : h.m.wn ≤ 400 := unhide HW4 h (List.mem_of_getElem? hh)
                    subst hAe
                    clear hh hhe hho hwa hrd hkl
                    go_wp2_with (first | ((with_reducible refine wl_shape ?_); first | (apply wl_boxa; exact rfl; exact hM; exact rfl; exact rfl; clear hM; intro gg ww hM; simp only [putT, List.set_cons_succ, List.set_cons_zero]) | (apply wl_alloc; exact rfl; exact hM; exact rfl; exact inferInstance; clear hM; intro gg ww hM; simp only [putT, List.set_cons_succ, List.set_cons_zero]) | (apply wl_ld; exact rfl; exact hM; exact rfl; exact rfl; exact inferInstance; exact inferInstance; simp only [putT, List.set_cons_succ, List.set_cons_zero]) | (apply wl_lda; exact rfl; exact hM; exact rfl; exact rfl; exact inferInstance; exact inferInstance; exact inferInstance; exact inferInstance; simp only [putT, List.set_cons_succ, List.set_cons_zero]) | (apply wl_ldr; exact rfl; exact hM; exact rfl; exact rfl; exact inferInstance; exact inferInstance; exact inferInstance; exact inferInstance; simp only [putT, List.set_cons_succ, List.set_cons_zero]) | (apply wl_sta; exact rfl; exact hM; exact rfl; exact rfl; exact rfl; exact all_oneCell_toArray One.out; exact inferInstance; exact inferInstance; exact inferInstance; clear hM; intro ww hM; simp only [putT, List.set_cons_succ, List.set_cons_zero])))
                    have HM := hide hM
                    go_loopw [14, 16] (fun okv jv wr => ∃ (j : Nat) (b : Bool), j ≤ h.m.wn ∧ okv = .bool b ∧ jv = .int .i64 j ∧ Hid ((h.lv.take j).any (fun v => decide (v = u)) = b) ∧ Mem w1 noOwn wr [.blk gg 47 (vtc u).toArray, .row (.slice va1 x.val.length vc1) 5 1 x.val.length (x.val.map V8), .row (.slice (some ⟨gv, 0, none⟩) x.lv.length wc1) 47 68 x.lv.length (vCells x.lv), .blk g1 32 (msc (moMs x va1 vc1 (some ⟨gv, 0, none⟩) wc1)).toArray]) (fun _ jv _ => h.m.wn - (intOf jv).toNat)
                    case atStart => exact ⟨0, false, Nat.zero_le _, rfl, by go_num, hide rfl, hM⟩
                    case round =>
                      clear hM HM
                      obtain ⟨j, b2, hj, rfl, rfl, hany2, hM⟩ := hrel
                      by_cases hjn : j < h.m.wn
                      · obtain ⟨v, hv⟩ : ∃ v, h.lv[j]? = some v := ⟨_, List.getElem?_eq_getElem (by rw [(unhide HHO).len]; exact hjn)⟩
                        obtain ⟨hjl, hve⟩ := List.getElem?_eq_some_iff.1 hv
                        have hvo : v.Ok := by rw [← hve]; exact (unhide HHO).ok _ (List.getElem_mem hjl)
                        cases b2
                        · obtain ⟨vb, voff, rfl, hvB, hrng⟩ := vote_range (unhide HRD) (unhide HHO).ok (unhide HHO).len j hjl
                          rw [hve] at hrng
                          have c3 : OldR w1 noOwn vb (voff + j * 68) (vtc v) := oldR_no hrng hvB
                          have z3 : SzL (vtc v) 68 := ⟨vtc_len hvo⟩
                          have HV := hide hv
                          clear hrng hve hv
                          go_wp2_with (first | ((with_reducible refine wl_shape ?_); first | (apply wl_boxa; exact rfl; exact hM; exact rfl; exact rfl; clear hM; intro gg ww hM; simp only [putT, List.set_cons_succ, List.set_cons_zero]) | (apply wl_alloc; exact rfl; exact hM; exact rfl; exact inferInstance; clear hM; intro gg ww hM; simp only [putT, List.set_cons_succ, List.set_cons_zero]) | (apply wl_ld; exact rfl; exact hM; exact rfl; exact rfl; exact inferInstance; exact inferInstance; simp only [putT, List.set_cons_succ, List.set_cons_zero]) | (apply wl_lda; exact rfl; exact hM; exact rfl; exact rfl; exact inferInstance; exact inferInstance; exact inferInstance; exact inferInstance; simp only [putT, List.set_cons_succ, List.set_cons_zero]) | (apply wl_ldr; exact rfl; exact hM; exact rfl; exact rfl; exact inferInstance; exact inferInstance; exact inferInstance; exact inferInstance; simp only [putT, List.set_cons_succ, List.set_cons_zero]) | (apply wl_sta; exact rfl; exact hM; exact rfl; exact rfl; exact rfl; exact all_oneCell_toArray One.out; exact inferInstance; exact inferInstance; exact inferInstance; clear hM; intro ww hM; simp only [putT, List.set_cons_succ, List.set_cons_zero])))
                          refine wp_region_mc [] [] [] hM (by kernel_rfl) (by kernel_rfl) (by kernel_rfl) (by kernel_rfl) ?_; simp only [initS, Act.put, List.setIfInBounds_toArray, List.set_cons_succ, List.set_cons_zero, List.map_cons, List.map_nil]
                          (repeat (first | (refine gw_at 11 ?_; refine gm_eqv2 v u hvo huo rfl rfl rfl rfl ?_; simp only [setD, List.set_cons_succ, List.set_cons_zero]) | (apply gm_move; (first | exact .inl rfl | exact .inr rfl); exact rfl; exact rfl; simp only [setD, List.set_cons_succ, List.set_cons_zero]) | (apply gm_ld; exact rfl; exact rfl; exact rfl; exact inferInstance; exact inferInstance; simp only [setD, List.set_cons_succ, List.set_cons_zero]) | (apply gm_lda; exact rfl; exact rfl; exact rfl; exact inferInstance; exact inferInstance; exact inferInstance; exact inferInstance; simp only [setD, List.set_cons_succ, List.set_cons_zero]) | (apply gm_ldr; exact rfl; exact rfl; exact rfl; exact inferInstance; exact inferInstance; exact inferInstance; exact inferInstance; simp only [setD, List.set_cons_succ, List.set_cons_zero]) | (apply gm_cmp true; exact rfl; exact rfl; exact rfl; exact rfl; (simp only [cmpB, Option.some.injEq, decide_eq_true_eq, ne_eq]; omega); simp only [setD, List.set_cons_succ, List.set_cons_zero]) | (apply gm_cmp false; exact rfl; exact rfl; exact rfl; exact rfl; (simp only [cmpB, Option.some.injEq, decide_eq_false_iff_not, ne_eq]; omega); simp only [setD, List.set_cons_succ, List.set_cons_zero]) | (apply gm_pick; exact rfl; exact rfl; exact rfl; exact rfl; exact rfl; simp only [setD, List.set_cons_succ, List.set_cons_zero, cond_true, cond_false]) | (apply gm_skip; exact rfl; simp only [setD, List.set_cons_succ, List.set_cons_zero]) | (apply gm_skipU; exact rfl; exact rfl; exact rfl; exact rfl; simp only [setD, List.set_cons_succ, List.set_cons_zero]) | (apply gm_moveP; (first | exact .inl rfl | exact .inr rfl); exact rfl; exact rfl; exact rfl; simp only [setD, List.set_cons_succ, List.set_cons_zero]) | (refine gw_isPure rfl ?_; apply gm_pure; exact rfl; intro K hK; go_simp; refine hK _ ?_; clear hK K; simp only [setD, List.set_cons_succ, List.set_cons_zero])))
                          refine gw_nil ?_; intro γ w4 hC' hk'; simp only [slAct, slVals, Slot.get]
                          clear hM
                          have hM : Mem w1 noOwn w4 _ := hC'
                          clear hC' hk'
                          go_wp2_with (first | ((with_reducible refine wl_shape ?_); first | (apply wl_boxa; exact rfl; exact hM; exact rfl; exact rfl; clear hM; intro gg ww hM; simp only [putT, List.set_cons_succ, List.set_cons_zero]) | (apply wl_alloc; exact rfl; exact hM; exact rfl; exact inferInstance; clear hM; intro gg ww hM; simp only [putT, List.set_cons_succ, List.set_cons_zero]) | (apply wl_ld; exact rfl; exact hM; exact rfl; exact rfl; exact inferInstance; exact inferInstance; simp only [putT, List.set_cons_succ, List.set_cons_zero]) | (apply wl_lda; exact rfl; exact hM; exact rfl; exact rfl; exact inferInstance; exact inferInstance; exact inferInstance; exact inferInstance; simp only [putT, List.set_cons_succ, List.set_cons_zero]) | (apply wl_ldr; exact rfl; exact hM; exact rfl; exact rfl; exact inferInstance; exact inferInstance; exact inferInstance; exact inferInstance; simp only [putT, List.set_cons_succ, List.set_cons_zero]) | (apply wl_sta; exact rfl; exact hM; exact rfl; exact rfl; exact rfl; exact all_oneCell_toArray One.out; exact inferInstance; exact inferInstance; exact inferInstance; clear hM; intro ww hM; simp only [putT, List.set_cons_succ, List.set_cons_zero])))
                          go_roundw
                          case rel => exact ⟨j + 1, decide (v = u), by omega, rfl, by go_num, hide (by rw [any_more (unhide HV), unhide hany2]; rfl), hM⟩
                          case measure => simp [intOf]; omega
                        · have HV := hide hv
                          clear hve hv
                          go_wp2_with (first | ((with_reducible refine wl_shape ?_); first | (apply wl_boxa; exact rfl; exact hM; exact rfl; exact rfl; clear hM; intro gg ww hM; simp only [putT, List.set_cons_succ, List.set_cons_zero]) | (apply wl_alloc; exact rfl; exact hM; exact rfl; exact inferInstance; clear hM; intro gg ww hM; simp only [putT, List.set_cons_succ, List.set_cons_zero]) | (apply wl_ld; exact rfl; exact hM; exact rfl; exact rfl; exact inferInstance; exact inferInstance; simp only [putT, List.set_cons_succ, List.set_cons_zero]) | (apply wl_lda; exact rfl; exact hM; exact rfl; exact rfl; exact inferInstance; exact inferInstance; exact inferInstance; exact inferInstance; simp only [putT, List.set_cons_succ, List.set_cons_zero]) | (apply wl_ldr; exact rfl; exact hM; exact rfl; exact rfl; exact inferInstance; exact inferInstance; exact inferInstance; exact inferInstance; simp only [putT, List.set_cons_succ, List.set_cons_zero]) | (apply wl_sta; exact rfl; exact hM; exact rfl; exact rfl; exact rfl; exact all_oneCell_toArray One.out; exact inferInstance; exact inferInstance; exact inferInstance; clear hM; intro ww hM; simp only [putT, List.set_cons_succ, List.set_cons_zero])))
                          refine wp_region_mc [] [] [] hM (by kernel_rfl) (by kernel_rfl) (by kernel_rfl) (by kernel_rfl) ?_; simp only [initS, Act.put, List.setIfInBounds_toArray, List.set_cons_succ, List.set_cons_zero, List.map_cons, List.map_nil]
                          (repeat (first | (apply gm_move; (first | exact .inl rfl | exact .inr rfl); exact rfl; exact rfl; simp only [setD, List.set_cons_succ, List.set_cons_zero]) | (apply gm_ld; exact rfl; exact rfl; exact rfl; exact inferInstance; exact inferInstance; simp only [setD, List.set_cons_succ, List.set_cons_zero]) | (apply gm_lda; exact rfl; exact rfl; exact rfl; exact inferInstance; exact inferInstance; exact inferInstance; exact inferInstance; simp only [setD, List.set_cons_succ, List.set_cons_zero]) | (apply gm_ldr; exact rfl; exact rfl; exact rfl; exact inferInstance; exact inferInstance; exact inferInstance; exact inferInstance; simp only [setD, List.set_cons_succ, List.set_cons_zero]) | (apply gm_cmp true; exact rfl; exact rfl; exact rfl; exact rfl; (simp only [cmpB, Option.some.injEq, decide_eq_true_eq, ne_eq]; omega); simp only [setD, List.set_cons_succ, List.set_cons_zero]) | (apply gm_cmp false; exact rfl; exact rfl; exact rfl; exact rfl; (simp only [cmpB, Option.some.injEq, decide_eq_false_iff_not, ne_eq]; omega); simp only [setD, List.set_cons_succ, List.set_cons_zero]) | (apply gm_pick; exact rfl; exact rfl; exact rfl; exact rfl; exact rfl; simp only [setD, List.set_cons_succ, List.set_cons_zero, cond_true, cond_false]) | (apply gm_skip; exact rfl; simp only [setD, List.set_cons_succ, List.set_cons_zero]) | (apply gm_skipU; exact rfl; exact rfl; exact rfl; exact rfl; simp only [setD, List.set_cons_succ, List.set_cons_zero]) | (apply gm_moveP; (first | exact .inl rfl | exact .inr rfl); exact rfl; exact rfl; exact rfl; simp only [setD, List.set_cons_succ, List.set_cons_zero]) | (refine gw_isPure rfl ?_; apply gm_pure; exact rfl; intro K hK; go_simp; refine hK _ ?_; clear hK K; simp only [setD, List.set_cons_succ, List.set_cons_zero])))
                          refine gw_nil ?_; intro γ w4 hC' hk'; simp only [slAct, slVals, Slot.get]
                          clear hM
                          have hM : Mem w1 noOwn w4 _ := hC'
                          clear hC' hk'
                          go_wp2_with (first | ((with_reducible refine wl_shape ?_); first | (apply wl_boxa; exact rfl; exact hM; exact rfl; exact rfl; clear hM; intro gg ww hM; simp only [putT, List.set_cons_succ, List.set_cons_zero]) | (apply wl_alloc; exact rfl; exact hM; exact rfl; exact inferInstance; clear hM; intro gg ww hM; simp only [putT, List.set_cons_succ, List.set_cons_zero]) | (apply wl_ld; exact rfl; exact hM; exact rfl; exact rfl; exact inferInstance; exact inferInstance; simp only [putT, List.set_cons_succ, List.set_cons_zero]) | (apply wl_lda; exact rfl; exact hM; exact rfl; exact rfl; exact inferInstance; exact inferInstance; exact inferInstance; exact inferInstance; simp only [putT, List.set_cons_succ, List.set_cons_zero]) | (apply wl_ldr; exact rfl; exact hM; exact rfl; exact rfl; exact inferInstance; exact inferInstance; exact inferInstance; exact inferInstance; simp only [putT, List.set_cons_succ, List.set_cons_zero]) | (apply wl_sta; exact rfl; exact hM; exact rfl; exact rfl; exact rfl; exact all_oneCell_toArray One.out; exact inferInstance; exact inferInstance; exact inferInstance; clear hM; intro ww hM; simp only [putT, List.set_cons_succ, List.set_cons_zero])))
                          go_roundw
                          case rel => exact ⟨j + 1, true, by omega, rfl, by go_num, hide (by rw [any_more (unhide HV), unhide hany2]; rfl), hM⟩
                          case measure => simp [intOf]; omega
                      · have hfull : h.lv.take j = h.lv := List.take_of_length_le (by rw [(unhide HHO).len]; omega)
                        have hb2 := unhide hany2
                        rw [hfull] at hb2
                        have HB2 := hide hb2
                        clear hfull hb2
                        go_wp2_with (first | ((with_reducible refine wl_shape ?_); first | (apply wl_boxa; exact rfl; exact hM; exact rfl; exact rfl; clear hM; intro gg ww hM; simp only [putT, List.set_cons_succ, List.set_cons_zero]) | (apply wl_alloc; exact rfl; exact hM; exact rfl; exact inferInstance; clear hM; intro gg ww hM; simp only [putT, List.set_cons_succ, List.set_cons_zero]) | (apply wl_ld; exact rfl; exact hM; exact rfl; exact rfl; exact inferInstance; exact inferInstance; simp only [putT, List.set_cons_succ, List.set_cons_zero]) | (apply wl_lda; exact rfl; exact hM; exact rfl; exact rfl; exact inferInstance; exact inferInstance; exact inferInstance; exact inferInstance; simp only [putT, List.set_cons_succ, List.set_cons_zero]) | (apply wl_ldr; exact rfl; exact hM; exact rfl; exact rfl; exact inferInstance; exact inferInstance; exact inferInstance; exact inferInstance; simp only [putT, List.set_cons_succ, List.set_cons_zero]) | (apply wl_sta; exact rfl; exact hM; exact rfl; exact rfl; exact rfl; exact all_oneCell_toArray One.out; exact inferInstance; exact inferInstance; exact inferInstance; clear hM; intro ww hM; simp only [putT, List.set_cons_succ, List.set_cons_zero])))
                        go_roundw
                        case rel => exact ⟨k + 1, b2, by omega, rfl, by go_num, hide (by rw [any_more (unhide HHK), ← Bool.or_assoc, unhide hany, unhide HB2]; rfl), hM⟩
                        case measure => simp [intOf]; omega
                  · exfalso
                    have h9 := unhide hany
                    rw [List.take_of_length_le (by rw [(unhide HH2).len]; omega)] at h9
                    have h8 : (goodOf ks u || heardB hs u) = true := unhide HB0
                    have h7 : (goodOf ks u || heardB hs u) = false := h9
                    rw [h7] at h8
                    cases h8
                · by_cases hkn : k < hn
                  · have f1 : decide ((k : Int) < (hn : Int)) = true := decide_eq_true (by omega)
                    have f2 : decide (k < hn) = true := decide_eq_true hkn
                    go_wp2_with (first | ((with_reducible refine wl_shape ?_); first | (apply wl_boxa; exact rfl; exact hM; exact rfl; exact rfl; clear hM; intro gg ww hM; simp only [putT, List.set_cons_succ, List.set_cons_zero]) | (apply wl_alloc; exact rfl; exact hM; exact rfl; exact inferInstance; clear hM; intro gg ww hM; simp only [putT, List.set_cons_succ, List.set_cons_zero]) | (apply wl_ld; exact rfl; exact hM; exact rfl; exact rfl; exact inferInstance; exact inferInstance; simp only [putT, List.set_cons_succ, List.set_cons_zero]) | (apply wl_lda; exact rfl; exact hM; exact rfl; exact rfl; exact inferInstance; exact inferInstance; exact inferInstance; exact inferInstance; simp only [putT, List.set_cons_succ, List.set_cons_zero]) | (apply wl_ldr; exact rfl; exact hM; exact rfl; exact rfl; exact inferInstance; exact inferInstance; exact inferInstance; exact inferInstance; simp only [putT, List.set_cons_succ, List.set_cons_zero]) | (apply wl_sta; exact rfl; exact hM; exact rfl; exact rfl; exact rfl; exact all_oneCell_toArray One.out; exact inferInstance; exact inferInstance; exact inferInstance; clear hM; intro ww hM; simp only [putT, List.set_cons_succ, List.set_cons_zero])) | (rw [f1]) | (rw [f2]))
                    go_roundw
                    case rel => exact ⟨i + 1, by omega, by go_num, hM.tail⟩
                    case measure => simp [intOf]; omega
                  · have f1 : decide ((k : Int) < (hn : Int)) = false := decide_eq_false (by omega)
                    have f2 : decide (k < hn) = false := decide_eq_false hkn
                    go_wp2_with (first | ((with_reducible refine wl_shape ?_); first | (apply wl_boxa; exact rfl; exact hM; exact rfl; exact rfl; clear hM; intro gg ww hM; simp only [putT, List.set_cons_succ, List.set_cons_zero]) | (apply wl_alloc; exact rfl; exact hM; exact rfl; exact inferInstance; clear hM; intro gg ww hM; simp only [putT, List.set_cons_succ, List.set_cons_zero]) | (apply wl_ld; exact rfl; exact hM; exact rfl; exact rfl; exact inferInstance; exact inferInstance; simp only [putT, List.set_cons_succ, List.set_cons_zero]) | (apply wl_lda; exact rfl; exact hM; exact rfl; exact rfl; exact inferInstance; exact inferInstance; exact inferInstance; exact inferInstance; simp only [putT, List.set_cons_succ, List.set_cons_zero]) | (apply wl_ldr; exact rfl; exact hM; exact rfl; exact rfl; exact inferInstance; exact inferInstance; exact inferInstance; exact inferInstance; simp only [putT, List.set_cons_succ, List.set_cons_zero]) | (apply wl_sta; exact rfl; exact hM; exact rfl; exact rfl; exact rfl; exact all_oneCell_toArray One.out; exact inferInstance; exact inferInstance; exact inferInstance; clear hM; intro ww hM; simp only [putT, List.set_cons_succ, List.set_cons_zero])) | (rw [f1]) | (rw [f2]))
                    go_roundw
                    case rel => exact ⟨i + 1, by omega, by go_num, hM.tail⟩
                    case measure => simp [intOf]; omega
            · have ef : (u.f == fr) = false := beq_eq_false_iff_ne.2 hf
              have HB0 : Hid ((false || heardB hs u) = true) := hide (by rcases unhide HVTU with ⟨h, _⟩ | h; exact absurd h hf; simp [h])
              clear hf HVTU
              go_wp2_with (first | ((with_reducible refine wl_shape ?_); first | (apply wl_boxa; exact rfl; exact hM; exact rfl; exact rfl; clear hM; intro gg ww hM; simp only [putT, List.set_cons_succ, List.set_cons_zero]) | (apply wl_alloc; exact rfl; exact hM; exact rfl; exact inferInstance; clear hM; intro gg ww hM; simp only [putT, List.set_cons_succ, List.set_cons_zero]) | (apply wl_ld; exact rfl; exact hM; exact rfl; exact rfl; exact inferInstance; exact inferInstance; simp only [putT, List.set_cons_succ, List.set_cons_zero]) | (apply wl_lda; exact rfl; exact hM; exact rfl; exact rfl; exact inferInstance; exact inferInstance; exact inferInstance; exact inferInstance; simp only [putT, List.set_cons_succ, List.set_cons_zero]) | (apply wl_ldr; exact rfl; exact hM; exact rfl; exact rfl; exact inferInstance; exact inferInstance; exact inferInstance; exact inferInstance; simp only [putT, List.set_cons_succ, List.set_cons_zero]) | (apply wl_sta; exact rfl; exact hM; exact rfl; exact rfl; exact rfl; exact all_oneCell_toArray One.out; exact inferInstance; exact inferInstance; exact inferInstance; clear hM; intro ww hM; simp only [putT, List.set_cons_succ, List.set_cons_zero])) | (rw [ef]))
              have HM := hide hM
              go_loopw [14, 15] (fun okv kv wr => ∃ (k : Nat) (b : Bool), k ≤ hn ∧ okv = .bool b ∧ kv = .int .i64 k ∧ Hid ((false || (hs.take k).any fun h => h.lv.any fun v => decide (v = u)) = b) ∧ Mem w1 noOwn wr [.blk gg 47 (vtc u).toArray, .row (.slice va1 x.val.length vc1) 5 1 x.val.length (x.val.map V8), .row (.slice (some ⟨gv, 0, none⟩) x.lv.length wc1) 47 68 x.lv.length (vCells x.lv), .blk g1 32 (msc (moMs x va1 vc1 (some ⟨gv, 0, none⟩) wc1)).toArray]) (fun _ kv _ => hn - (intOf kv).toNat)
              case atStart => exact ⟨0, false, Nat.zero_le _, rfl, by go_num, hide (by simp), hM⟩
              case round =>
                clear hM HM
                obtain ⟨k, b, hk, rfl, rfl, hany, hM⟩ := hrel
                cases b
                · by_cases hkn : k < hn
                  · have hkl : k < hs.length := by rw [(unhide HH2).len]; exact hkn
                    obtain ⟨b, off, hAe, d5, d6⟩ := (unhide HH2).olds k hkl
                    obtain ⟨h, hh⟩ : ∃ h, hs[k]? = some h := ⟨_, List.getElem?_eq_getElem hkl⟩
                    have hhe : hs[k] = h := (List.getElem?_eq_some_iff.1 hh).2
                    have hho : h.Ok w1 := by rw [← hhe]; exact (unhide HH2).ok _ (List.getElem_mem hkl)
                    rw [hhe] at d5 d6
                    obtain ⟨wa, hwa⟩ : ∃ wa, h.m.wa = wa := ⟨_, rfl⟩
                    have hrd := hho.rd
                    rw [hwa] at hrd d6
                    have HRD := hide hrd
                    have HHO := hide hho
                    have HHK := hide hh
                    have hwn : h.m.wn ≤ 400 := unhide HW4 h (List.mem_of_getElem? hh)
                    subst hAe
                    clear hh hhe hho hwa hrd hkl
                    go_wp2_with (first | ((with_reducible refine wl_shape ?_); first | (apply wl_boxa; exact rfl; exact hM; exact rfl; exact rfl; clear hM; intro gg ww hM; simp only [putT, List.set_cons_succ, List.set_cons_zero]) | (apply wl_alloc; exact rfl; exact hM; exact rfl; exact inferInstance; clear hM; intro gg ww hM; simp only [putT, List.set_cons_succ, List.set_cons_zero]) | (apply wl_ld; exact rfl; exact hM; exact rfl; exact rfl; exact inferInstance; exact inferInstance; simp only [putT, List.set_cons_succ, List.set_cons_zero]) | (apply wl_lda; exact rfl; exact hM; exact rfl; exact rfl; exact inferInstance; exact inferInstance; exact inferInstance; exact inferInstance; simp only [putT, List.set_cons_succ, List.set_cons_zero]) | (apply wl_ldr; exact rfl; exact hM; exact rfl; exact rfl; exact inferInstance; exact inferInstance; exact inferInstance; exact inferInstance; simp only [putT, List.set_cons_succ, List.set_cons_zero]) | (apply wl_sta; exact rfl; exact hM; exact rfl; exact rfl; exact rfl; exact all_oneCell_toArray One.out; exact inferInstance; exact inferInstance; exact inferInstance; clear hM; intro ww hM; simp only [putT, List.set_cons_succ, List.set_cons_zero])))
                    have HM := hide hM
                    go_loopw [14, 16] (fun okv jv wr => ∃ (j : Nat) (b : Bool), j ≤ h.m.wn ∧ okv = .bool b ∧ jv = .int .i64 j ∧ Hid ((h.lv.take j).any (fun v => decide (v = u)) = b) ∧ Mem w1 noOwn wr [.blk gg 47 (vtc u).toArray, .row (.slice va1 x.val.length vc1) 5 1 x.val.length (x.val.map V8), .row (.slice (some ⟨gv, 0, none⟩) x.lv.length wc1) 47 68 x.lv.length (vCells x.lv), .blk g1 32 (msc (moMs x va1 vc1 (some ⟨gv, 0, none⟩) wc1)).toArray]) (fun _ jv _ => h.m.wn - (intOf jv).toNat)
                    case atStart => exact ⟨0, false, Nat.zero_le _, rfl, by go_num, hide rfl, hM⟩
                    case round =>
                      clear hM HM
                      obtain ⟨j, b2, hj, rfl, rfl, hany2, hM⟩ := hrel
                      by_cases hjn : j < h.m.wn
                      · obtain ⟨v, hv⟩ : ∃ v, h.lv[j]? = some v := ⟨_, List.getElem?_eq_getElem (by rw [(unhide HHO).len]; exact hjn)⟩
                        obtain ⟨hjl, hve⟩ := List.getElem?_eq_some_iff.1 hv
                        have hvo : v.Ok := by rw [← hve]; exact (unhide HHO).ok _ (List.getElem_mem hjl)
                        cases b2
                        · obtain ⟨vb, voff, rfl, hvB, hrng⟩ := vote_range (unhide HRD) (unhide HHO).ok (unhide HHO).len j hjl
                          rw [hve] at hrng
                          have c3 : OldR w1 noOwn vb (voff + j * 68) (vtc v) := oldR_no hrng hvB
                          have z3 : SzL (vtc v) 68 := ⟨vtc_len hvo⟩
                          have HV := hide hv
                          clear hrng hve hv
                          go_wp2_with (first | ((with_reducible refine wl_shape ?_); first | (apply wl_boxa; exact rfl; exact hM; exact rfl; exact rfl; clear hM; intro gg ww hM; simp only [putT, List.set_cons_succ, List.set_cons_zero]) | (apply wl_alloc; exact rfl; exact hM; exact rfl; exact inferInstance; clear hM; intro gg ww hM; simp only [putT, List.set_cons_succ, List.set_cons_zero]) | (apply wl_ld; exact rfl; exact hM; exact rfl; exact rfl; exact inferInstance; exact inferInstance; simp only [putT, List.set_cons_succ, List.set_cons_zero]) | (apply wl_lda; exact rfl; exact hM; exact rfl; exact rfl; exact inferInstance; exact inferInstance; exact inferInstance; exact inferInstance; simp only [putT, List.set_cons_succ, List.set_cons_zero]) | (apply wl_ldr; exact rfl; exact hM; exact rfl; exact rfl; exact inferInstance; exact inferInstance; exact inferInstance; exact inferInstance; simp only [putT, List.set_cons_succ, List.set_cons_zero]) | (apply wl_sta; exact rfl; exact hM; exact rfl; exact rfl; exact rfl; exact all_oneCell_toArray One.out; exact inferInstance; exact inferInstance; exact inferInstance; clear hM; intro ww hM; simp only [putT, List.set_cons_succ, List.set_cons_zero])))
                          refine wp_region_mc [] [] [] hM (by kernel_rfl) (by kernel_rfl) (by kernel_rfl) (by kernel_rfl) ?_; simp only [initS, Act.put, List.setIfInBounds_toArray, List.set_cons_succ, List.set_cons_zero, List.map_cons, List.map_nil]
                          (repeat (first | (refine gw_at 11 ?_; refine gm_eqv2 v u hvo huo rfl rfl rfl rfl ?_; simp only [setD, List.set_cons_succ, List.set_cons_zero]) | (apply gm_move; (first | exact .inl rfl | exact .inr rfl); exact rfl; exact rfl; simp only [setD, List.set_cons_succ, List.set_cons_zero]) | (apply gm_ld; exact rfl; exact rfl; exact rfl; exact inferInstance; exact inferInstance; simp only [setD, List.set_cons_succ, List.set_cons_zero]) | (apply gm_lda; exact rfl; exact rfl; exact rfl; exact inferInstance; exact inferInstance; exact inferInstance; exact inferInstance; simp only [setD, List.set_cons_succ, List.set_cons_zero]) | (apply gm_ldr; exact rfl; exact rfl; exact rfl; exact inferInstance; exact inferInstance; exact inferInstance; exact inferInstance; simp only [setD, List.set_cons_succ, List.set_cons_zero]) | (apply gm_cmp true; exact rfl; exact rfl; exact rfl; exact rfl; (simp only [cmpB, Option.some.injEq, decide_eq_true_eq, ne_eq]; omega); simp only [setD, List.set_cons_succ, List.set_cons_zero]) | (apply gm_cmp false; exact rfl; exact rfl; exact rfl; exact rfl; (simp only [cmpB, Option.some.injEq, decide_eq_false_iff_not, ne_eq]; omega); simp only [setD, List.set_cons_succ, List.set_cons_zero]) | (apply gm_pick; exact rfl; exact rfl; exact rfl; exact rfl; exact rfl; simp only [setD, List.set_cons_succ, List.set_cons_zero, cond_true, cond_false]) | (apply gm_skip; exact rfl; simp only [setD, List.set_cons_succ, List.set_cons_zero]) | (apply gm_skipU; exact rfl; exact rfl; exact rfl; exact rfl; simp only [setD, List.set_cons_succ, List.set_cons_zero]) | (apply gm_moveP; (first | exact .inl rfl | exact .inr rfl); exact rfl; exact rfl; exact rfl; simp only [setD, List.set_cons_succ, List.set_cons_zero]) | (refine gw_isPure rfl ?_; apply gm_pure; exact rfl; intro K hK; go_simp; refine hK _ ?_; clear hK K; simp only [setD, List.set_cons_succ, List.set_cons_zero])))
                          refine gw_nil ?_; intro γ w4 hC' hk'; simp only [slAct, slVals, Slot.get]
                          clear hM
                          have hM : Mem w1 noOwn w4 _ := hC'
                          clear hC' hk'
                          go_wp2_with (first | ((with_reducible refine wl_shape ?_); first | (apply wl_boxa; exact rfl; exact hM; exact rfl; exact rfl; clear hM; intro gg ww hM; simp only [putT, List.set_cons_succ, List.set_cons_zero]) | (apply wl_alloc; exact rfl; exact hM; exact rfl; exact inferInstance; clear hM; intro gg ww hM; simp only [putT, List.set_cons_succ, List.set_cons_zero]) | (apply wl_ld; exact rfl; exact hM; exact rfl; exact rfl; exact inferInstance; exact inferInstance; simp only [putT, List.set_cons_succ, List.set_cons_zero]) | (apply wl_lda; exact rfl; exact hM; exact rfl; exact rfl; exact inferInstance; exact inferInstance; exact inferInstance; exact inferInstance; simp only [putT, List.set_cons_succ, List.set_cons_zero]) | (apply wl_ldr; exact rfl; exact hM; exact rfl; exact rfl; exact inferInstance; exact inferInstance; exact inferInstance; exact inferInstance; simp only [putT, List.set_cons_succ, List.set_cons_zero]) | (apply wl_sta; exact rfl; exact hM; exact rfl; exact rfl; exact rfl; exact all_oneCell_toArray One.out; exact inferInstance; exact inferInstance; exact inferInstance; clear hM; intro ww hM; simp only [putT, List.set_cons_succ, List.set_cons_zero])))
                          go_roundw
                          case rel => exact ⟨j + 1, decide (v = u), by omega, rfl, by go_num, hide (by rw [any_more (unhide HV), unhide hany2]; rfl), hM⟩
                          case measure => simp [intOf]; omega
                        · have HV := hide hv
                          clear hve hv
                          go_wp2_with (first | ((with_reducible refine wl_shape ?_); first | (apply wl_boxa; exact rfl; exact hM; exact rfl; exact rfl; clear hM; intro gg ww hM; simp only [putT, List.set_cons_succ, List.set_cons_zero]) | (apply wl_alloc; exact rfl; exact hM; exact rfl; exact inferInstance; clear hM; intro gg ww hM; simp only [putT, List.set_cons_succ, List.set_cons_zero]) | (apply wl_ld; exact rfl; exact hM; exact rfl; exact rfl; exact inferInstance; exact inferInstance; simp only [putT, List.set_cons_succ, List.set_cons_zero]) | (apply wl_lda; exact rfl; exact hM; exact rfl; exact rfl; exact inferInstance; exact inferInstance; exact inferInstance; exact inferInstance; simp only [putT, List.set_cons_succ, List.set_cons_zero]) | (apply wl_ldr; exact rfl; exact hM; exact rfl; exact rfl; exact inferInstance; exact inferInstance; exact inferInstance; exact inferInstance; simp only [putT, List.set_cons_succ, List.set_cons_zero]) | (apply wl_sta; exact rfl; exact hM; exact rfl; exact rfl; exact rfl; exact all_oneCell_toArray One.out; exact inferInstance; exact inferInstance; exact inferInstance; clear hM; intro ww hM; simp only [putT, List.set_cons_succ, List.set_cons_zero])))
                          refine wp_region_mc [] [] [] hM (by kernel_rfl) (by kernel_rfl) (by kernel_rfl) (by kernel_rfl) ?_; simp only [initS, Act.put, List.setIfInBounds_toArray, List.set_cons_succ, List.set_cons_zero, List.map_cons, List.map_nil]
                          (repeat (first | (apply gm_move; (first | exact .inl rfl | exact .inr rfl); exact rfl; exact rfl; simp only [setD, List.set_cons_succ, List.set_cons_zero]) | (apply gm_ld; exact rfl; exact rfl; exact rfl; exact inferInstance; exact inferInstance; simp only [setD, List.set_cons_succ, List.set_cons_zero]) | (apply gm_lda; exact rfl; exact rfl; exact rfl; exact inferInstance; exact inferInstance; exact inferInstance; exact inferInstance; simp only [setD, List.set_cons_succ, List.set_cons_zero]) | (apply gm_ldr; exact rfl; exact rfl; exact rfl; exact inferInstance; exact inferInstance; exact inferInstance; exact inferInstance; simp only [setD, List.set_cons_succ, List.set_cons_zero]) | (apply gm_cmp true; exact rfl; exact rfl; exact rfl; exact rfl; (simp only [cmpB, Option.some.injEq, decide_eq_true_eq, ne_eq]; omega); simp only [setD, List.set_cons_succ, List.set_cons_zero]) | (apply gm_cmp false; exact rfl; exact rfl; exact rfl; exact rfl; (simp only [cmpB, Option.some.injEq, decide_eq_false_iff_not, ne_eq]; omega); simp only [setD, List.set_cons_succ, List.set_cons_zero]) | (apply gm_pick; exact rfl; exact rfl; exact rfl; exact rfl; exact rfl; simp only [setD, List.set_cons_succ, List.set_cons_zero, cond_true, cond_false]) | (apply gm_skip; exact rfl; simp only [setD, List.set_cons_succ, List.set_cons_zero]) | (apply gm_skipU; exact rfl; exact rfl; exact rfl; exact rfl; simp only [setD, List.set_cons_succ, List.set_cons_zero]) | (apply gm_moveP; (first | exact .inl rfl | exact .inr rfl); exact rfl; exact rfl; exact rfl; simp only [setD, List.set_cons_succ, List.set_cons_zero]) | (refine gw_isPure rfl ?_; apply gm_pure; exact rfl; intro K hK; go_simp; refine hK _ ?_; clear hK K; simp only [setD, List.set_cons_succ, List.set_cons_zero])))
                          refine gw_nil ?_; intro γ w4 hC' hk'; simp only [slAct, slVals, Slot.get]
                          clear hM
                          have hM : Mem w1 noOwn w4 _ := hC'
                          clear hC' hk'
                          go_wp2_with (first | ((with_reducible refine wl_shape ?_); first | (apply wl_boxa; exact rfl; exact hM; exact rfl; exact rfl; clear hM; intro gg ww hM; simp only [putT, List.set_cons_succ, List.set_cons_zero]) | (apply wl_alloc; exact rfl; exact hM; exact rfl; exact inferInstance; clear hM; intro gg ww hM; simp only [putT, List.set_cons_succ, List.set_cons_zero]) | (apply wl_ld; exact rfl; exact hM; exact rfl; exact rfl; exact inferInstance; exact inferInstance; simp only [putT, List.set_cons_succ, List.set_cons_zero]) | (apply wl_lda; exact rfl; exact hM; exact rfl; exact rfl; exact inferInstance; exact inferInstance; exact inferInstance; exact inferInstance; simp only [putT, List.set_cons_succ, List.set_cons_zero]) | (apply wl_ldr; exact rfl; exact hM; exact rfl; exact rfl; exact inferInstance; exact inferInstance; exact inferInstance; exact inferInstance; simp only [putT, List.set_cons_succ, List.set_cons_zero]) | (apply wl_sta; exact rfl; exact hM; exact rfl; exact rfl; exact rfl; exact all_oneCell_toArray One.out; exact inferInstance; exact inferInstance; exact inferInstance; clear hM; intro ww hM; simp only [putT, List.set_cons_succ, List.set_cons_zero])))
                          go_roundw
                          case rel => exact ⟨j + 1, true, by omega, rfl, by go_num, hide (by rw [any_more (unhide HV), unhide hany2]; rfl), hM⟩
                          case measure => simp [intOf]; omega
                      · have hfull : h.lv.take j = h.lv := List.take_of_length_le (by rw [(unhide HHO).len]; omega)
                        have hb2 := unhide hany2
                        rw [hfull] at hb2
                        have HB2 := hide hb2
                        clear hfull hb2
                        go_wp2_with (first | ((with_reducible refine wl_shape ?_); first | (apply wl_boxa; exact rfl; exact hM; exact rfl; exact rfl; clear hM; intro gg ww hM; simp only [putT, List.set_cons_succ, List.set_cons_zero]) | (apply wl_alloc; exact rfl; exact hM; exact rfl; exact inferInstance; clear hM; intro gg ww hM; simp only [putT, List.set_cons_succ, List.set_cons_zero]) | (apply wl_ld; exact rfl; exact hM; exact rfl; exact rfl; exact inferInstance; exact inferInstance; simp only [putT, List.set_cons_succ, List.set_cons_zero]) | (apply wl_lda; exact rfl; exact hM; exact rfl; exact rfl; exact inferInstance; exact inferInstance; exact inferInstance; exact inferInstance; simp only [putT, List.set_cons_succ, List.set_cons_zero]) | (apply wl_ldr; exact rfl; exact hM; exact rfl; exact rfl; exact inferInstance; exact inferInstance; exact inferInstance; exact inferInstance; simp only [putT, List.set_cons_succ, List.set_cons_zero]) | (apply wl_sta; exact rfl; exact hM; exact rfl; exact rfl; exact rfl; exact all_oneCell_toArray One.out; exact inferInstance; exact inferInstance; exact inferInstance; clear hM; intro ww hM; simp only [putT, List.set_cons_succ, List.set_cons_zero])))
                        go_roundw
                        case rel => exact ⟨k + 1, b2, by omega, rfl, by go_num, hide (by rw [any_more (unhide HHK), ← Bool.or_assoc, unhide hany, unhide HB2]; rfl), hM⟩
                        case measure => simp [intOf]; omega
                  · exfalso
                    have h9 := unhide hany
                    rw [List.take_of_length_le (by rw [(unhide HH2).len]; omega)] at h9
                    have h8 : (false || heardB hs u) = true := unhide HB0
                    have h7 : (false || heardB hs u) = false := h9
                    rw [h7] at h8
                    cases h8
                · by_cases hkn : k < hn
                  · have f1 : decide ((k : Int) < (hn : Int)) = true := decide_eq_true (by omega)
                    have f2 : decide (k < hn) = true := decide_eq_true hkn
                    go_wp2_with (first | ((with_reducible refine wl_shape ?_); first | (apply wl_boxa; exact rfl; exact hM; exact rfl; exact rfl; clear hM; intro gg ww hM; simp only [putT, List.set_cons_succ, List.set_cons_zero]) | (apply wl_alloc; exact rfl; exact hM; exact rfl; exact inferInstance; clear hM; intro gg ww hM; simp only [putT, List.set_cons_succ, List.set_cons_zero]) | (apply wl_ld; exact rfl; exact hM; exact rfl; exact rfl; exact inferInstance; exact inferInstance; simp only [putT, List.set_cons_succ, List.set_cons_zero]) | (apply wl_lda; exact rfl; exact hM; exact rfl; exact rfl; exact inferInstance; exact inferInstance; exact inferInstance; exact inferInstance; simp only [putT, List.set_cons_succ, List.set_cons_zero]) | (apply wl_ldr; exact rfl; exact hM; exact rfl; exact rfl; exact inferInstance; exact inferInstance; exact inferInstance; exact inferInstance; simp only [putT, List.set_cons_succ, List.set_cons_zero]) | (apply wl_sta; exact rfl; exact hM; exact rfl; exact rfl; exact rfl; exact all_oneCell_toArray One.out; exact inferInstance; exact inferInstance; exact inferInstance; clear hM; intro ww hM; simp only [putT, List.set_cons_succ, List.set_cons_zero])) | (rw [f1]) | (rw [f2]))
                    go_roundw
                    case rel => exact ⟨i + 1, by omega, by go_num, hM.tail⟩
                    case measure => simp [intOf]; omega
                  · have f1 : decide ((k : Int) < (hn : Int)) = false := decide_eq_false (by omega)
                    have f2 : decide (k < hn) = false := decide_eq_false hkn
                    go_wp2_with (first | ((with_reducible refine wl_shape ?_); first | (apply wl_boxa; exact rfl; exact hM; exact rfl; exact rfl; clear hM; intro gg ww hM; simp only [putT, List.set_cons_succ, List.set_cons_zero]) | (apply wl_alloc; exact rfl; exact hM; exact rfl; exact inferInstance; clear hM; intro gg ww hM; simp only [putT, List.set_cons_succ, List.set_cons_zero]) | (apply wl_ld; exact rfl; exact hM; exact rfl; exact rfl; exact inferInstance; exact inferInstance; simp only [putT, List.set_cons_succ, List.set_cons_zero]) | (apply wl_lda; exact rfl; exact hM; exact rfl; exact rfl; exact inferInstance; exact inferInstance; exact inferInstance; exact inferInstance; simp only [putT, List.set_cons_succ, List.set_cons_zero]) | (apply wl_ldr; exact rfl; exact hM; exact rfl; exact rfl; exact inferInstance; exact inferInstance; exact inferInstance; exact inferInstance; simp only [putT, List.set_cons_succ, List.set_cons_zero]) | (apply wl_sta; exact rfl; exact hM; exact rfl; exact rfl; exact rfl; exact all_oneCell_toArray One.out; exact inferInstance; exact inferInstance; exact inferInstance; clear hM; intro ww hM; simp only [putT, List.set_cons_succ, List.set_cons_zero])) | (rw [f1]) | (rw [f2]))
                    go_roundw
                    case rel => exact ⟨i + 1, by omega, by go_num, hM.tail⟩
                    case measure => simp [intOf]; omega
          · have ztl : SzL (x.tag.map V8) 32 := ⟨by simpa using htl⟩
            have hta : ∀ (va : Option Addr) (vc : Nat) (wa : Option Addr) (wc : Nat) (L : List Item) (g : Nat) [HasBlk L g 32 (msc (moMs x va vc wa wc)).toArray], Rng w1 noOwn L g 7 (x.tag.map V8) := fun va vc wa wc L g hh => ⟨fun w' hM' j v hj => by
              rw [Blk.cell (hM'.has _ hh.out)]
              simpa [msc, moMs, Nat.add_comm 7 j] using hj⟩
            have hbl : ∀ va vc wa wc, (bodyB (moMs x va vc wa wc) x.val x.lv).length ≤ 3000000 := fun va vc wa wc => by
              have q1 := rowB_len x.lv (unhide HLV)
              have q2 : (numsB [4, x.k, x.f, x.s, x.v]).length ≤ 45 := numsB_len _
              have q3 : (numsB [(x.val.length : Int)]).length ≤ 9 := numsB_len _
              show (numsB [4, x.k, x.f, x.s, x.v] ++ (numsB [(x.val.length : Int)] ++ x.val) ++ rowB x.lv).length ≤ 3000000
              rw [List.length_append, List.length_append, List.length_append]
              omega
            have hbl1 := hbl va1 vc1 wa1 wc1
            have hck1 := unhide HCK va1 vc1 wa1 wc1
            obtain ⟨bb, hbbe⟩ : ∃ bb, bb = bodyB (moMs x va1 vc1 wa1 wc1) x.val x.lv := ⟨_, rfl⟩
            rw [← hbbe] at hbl1 hck1
            have HCK1 := hide hck1
            have HBBE := hide hbbe
            have hxv2 : x.val.length ≤ 1000000 := by omega
            clear hbl hck1 hbbe
            go_wp2_with (first | ((with_reducible refine wl_shape ?_); first | (apply wl_boxa; exact rfl; exact hM; exact rfl; exact rfl; clear hM; intro gg ww hM; simp only [putT, List.set_cons_succ, List.set_cons_zero]) | (apply wl_alloc; exact rfl; exact hM; exact rfl; exact inferInstance; clear hM; intro gg ww hM; simp only [putT, List.set_cons_succ, List.set_cons_zero]) | (apply wl_ld; exact rfl; exact hM; exact rfl; exact rfl; exact inferInstance; exact inferInstance; simp only [putT, List.set_cons_succ, List.set_cons_zero]) | (apply wl_lda; exact rfl; exact hM; exact rfl; exact rfl; exact inferInstance; exact inferInstance; exact inferInstance; exact inferInstance; simp only [putT, List.set_cons_succ, List.set_cons_zero]) | (apply wl_ldr; exact rfl; exact hM; exact rfl; exact rfl; exact inferInstance; exact inferInstance; exact inferInstance; exact inferInstance; simp only [putT, List.set_cons_succ, List.set_cons_zero]) | (apply wl_sta; exact rfl; exact hM; exact rfl; exact rfl; exact rfl; exact all_oneCell_toArray One.out; exact inferInstance; exact inferInstance; exact inferInstance; clear hM; intro ww hM; simp only [putT, List.set_cons_succ, List.set_cons_zero])))
            refine wp_region_mc [8, 11, 14] [8] [] hM (by kernel_rfl) (by kernel_rfl) (by kernel_rfl) (by kernel_rfl) ?_; simp only [initS, Act.put, List.setIfInBounds_toArray, List.set_cons_succ, List.set_cons_zero, List.map_cons, List.map_nil]
            (repeat (first
              | (refine gw_at 8 ?_; (refine gm_wp (RowM 5 1 bb.length (bb.map V8)) rfl (by decide) (by decide) rfl (by simp) (fun γ w' hC hP => ?_) ?_; (focus (simp only [slAct, slVals, Slot.get]; go_wp2_with (first | (go_at_call 24; refine (RBody_any hC (moMs x va1 vc1 wa1 wc1) x.val x.lv (unhide HLV) rfl (Nat.le_trans (show x.lv.length ≤ 10 from hlv10) (by decide)) rfl hxv2 htl (fun w2 h2 => Reads.of_own (h2.row 0 rfl)) (fun w2 h2 => Reads.of_own (h2.row 1 rfl))).mono ?_; rw [← unhide HBBE]; rintro e1 w9 ⟨A9, c9, rfl, hM9⟩)); exact ⟨hM9.tail, A9, c9, rfl, hM9⟩)); simp only [setD, List.set_cons_succ, List.set_cons_zero]))
              | (refine gw_at 11 ?_; (refine gm_wpV (.bool true) rfl (by decide) rfl (by simp) (fun γ w' hC hP => ?_) ?_; (focus (simp only [slAct, slVals, Slot.get]; obtain ⟨A9, c9, e9, hM9⟩ := hP 121 (RowM 5 1 bb.length (bb.map V8) _ _ _) rfl rfl; rw [e9]; go_wp2_with (first | (go_at_call 23; refine (RCheck_any _ g2 c2 _ _ A2 _ ks fr bb x.tag ((unhide hrx).grow hC.grow) (Reads.of_own (hM9.row 0 rfl)) (by omega) htl).mono ?_; rw [unhide HCK1]; rintro e1 w9 ⟨rfl, hg⟩)); (first | exact ⟨hC.call hg, rfl⟩ | exact hC.call hg))); simp only [setD, List.set_cons_succ, List.set_cons_zero]))
              | (refine gw_at 14 ?_; (refine gm_wpV (.bool true) rfl (by decide) rfl (by simp) (fun γ w' hC hP => ?_) ?_; (focus (simp only [slAct, slVals, Slot.get]; go_wp2_with (first | (go_at_call 21; refine (known17_any _).mono ?_; rintro e1 w9 ⟨rfl, hg⟩)); (first | exact ⟨hC.call hg, rfl⟩ | exact hC.call hg))); simp only [setD, List.set_cons_succ, List.set_cons_zero]))
              | (apply gm_move; (first | exact .inl rfl | exact .inr rfl); exact rfl; exact rfl; simp only [setD, List.set_cons_succ, List.set_cons_zero]) | (apply gm_ld; exact rfl; exact rfl; exact rfl; exact inferInstance; exact inferInstance; simp only [setD, List.set_cons_succ, List.set_cons_zero]) | (apply gm_lda; exact rfl; exact rfl; exact rfl; exact inferInstance; exact inferInstance; exact inferInstance; exact inferInstance; simp only [setD, List.set_cons_succ, List.set_cons_zero]) | (apply gm_ldr; exact rfl; exact rfl; exact rfl; exact inferInstance; exact inferInstance; exact inferInstance; exact inferInstance; simp only [setD, List.set_cons_succ, List.set_cons_zero]) | (apply gm_cmp true; exact rfl; exact rfl; exact rfl; exact rfl; (simp only [cmpB, Option.some.injEq, decide_eq_true_eq, ne_eq]; omega); simp only [setD, List.set_cons_succ, List.set_cons_zero]) | (apply gm_cmp false; exact rfl; exact rfl; exact rfl; exact rfl; (simp only [cmpB, Option.some.injEq, decide_eq_false_iff_not, ne_eq]; omega); simp only [setD, List.set_cons_succ, List.set_cons_zero]) | (apply gm_pick; exact rfl; exact rfl; exact rfl; exact rfl; exact rfl; simp only [setD, List.set_cons_succ, List.set_cons_zero, cond_true, cond_false]) | (apply gm_skip; exact rfl; simp only [setD, List.set_cons_succ, List.set_cons_zero]) | (apply gm_skipU; exact rfl; exact rfl; exact rfl; exact rfl; simp only [setD, List.set_cons_succ, List.set_cons_zero]) | (apply gm_moveP; (first | exact .inl rfl | exact .inr rfl); exact rfl; exact rfl; exact rfl; simp only [setD, List.set_cons_succ, List.set_cons_zero]) | (refine gw_isPure rfl ?_; apply gm_pure; exact rfl; intro K hK; go_simp; refine hK _ ?_; clear hK K; simp only [setD, List.set_cons_succ, List.set_cons_zero])))
            refine gw_nil ?_; intro γ w4 hC' hk'; simp only [slAct, slVals, Slot.get]
            clear hM
            have hM : Mem w1 noOwn w4 _ := hC'
            clear hC' hk'
            go_wp2_with (first | ((with_reducible refine wl_shape ?_); first | (apply wl_boxa; exact rfl; exact hM; exact rfl; exact rfl; clear hM; intro gg ww hM; simp only [putT, List.set_cons_succ, List.set_cons_zero]) | (apply wl_alloc; exact rfl; exact hM; exact rfl; exact inferInstance; clear hM; intro gg ww hM; simp only [putT, List.set_cons_succ, List.set_cons_zero]) | (apply wl_ld; exact rfl; exact hM; exact rfl; exact rfl; exact inferInstance; exact inferInstance; simp only [putT, List.set_cons_succ, List.set_cons_zero]) | (apply wl_lda; exact rfl; exact hM; exact rfl; exact rfl; exact inferInstance; exact inferInstance; exact inferInstance; exact inferInstance; simp only [putT, List.set_cons_succ, List.set_cons_zero]) | (apply wl_ldr; exact rfl; exact hM; exact rfl; exact rfl; exact inferInstance; exact inferInstance; exact inferInstance; exact inferInstance; simp only [putT, List.set_cons_succ, List.set_cons_zero]) | (apply wl_sta; exact rfl; exact hM; exact rfl; exact rfl; exact rfl; exact all_oneCell_toArray One.out; exact inferInstance; exact inferInstance; exact inferInstance; clear hM; intro ww hM; simp only [putT, List.set_cons_succ, List.set_cons_zero])))
            go_ret
            exact ⟨rfl, hg0.then_ hM.grow⟩
      · rw [h1]
        have H1 := hide h1
        clear h1
        go_wp2_with (first
          | ((with_reducible refine wl_shape ?_); first | (apply wl_boxa; exact rfl; exact hM; exact rfl; exact rfl; clear hM; intro gg ww hM; simp only [putT, List.set_cons_succ, List.set_cons_zero]) | (apply wl_alloc; exact rfl; exact hM; exact rfl; exact inferInstance; clear hM; intro gg ww hM; simp only [putT, List.set_cons_succ, List.set_cons_zero]) | (apply wl_ld; exact rfl; exact hM; exact rfl; exact rfl; exact inferInstance; exact inferInstance; simp only [putT, List.set_cons_succ, List.set_cons_zero]) | (apply wl_lda; exact rfl; exact hM; exact rfl; exact rfl; exact inferInstance; exact inferInstance; exact inferInstance; exact inferInstance; simp only [putT, List.set_cons_succ, List.set_cons_zero]) | (apply wl_ldr; exact rfl; exact hM; exact rfl; exact rfl; exact inferInstance; exact inferInstance; exact inferInstance; exact inferInstance; simp only [putT, List.set_cons_succ, List.set_cons_zero]) | (apply wl_sta; exact rfl; exact hM; exact rfl; exact rfl; exact rfl; exact all_oneCell_toArray One.out; exact inferInstance; exact inferInstance; exact inferInstance; clear hM; intro ww hM; simp only [putT, List.set_cons_succ, List.set_cons_zero]))
          | (go_at_call 18; refine (RMake_any _ g2 c2 hn hc A2 hA ks fr l val ((unhide hrx).grow hM.grow) (by rw [unhide HK4]; decide) (bytesUp hby2 hM.grow) hvc (by omega) hs us ((unhide HH2).up hM.grow) (hU2.up hM.grow) (unhide HUL) (by omega) (fun h hh => by have := unhide HW4 h hh; omega)).mono ?_; rw [← unhide HX]; rintro e1 w3 ⟨va3, vc3, wa3, wc3, rfl, hM1⟩; rw [unhide H1]; replace hM := hM.call hM1.grow; clear hM1)
          | (go_at_call 21; refine (known17_any _).mono ?_; rintro e1 w9 ⟨rfl, hg⟩; replace hM := hM.call hg; clear hg))
        go_ret
        exact ⟨rfl, hg0.then_ hM.grow⟩
    · go_ret
      exact ⟨rfl, hM.grow⟩
  · by_cases h2 : l.vn ≤ 500
    · have e1 : decide ((500 : Int) < (l.vn : Int)) = false := decide_eq_false (by omega)
      have e2 : decide ((40 : Int) < (l.un : Int)) = true := decide_eq_true (by omega)
      have e3 : decide (500 < l.vn) = false := decide_eq_false (by omega)
      have e4 : decide (40 < l.un) = true := decide_eq_true (by omega)
      clear h1
      go_enter Try.func4, Try.ntmps4
      go_wp2_with (first | ((with_reducible refine wl_shape ?_); first | (apply wl_boxa; exact rfl; exact hM; exact rfl; exact rfl; clear hM; intro gg ww hM; simp only [putT, List.set_cons_succ, List.set_cons_zero]) | (apply wl_alloc; exact rfl; exact hM; exact rfl; exact inferInstance; clear hM; intro gg ww hM; simp only [putT, List.set_cons_succ, List.set_cons_zero]) | (apply wl_ld; exact rfl; exact hM; exact rfl; exact rfl; exact inferInstance; exact inferInstance; simp only [putT, List.set_cons_succ, List.set_cons_zero]) | (apply wl_lda; exact rfl; exact hM; exact rfl; exact rfl; exact inferInstance; exact inferInstance; exact inferInstance; exact inferInstance; simp only [putT, List.set_cons_succ, List.set_cons_zero]) | (apply wl_ldr; exact rfl; exact hM; exact rfl; exact rfl; exact inferInstance; exact inferInstance; exact inferInstance; exact inferInstance; simp only [putT, List.set_cons_succ, List.set_cons_zero]) | (apply wl_sta; exact rfl; exact hM; exact rfl; exact rfl; exact rfl; exact all_oneCell_toArray One.out; exact inferInstance; exact inferInstance; exact inferInstance; clear hM; intro ww hM; simp only [putT, List.set_cons_succ, List.set_cons_zero])) | (rw [e1]) | (rw [e2]) | (rw [e3]) | (rw [e4]) | (refine wpList_build_to rfl 30 #[(0, .const (.int .u8 1))] rfl (Go.Proofs.Ytgdfdombcngpnaa.hv (seed1 1#8)) (by kernel_rfl) ?_) | (go_at_call 19; refine (RNew_any _ 4 (seed1 1#8) rfl).mono ?_; rintro e w1 ⟨⟨p, rfl, g2, A2, c2, rfl, hr0⟩, hg⟩; rw [cnt4, ← unhide HKS] at hr0; replace hM := hM.call hg; have zl7 : SzL (lic l) 7 := ⟨rfl⟩; have o5 : OldR w1 noOwn gg 0 (lic l) := oldR_no (blk_range2 (hM.blk 0 rfl)) (hM.lt 0 rfl rfl); have hby2 := bytesUp hby hM.grow; have hU2 := hU.up hM.grow; have HH2 := hide ((unhide HHH).up hM.grow); have hg0 := hM.grow; clear hM; have hM := Mem.nil w1 noOwn; have hrx := hide hr0; clear hr0 hg) | (go_at_call 15; refine (long17_any _ hA hn hc hs ((unhide HHH).up hM.grow) hnn (unhide HBB)).mono ?_; rintro e1 w1 ⟨b, rfl, hlo, hg⟩; replace hM := hM.call hg; clear hg; cases b))
      all_goals
        go_ret
        exact ⟨rfl, hM.grow⟩
    · have e1 : decide ((500 : Int) < (l.vn : Int)) = true := decide_eq_true (by omega)
      have e3 : decide (500 < l.vn) = true := decide_eq_true (by omega)
      clear h1
      go_enter Try.func4, Try.ntmps4
      go_wp2_with (first | ((with_reducible refine wl_shape ?_); first | (apply wl_boxa; exact rfl; exact hM; exact rfl; exact rfl; clear hM; intro gg ww hM; simp only [putT, List.set_cons_succ, List.set_cons_zero]) | (apply wl_alloc; exact rfl; exact hM; exact rfl; exact inferInstance; clear hM; intro gg ww hM; simp only [putT, List.set_cons_succ, List.set_cons_zero]) | (apply wl_ld; exact rfl; exact hM; exact rfl; exact rfl; exact inferInstance; exact inferInstance; simp only [putT, List.set_cons_succ, List.set_cons_zero]) | (apply wl_lda; exact rfl; exact hM; exact rfl; exact rfl; exact inferInstance; exact inferInstance; exact inferInstance; exact inferInstance; simp only [putT, List.set_cons_succ, List.set_cons_zero]) | (apply wl_ldr; exact rfl; exact hM; exact rfl; exact rfl; exact inferInstance; exact inferInstance; exact inferInstance; exact inferInstance; simp only [putT, List.set_cons_succ, List.set_cons_zero]) | (apply wl_sta; exact rfl; exact hM; exact rfl; exact rfl; exact rfl; exact all_oneCell_toArray One.out; exact inferInstance; exact inferInstance; exact inferInstance; clear hM; intro ww hM; simp only [putT, List.set_cons_succ, List.set_cons_zero])) | (rw [e1]) | (rw [e2]) | (rw [e3]) | (rw [e4]) | (refine wpList_build_to rfl 30 #[(0, .const (.int .u8 1))] rfl (Go.Proofs.Ytgdfdombcngpnaa.hv (seed1 1#8)) (by kernel_rfl) ?_) | (go_at_call 19; refine (RNew_any _ 4 (seed1 1#8) rfl).mono ?_; rintro e w1 ⟨⟨p, rfl, g2, A2, c2, rfl, hr0⟩, hg⟩; rw [cnt4, ← unhide HKS] at hr0; replace hM := hM.call hg; have zl7 : SzL (lic l) 7 := ⟨rfl⟩; have o5 : OldR w1 noOwn gg 0 (lic l) := oldR_no (blk_range2 (hM.blk 0 rfl)) (hM.lt 0 rfl rfl); have hby2 := bytesUp hby hM.grow; have hU2 := hU.up hM.grow; have HH2 := hide ((unhide HHH).up hM.grow); have hg0 := hM.grow; clear hM; have hM := Mem.nil w1 noOwn; have hrx := hide hr0; clear hr0 hg) | (go_at_call 15; refine (long17_any _ hA hn hc hs ((unhide HHH).up hM.grow) hnn (unhide HBB)).mono ?_; rintro e1 w1 ⟨b, rfl, hlo, hg⟩; replace hM := hM.call hg; clear hg; cases b))
      all_goals
        go_ret
        exact ⟨rfl, hM.grow⟩
end Go.Proofs.Ytgdfdombcngpnaa
