/- fault's law: FaultMakes. -/
import Derived.Test.YtgdfdombcngpnaaFltO
import Derived.Test.YtgdfdombcngpnaaFJ4
import Derived.Test.YtgdfdombcngpnaaTail2
namespace Go.Proofs.Ytgdfdombcngpnaa
open Go.RowKit Go.MapKept
set_option linter.unusedSimpArgs false
set_option linter.unusedVariables false
/-- A ring; a message with the error; a message. -/
def RingV (T : TypeId) (ks : List (List (BitVec 8))) (B : Nat) (v : Value) (w : World) : Prop := ∃ g A c, v = .pointer (some ⟨g, 0, none⟩) ∧ RingIs w g A c T ks
theorem RingV.grow {T : TypeId} {ks : List (List (BitVec 8))} {B : Nat} (v : Value) (w w' : World) (hg : Grow w noOwn w') (h : RingV T ks B v w) : RingV T ks B v w' := by
  obtain ⟨g, A, c, e, hr⟩ := h
  exact ⟨g, A, c, e, hr.grow hg⟩
def MsgRows (x : Mo) (va : Option Addr) (vc : Nat) (wa : Option Addr) (wc : Nat) : List Item := [.row (.slice va x.val.length vc) 5 1 x.val.length (x.val.map V8), .row (.slice wa x.lv.length wc) 47 68 x.lv.length (vCells x.lv)]
def FMsg (x : Mo) (B : Nat) (v : Value) (w : World) : Prop := ∃ va vc wa wc W0, v = .tuple #[.agg (msc (moMs x va vc wa wc)).toArray, .int .i64 x.err] ∧ B ≤ W0.heap.size ∧ Mem W0 noOwn w (MsgRows x va vc wa wc)
def FAggM (x : Mo) (B : Nat) (v : Value) (w : World) : Prop := ∃ va vc wa wc W0, v = .agg (msc (moMs x va vc wa wc)).toArray ∧ B ≤ W0.heap.size ∧ Mem W0 noOwn w (MsgRows x va vc wa wc)
theorem FMsg.grow {x : Mo} {B : Nat} (v : Value) (w w' : World) (hg : Grow w noOwn w') (h : FMsg x B v w) : FMsg x B v w' := by
  obtain ⟨va, vc, wa, wc, W0, e, hB, hM⟩ := h
  exact ⟨va, vc, wa, wc, W0, e, hB, hM.call hg⟩
theorem FAggM.grow {x : Mo} {B : Nat} (v : Value) (w w' : World) (hg : Grow w noOwn w') (h : FAggM x B v w) : FAggM x B v w' := by
  obtain ⟨va, vc, wa, wc, W0, e, hB, hM⟩ := h
  exact ⟨va, vc, wa, wc, W0, e, hB, hM.call hg⟩
theorem FMsg.agg {x : Mo} {B : Nat} (v : Value) (w : World) (h : FMsg x B v w) : ∃ ts u, v = .tuple ts ∧ ts[0]? = some u ∧ FAggM x B u w := by
  obtain ⟨va, vc, wa, wc, W0, e, hB, hM⟩ := h
  exact ⟨_, _, e, rfl, va, vc, wa, wc, W0, rfl, hB, hM⟩
theorem FMsg.err {x : Mo} {B : Nat} (v : Value) (w : World) (h : FMsg x B v w) : ∃ ts, v = .tuple ts ∧ ts[1]? = some (.int .i64 x.err) := by
  obtain ⟨va, vc, wa, wc, W0, e, hB, hM⟩ := h
  exact ⟨_, e, rfl⟩
theorem Mem.consNew {w0 w : World} {own : Nat → Prop} {L : List Item} {x : Item} (h : Mem w0 own w L) (hx : x.at_ w) (hn : ∀ y ∈ L, ∀ g, x.foot g → ¬ y.foot g) (hm : ∀ g, x.foot g → w0.heap.size ≤ g) : Mem w0 own w (x :: L) := by
  refine ⟨h.grow, fun z hz => ?_, List.pairwise_cons.2 ⟨hn, h.apart⟩, fun z hz g e => ?_⟩
  · rcases List.mem_cons.1 hz with rfl | hz
    · exact hx
    · exact h.has z hz
  · rcases List.mem_cons.1 hz with rfl | hz
    · exact .inr (hm g e)
    · exact h.mine z hz g e
theorem cm_msg {w0 w W0 : World} {own : Nat → Prop} {L : List Item} {B g n1 n2 s1 s2 : Nat} {t e1 e2 : TypeId} {v1 v2 : Value} {x1 x2 : List Value} {cs : Array Value} (hC : CM w0 own L B w) (hM : Mem W0 noOwn w [.row v1 e1 s1 n1 x1, .row v2 e2 s2 n2 x2]) (hB : B ≤ W0.heap.size) (hb : Fresh B (.blk g t cs) w) (h1 : e1 ≠ t) (h2 : e2 ≠ t) :
    Mem w0 own w (.row v1 e1 s1 n1 x1 :: .row v2 e2 s2 n2 x2 :: .blk g t cs :: L) := by
  have f1 := hM.fresh (w := W0) (B := W0.heap.size) (Nat.le_refl _) 0 rfl
  have f2 := hM.fresh (w := W0) (B := W0.heap.size) (Nat.le_refl _) 1 rfl
  have hb1 := cm_fresh hC hb
  have hw0 := hC.2.2.1
  have h3 := hb1.consNew f2.1 (fun y hy g' e3 e4 => by
    rcases List.mem_cons.1 hy with rfl | hy
    · exact row_apart f2.1 hb.1 h2 g' e3 e4
    · have := f2.2 g' e3
      have := hC.2.2.2 y hy g' e4
      omega) (fun g' e3 => by have := f2.2 g' e3; omega)
  refine h3.consNew f1.1 (fun y hy g' e3 e4 => ?_) (fun g' e3 => by have := f1.2 g' e3; omega)
  rcases List.mem_cons.1 hy with rfl | hy
  · exact hM.ne 0 1 rfl rfl (by decide) e3 e4
  · rcases List.mem_cons.1 hy with rfl | hy
    · exact row_apart f1.1 hb.1 h1 g' e3 e4
    · have := f1.2 g' e3
      have := hC.2.2.2 y hy g' e4
      omega
theorem wp_assignL {P : Program} {T0 : List Value} {d0 : List Deferred} {o : Oper} {w : World} {K : Act → World → Prop} {Q : Exit → Act → World → Prop} {x : Operand} (ho : o.op = .move x ∨ o.op = .assign x) {v : Value} (hx : ev T0 x = some v) (h : K ⟨(putT T0 o.dst v).toArray, d0⟩ w) : o.wp P ⟨T0.toArray, d0⟩ w K Q := by
  have hr : (execOp (⟨T0.toArray, d0⟩ : Act).eval o).run P w = .ok (.value v) w := by
    unfold execOp
    rcases ho with ho | ho <;> simp only [ho, ev_of hx, Sem.run_pure]
  unfold Oper.wp
  rw [hr]
  show K (Act.put ⟨T0.toArray, d0⟩ o.dst v) w
  rw [put_of]
  exact h
attribute [local irreducible] wpList Code.wp GW Calls
set_option maxRecDepth 100000 in
set_option maxHeartbeats 4000000 in
theorem FaultMakes_any (w : World) (fr : Int) (l : Li) (val : List (BitVec 8)) (us : List Int) (hn hc : Nat) (hA : Option Addr) (hs : List Hd) (hby : Bytes w w.heap.size l.va l.vn val) (hvc : l.vn ≤ l.vc) (hU : Reads w w.heap.size 1 l.ua l.un (us.map (Value.int .i64))) (hul : us.length = l.un)
    (hH : HeardR w hA hn hs) (hnn : hn ≤ 140737488351232) (hbb : ∀ x ∈ hs, x.m.vn ≤ 140737488351232 ∧ x.m.wn ≤ 140737488351232) :
    Calls Try.prog 3 #[.int .i64 fr, .agg (lic l).toArray, .slice hA hn hc] w fun e w' => e = .returned (.bool true) ∧ Grow w noOwn w' := by
  have hM := Mem.nil w noOwn
  obtain ⟨ks, hks⟩ : ∃ ks, ks = keysOf (seed1 1#8) 4 := ⟨_, rfl⟩
  have hk4 : ks.length = 4 := by rw [hks]; exact keysOf_length ..
  obtain ⟨x, hx⟩ : ∃ x, x = makeOf ks fr l val hs us := ⟨_, rfl⟩
  have htl : x.tag.length = 32 := by
    rw [hx]; unfold makeOf; split
    · exact sealOf_length _ _ _
    · rfl
  have hlv : ∀ u ∈ x.lv, u.Ok := by
    rw [hx]; unfold makeOf; split
    · exact liVotes_ok hH
    · intro u hu; cases hu
  have hlv10 : x.lv.length ≤ 10 := by
    rw [hx]; unfold makeOf; split
    · exact liVotes_len ..
    · exact Nat.zero_le _
  have zm : ∀ (va : Option Addr) (vc : Nat) (wa : Option Addr) (wc : Nat), SzA (msc (moMs x va vc wa wc)).toArray 39 := fun _ _ _ _ => ⟨by simp [msc, moMs, htl]⟩
  have z0 : SzA (msc (moMs noMo none 0 none 0)).toArray 39 := ⟨rfl⟩
  have HX := hide hx
  have HKS := hide hks
  have HK4 := hide hk4
  have HLV := hide hlv
  have HBB := hide hbb
  have HHH := hide hH
  have HUL := hide hul
  clear hx hks hk4 hlv hbb hH hul
  by_cases h1 : l.vn ≤ 500 ∧ l.un ≤ 40
  · have e1 : decide ((500 : Int) < (l.vn : Int)) = false := decide_eq_false (by omega)
    have e2 : decide ((40 : Int) < (l.un : Int)) = false := decide_eq_false (by omega)
    have e3 : decide (500 < l.vn) = false := decide_eq_false (by omega)
    have e4 : decide (40 < l.un) = false := decide_eq_false (by omega)
    obtain ⟨h2, h3⟩ := h1
    go_enter Try.func3, Try.ntmps3
    go_wp2_with (first | ((with_reducible refine wl_shape ?_); first | (apply wl_boxa; exact rfl; exact hM; exact rfl; exact rfl; clear hM; intro gg ww hM; simp only [putT, List.set_cons_succ, List.set_cons_zero]) | (apply wl_box1; exact rfl; exact hM; exact rfl; exact rfl; exact rfl; clear hM; intro gg ww hM; simp only [putT, List.set_cons_succ, List.set_cons_zero]) | (apply wl_alloc; exact rfl; exact hM; exact rfl; exact inferInstance; clear hM; intro gg ww hM; simp only [putT, List.set_cons_succ, List.set_cons_zero]) | (apply wl_ld; exact rfl; exact hM; exact rfl; exact rfl; exact inferInstance; exact inferInstance; simp only [putT, List.set_cons_succ, List.set_cons_zero]) | (apply wl_lda; exact rfl; exact hM; exact rfl; exact rfl; exact inferInstance; exact inferInstance; exact inferInstance; exact inferInstance; simp only [putT, List.set_cons_succ, List.set_cons_zero]) | (apply wl_ldr; exact rfl; exact hM; exact rfl; exact rfl; exact inferInstance; exact inferInstance; exact inferInstance; exact inferInstance; simp only [putT, List.set_cons_succ, List.set_cons_zero]) | (apply wl_st; exact rfl; exact hM; exact rfl; exact rfl; exact rfl; exact rfl; exact inferInstance; exact inferInstance; clear hM; intro ww hM; simp only [putT, List.set_cons_succ, List.set_cons_zero]) | (apply wl_sta; exact rfl; exact hM; exact rfl; exact rfl; exact rfl; exact all_oneCell_toArray One.out; exact inferInstance; exact inferInstance; exact inferInstance; clear hM; intro ww hM; simp only [putT, List.set_cons_succ, List.set_cons_zero]) | (apply wl_bs0; exact rfl; exact hM; exact rfl; exact inferInstance; clear hM; intro gg ww hM; simp only [putT, List.set_cons_succ, List.set_cons_zero]) | (apply wl_bs1a; exact rfl; exact hM; exact rfl; exact inferInstance; exact rfl; exact inferInstance; clear hM; intro gg ww hM; simp only [putT, List.set_cons_succ, List.set_cons_zero]) | (apply wl_bs11; exact rfl; exact hM; exact rfl; exact inferInstance; exact rfl; exact rfl; clear hM; intro gg ww hM; simp only [putT, List.set_cons_succ, List.set_cons_zero]) | (apply wl_conv; exact rfl; exact hM; exact rfl; exact rfl; exact inferInstance; exact inferInstance; simp only [putT, List.set_cons_succ, List.set_cons_zero])) | (rw [e1]) | (rw [e2]) | (rw [e3]) | (rw [e4]) | (go_at_call 15; refine (long17_any _ hA hn hc hs ((unhide HHH).up hM.grow) hnn (unhide HBB)).mono ?_; rintro e1 w1 ⟨b, rfl, hlo, hg⟩; replace hM := hM.call hg; clear hg; cases b))
    · have hw4 : ∀ x ∈ hs, x.m.wn ≤ 400 := by simpa using hlo
      have HW4 := hide hw4
      clear hlo hw4
      have hg0 := hM.grow
      refine wp_region_memT2 10 8 [] [1, 5, 6, 7, 9] [7, 9] _ _ rfl rfl hM (by kernel_rfl) (by kernel_rfl) (by kernel_rfl) (by kernel_rfl) (by kernel_rfl) ?_; simp only [List.take_succ_cons, List.take_zero]; simp only [initS, Act.put, List.setIfInBounds_toArray, List.set_cons_succ, List.set_cons_zero, List.map_cons, List.map_nil]
      (repeat (first
        | (refine gw_at 0 ?_; (refine gl_wpV (.agg (Go.Proofs.Ytgdfdombcngpnaa.hv (seed1 1#8))) rfl (by decide) rfl (by simp) (fun γ w' hC hP => ?_) ?_; (focus (simp only [slAct, slVals, Slot.get]; go_wp2_with (first | (refine wpList_build_to rfl 30 #[(0, .const (.int .u8 1))] rfl (Go.Proofs.Ytgdfdombcngpnaa.hv (seed1 1#8)) (by kernel_rfl) ?_)); (first | exact ⟨Grow.refl _ _, rfl⟩ | exact Grow.refl _ _))); simp only [setD, List.set_cons_succ, List.set_cons_zero]))
        | (refine gw_at 1 ?_; (refine gl_wpF (RingV 88 ks) RingV.grow rfl (by decide) (by decide) rfl (by simp) (fun γ w' hC hP => ?_) ?_; (focus (simp only [slAct, slVals, Slot.get]; go_wp2_with (first | (go_at_call 17; refine (New_any _ 4 (seed1 1#8) rfl).mono ?_; rintro e w2 ⟨⟨p, rfl, g, A1, c1, rfl, hr0⟩, hg⟩; rw [cnt4, ← unhide HKS] at hr0)); (first | exact ⟨hg, g, A1, c1, rfl, hr0⟩ | exact ⟨g, A1, c1, rfl, hr0⟩))); simp only [setD, List.set_cons_succ, List.set_cons_zero]))
        | (refine gw_at 5 ?_; (refine gl_wpF (FMsg x) FMsg.grow rfl (by decide) (by decide) rfl (by simp) (fun γ w' hC hP => ?_) ?_; (focus (simp only [slAct, slVals, Slot.get]; obtain ⟨g, A1, c1, e5, hr⟩ := hP 27 (RingV 88 ks _) rfl rfl; rw [e5]; go_wp2_with (first | (go_at_call 16; refine (Make_any _ g c1 hn hc A1 hA ks fr l val hr (bytesUp hby hC.1.grow) hvc (by omega) hs us ((unhide HHH).up hC.1.grow) (hU.up hC.1.grow) (unhide HUL) (by omega) (fun h hh => by have := unhide HW4 h hh; omega)).mono ?_; rw [← unhide HX]; rintro e1 w3 ⟨va, vc, wa, wc, rfl, hM1⟩)); exact ⟨hM1.grow, va, vc, wa, wc, w', rfl, hC.2.1, hM1⟩)); simp only [setD, List.set_cons_succ, List.set_cons_zero]))
        | (refine gw_at 6 ?_; (apply gl_moveP; (first | exact .inl rfl | exact .inr rfl); exact rfl; exact rfl; exact rfl; exact FMsg.grow; simp only [setD, List.set_cons_succ, List.set_cons_zero])) | (refine gw_at 7 ?_; (refine gl_extP rfl rfl (by decide) (FAggM x _) FAggM.grow rfl FMsg.agg ?_; simp only [setD, List.set_cons_succ, List.set_cons_zero])) | (refine gw_at 8 ?_; (refine gl_extV rfl rfl (.int .i64 x.err) rfl FMsg.err ?_; simp only [setD, List.set_cons_succ, List.set_cons_zero])) | (refine gw_at 9 ?_; (refine gl_wpF (FBlk 32 (msc (moMs noMo none 0 none 0)).toArray) FBlk.grow rfl (by decide) (by decide) rfl (by simp) (fun γ w' hC hP => ?_) ?_; (focus (simp only [slAct, slVals, Slot.get]; have hM9 := Mem.nil w' noOwn; go_wp2_with (first | (refine wpList_alloc_mem hM9 rfl 32 rfl _ zeroM ?_; clear hM9; intro gg ww hM9)); exact ⟨hM9.grow, gg, rfl, hM9.fresh hC.2.1 0 rfl⟩)); simp only [setD, List.set_cons_succ, List.set_cons_zero]))
        | (apply gl_move; (first | exact .inl rfl | exact .inr rfl); exact rfl; exact rfl; simp only [setD, List.set_cons_succ, List.set_cons_zero]) | (apply gl_ld; exact rfl; exact rfl; exact rfl; exact inferInstance; exact inferInstance; simp only [setD, List.set_cons_succ, List.set_cons_zero]) | (apply gl_lda; exact rfl; exact rfl; exact rfl; exact inferInstance; exact inferInstance; exact inferInstance; exact inferInstance; simp only [setD, List.set_cons_succ, List.set_cons_zero]) | (apply gl_ldr; exact rfl; exact rfl; exact rfl; exact inferInstance; exact inferInstance; exact inferInstance; exact inferInstance; simp only [setD, List.set_cons_succ, List.set_cons_zero]) | (apply gl_cmp true; exact rfl; exact rfl; exact rfl; exact rfl; (simp only [cmpB, Option.some.injEq, decide_eq_true_eq, ne_eq]; omega); simp only [setD, List.set_cons_succ, List.set_cons_zero]) | (apply gl_cmp false; exact rfl; exact rfl; exact rfl; exact rfl; (simp only [cmpB, Option.some.injEq, decide_eq_false_iff_not, ne_eq]; omega); simp only [setD, List.set_cons_succ, List.set_cons_zero]) | (apply gl_pick; exact rfl; exact rfl; exact rfl; exact rfl; exact rfl; simp only [setD, List.set_cons_succ, List.set_cons_zero, cond_true, cond_false]) | (apply gl_conv; exact rfl; exact rfl; exact rfl; exact inferInstance; exact inferInstance; simp only [setD, List.set_cons_succ, List.set_cons_zero]) | (apply gl_skip; exact rfl; simp only [setD, List.set_cons_succ, List.set_cons_zero]) | (apply gl_moveP; (first | exact .inl rfl | exact .inr rfl); exact rfl; exact rfl; exact rfl; (first | exact FRow.grow | exact FBlk.grow | exact FAgg.grow); simp only [setD, List.set_cons_succ, List.set_cons_zero]) | (refine gw_isPure rfl ?_; apply gl_pure; exact rfl; intro K hK; go_simp; refine hK _ ?_; clear hK K; simp only [setD, List.set_cons_succ, List.set_cons_zero])))
      refine gw_nil ?_; intro γ w6 hC' hk'; simp only [slAct, slVals, Slot.get]
      obtain ⟨va1, vc1, wa1, wc1, W1, e5, hB0, hM5⟩ : FAggM x _ _ _ := hk' 7 32 _ rfl rfl rfl
      obtain ⟨g1, e6, hf6⟩ : FBlk 32 (msc (moMs noMo none 0 none 0)).toArray _ _ _ := hk' 9 7 _ rfl rfl rfl
      simp only [e5, e6]
      have hM6 := cm_msg hC' hM5 hB0 hf6 (by decide) (by decide)
      refine wp_staL rfl hM6 rfl rfl (msc_all _) inferInstance inferInstance inferInstance ?_
      clear hM hM5 hM6 hC' hk' hf6 e5 e6 hB0
      simp only [putT]
      intro w7 hM
      refine wp_assignL (.inr rfl) rfl ?_
      simp only [putT, List.set_cons_succ, List.set_cons_zero]
      go_wp2_with (first | ((with_reducible refine wl_shape ?_); first | (apply wl_boxa; exact rfl; exact hM; exact rfl; exact rfl; clear hM; intro gg ww hM; simp only [putT, List.set_cons_succ, List.set_cons_zero]) | (apply wl_box1; exact rfl; exact hM; exact rfl; exact rfl; exact rfl; clear hM; intro gg ww hM; simp only [putT, List.set_cons_succ, List.set_cons_zero]) | (apply wl_alloc; exact rfl; exact hM; exact rfl; exact inferInstance; clear hM; intro gg ww hM; simp only [putT, List.set_cons_succ, List.set_cons_zero]) | (apply wl_ld; exact rfl; exact hM; exact rfl; exact rfl; exact inferInstance; exact inferInstance; simp only [putT, List.set_cons_succ, List.set_cons_zero]) | (apply wl_lda; exact rfl; exact hM; exact rfl; exact rfl; exact inferInstance; exact inferInstance; exact inferInstance; exact inferInstance; simp only [putT, List.set_cons_succ, List.set_cons_zero]) | (apply wl_ldr; exact rfl; exact hM; exact rfl; exact rfl; exact inferInstance; exact inferInstance; exact inferInstance; exact inferInstance; simp only [putT, List.set_cons_succ, List.set_cons_zero]) | (apply wl_st; exact rfl; exact hM; exact rfl; exact rfl; exact rfl; exact rfl; exact inferInstance; exact inferInstance; clear hM; intro ww hM; simp only [putT, List.set_cons_succ, List.set_cons_zero]) | (apply wl_sta; exact rfl; exact hM; exact rfl; exact rfl; exact rfl; exact all_oneCell_toArray One.out; exact inferInstance; exact inferInstance; exact inferInstance; clear hM; intro ww hM; simp only [putT, List.set_cons_succ, List.set_cons_zero]) | (apply wl_bs0; exact rfl; exact hM; exact rfl; exact inferInstance; clear hM; intro gg ww hM; simp only [putT, List.set_cons_succ, List.set_cons_zero]) | (apply wl_bs1a; exact rfl; exact hM; exact rfl; exact inferInstance; exact rfl; exact inferInstance; clear hM; intro gg ww hM; simp only [putT, List.set_cons_succ, List.set_cons_zero]) | (apply wl_bs11; exact rfl; exact hM; exact rfl; exact inferInstance; exact rfl; exact rfl; clear hM; intro gg ww hM; simp only [putT, List.set_cons_succ, List.set_cons_zero]) | (apply wl_conv; exact rfl; exact hM; exact rfl; exact rfl; exact inferInstance; exact inferInstance; simp only [putT, List.set_cons_succ, List.set_cons_zero])))
      refine wp_region_memT2 10 8 [] [1, 5, 6, 7, 9] [7, 9] _ _ rfl rfl hM (by kernel_rfl) (by kernel_rfl) (by kernel_rfl) (by kernel_rfl) (by kernel_rfl) ?_; simp only [List.take_succ_cons, List.take_zero]; simp only [initS, Act.put, List.setIfInBounds_toArray, List.set_cons_succ, List.set_cons_zero, List.map_cons, List.map_nil]
      (repeat (first
        | (refine gw_at 0 ?_; (refine gl_wpV (.agg (Go.Proofs.Ytgdfdombcngpnaa.hv (seed1 1#8))) rfl (by decide) rfl (by simp) (fun γ w' hC hP => ?_) ?_; (focus (simp only [slAct, slVals, Slot.get]; go_wp2_with (first | (refine wpList_build_to rfl 30 #[(0, .const (.int .u8 1))] rfl (Go.Proofs.Ytgdfdombcngpnaa.hv (seed1 1#8)) (by kernel_rfl) ?_)); (first | exact ⟨Grow.refl _ _, rfl⟩ | exact Grow.refl _ _))); simp only [setD, List.set_cons_succ, List.set_cons_zero]))
        | (refine gw_at 1 ?_; (refine gl_wpF (RingV 90 ks) RingV.grow rfl (by decide) (by decide) rfl (by simp) (fun γ w' hC hP => ?_) ?_; (focus (simp only [slAct, slVals, Slot.get]; go_wp2_with (first | (go_at_call 19; refine (RNew_any _ 4 (seed1 1#8) rfl).mono ?_; rintro e w2 ⟨⟨p, rfl, g, A1, c1, rfl, hr0⟩, hg⟩; rw [cnt4, ← unhide HKS] at hr0)); (first | exact ⟨hg, g, A1, c1, rfl, hr0⟩ | exact ⟨g, A1, c1, rfl, hr0⟩))); simp only [setD, List.set_cons_succ, List.set_cons_zero]))
        | (refine gw_at 5 ?_; (refine gl_wpF (FMsg x) FMsg.grow rfl (by decide) (by decide) rfl (by simp) (fun γ w' hC hP => ?_) ?_; (focus (simp only [slAct, slVals, Slot.get]; obtain ⟨g, A1, c1, e5, hr⟩ := hP 36 (RingV 90 ks _) rfl rfl; rw [e5]; go_wp2_with (first | (go_at_call 18; refine (RMake_any _ g c1 hn hc A1 hA ks fr l val hr (by rw [unhide HK4]; decide) (bytesUp hby hC.1.grow) hvc (by omega) hs us ((unhide HHH).up hC.1.grow) (hU.up hC.1.grow) (unhide HUL) (by omega) (fun h hh => by have := unhide HW4 h hh; omega)).mono ?_; rw [← unhide HX]; rintro e1 w3 ⟨va, vc, wa, wc, rfl, hM1⟩)); exact ⟨hM1.grow, va, vc, wa, wc, w', rfl, hC.2.1, hM1⟩)); simp only [setD, List.set_cons_succ, List.set_cons_zero]))
        | (refine gw_at 6 ?_; (apply gl_moveP; (first | exact .inl rfl | exact .inr rfl); exact rfl; exact rfl; exact rfl; exact FMsg.grow; simp only [setD, List.set_cons_succ, List.set_cons_zero])) | (refine gw_at 7 ?_; (refine gl_extP rfl rfl (by decide) (FAggM x _) FAggM.grow rfl FMsg.agg ?_; simp only [setD, List.set_cons_succ, List.set_cons_zero])) | (refine gw_at 8 ?_; (refine gl_extV rfl rfl (.int .i64 x.err) rfl FMsg.err ?_; simp only [setD, List.set_cons_succ, List.set_cons_zero])) | (refine gw_at 9 ?_; (refine gl_wpF (FBlk 32 (msc (moMs noMo none 0 none 0)).toArray) FBlk.grow rfl (by decide) (by decide) rfl (by simp) (fun γ w' hC hP => ?_) ?_; (focus (simp only [slAct, slVals, Slot.get]; have hM9 := Mem.nil w' noOwn; go_wp2_with (first | (refine wpList_alloc_mem hM9 rfl 32 rfl _ zeroM ?_; clear hM9; intro gg ww hM9)); exact ⟨hM9.grow, gg, rfl, hM9.fresh hC.2.1 0 rfl⟩)); simp only [setD, List.set_cons_succ, List.set_cons_zero]))
        | (apply gl_move; (first | exact .inl rfl | exact .inr rfl); exact rfl; exact rfl; simp only [setD, List.set_cons_succ, List.set_cons_zero]) | (apply gl_ld; exact rfl; exact rfl; exact rfl; exact inferInstance; exact inferInstance; simp only [setD, List.set_cons_succ, List.set_cons_zero]) | (apply gl_lda; exact rfl; exact rfl; exact rfl; exact inferInstance; exact inferInstance; exact inferInstance; exact inferInstance; simp only [setD, List.set_cons_succ, List.set_cons_zero]) | (apply gl_ldr; exact rfl; exact rfl; exact rfl; exact inferInstance; exact inferInstance; exact inferInstance; exact inferInstance; simp only [setD, List.set_cons_succ, List.set_cons_zero]) | (apply gl_cmp true; exact rfl; exact rfl; exact rfl; exact rfl; (simp only [cmpB, Option.some.injEq, decide_eq_true_eq, ne_eq]; omega); simp only [setD, List.set_cons_succ, List.set_cons_zero]) | (apply gl_cmp false; exact rfl; exact rfl; exact rfl; exact rfl; (simp only [cmpB, Option.some.injEq, decide_eq_false_iff_not, ne_eq]; omega); simp only [setD, List.set_cons_succ, List.set_cons_zero]) | (apply gl_pick; exact rfl; exact rfl; exact rfl; exact rfl; exact rfl; simp only [setD, List.set_cons_succ, List.set_cons_zero, cond_true, cond_false]) | (apply gl_conv; exact rfl; exact rfl; exact rfl; exact inferInstance; exact inferInstance; simp only [setD, List.set_cons_succ, List.set_cons_zero]) | (apply gl_skip; exact rfl; simp only [setD, List.set_cons_succ, List.set_cons_zero]) | (apply gl_moveP; (first | exact .inl rfl | exact .inr rfl); exact rfl; exact rfl; exact rfl; (first | exact FRow.grow | exact FBlk.grow | exact FAgg.grow); simp only [setD, List.set_cons_succ, List.set_cons_zero]) | (refine gw_isPure rfl ?_; apply gl_pure; exact rfl; intro K hK; go_simp; refine hK _ ?_; clear hK K; simp only [setD, List.set_cons_succ, List.set_cons_zero])))
      refine gw_nil ?_; intro γ w6 hC' hk'; simp only [slAct, slVals, Slot.get]
      obtain ⟨va2, vc2, wa2, wc2, W2, e5, hB0, hM5⟩ : FAggM x _ _ _ := hk' 7 41 _ rfl rfl rfl
      obtain ⟨g2, e6, hf6⟩ : FBlk 32 (msc (moMs noMo none 0 none 0)).toArray _ _ _ := hk' 9 9 _ rfl rfl rfl
      simp only [e5, e6]
      have hM6 := cm_msg hC' hM5 hB0 hf6 (by decide) (by decide)
      refine wp_staL rfl hM6 rfl rfl (msc_all _) inferInstance inferInstance inferInstance ?_
      clear hM hM5 hM6 hC' hk' hf6 e5 e6 hB0
      simp only [putT]
      intro w7 hM
      refine wp_assignL (.inr rfl) rfl ?_
      simp only [putT, List.set_cons_succ, List.set_cons_zero]
      go_wp2_with (first
        | ((with_reducible refine wl_shape ?_); first | (apply wl_boxa; exact rfl; exact hM; exact rfl; exact rfl; clear hM; intro gg ww hM; simp only [putT, List.set_cons_succ, List.set_cons_zero]) | (apply wl_box1; exact rfl; exact hM; exact rfl; exact rfl; exact rfl; clear hM; intro gg ww hM; simp only [putT, List.set_cons_succ, List.set_cons_zero]) | (apply wl_alloc; exact rfl; exact hM; exact rfl; exact inferInstance; clear hM; intro gg ww hM; simp only [putT, List.set_cons_succ, List.set_cons_zero]) | (apply wl_ld; exact rfl; exact hM; exact rfl; exact rfl; exact inferInstance; exact inferInstance; simp only [putT, List.set_cons_succ, List.set_cons_zero]) | (apply wl_lda; exact rfl; exact hM; exact rfl; exact rfl; exact inferInstance; exact inferInstance; exact inferInstance; exact inferInstance; simp only [putT, List.set_cons_succ, List.set_cons_zero]) | (apply wl_ldr; exact rfl; exact hM; exact rfl; exact rfl; exact inferInstance; exact inferInstance; exact inferInstance; exact inferInstance; simp only [putT, List.set_cons_succ, List.set_cons_zero]) | (apply wl_st; exact rfl; exact hM; exact rfl; exact rfl; exact rfl; exact rfl; exact inferInstance; exact inferInstance; clear hM; intro ww hM; simp only [putT, List.set_cons_succ, List.set_cons_zero]) | (apply wl_sta; exact rfl; exact hM; exact rfl; exact rfl; exact rfl; exact all_oneCell_toArray One.out; exact inferInstance; exact inferInstance; exact inferInstance; clear hM; intro ww hM; simp only [putT, List.set_cons_succ, List.set_cons_zero]) | (apply wl_bs0; exact rfl; exact hM; exact rfl; exact inferInstance; clear hM; intro gg ww hM; simp only [putT, List.set_cons_succ, List.set_cons_zero]) | (apply wl_bs1a; exact rfl; exact hM; exact rfl; exact inferInstance; exact rfl; exact inferInstance; clear hM; intro gg ww hM; simp only [putT, List.set_cons_succ, List.set_cons_zero]) | (apply wl_bs11; exact rfl; exact hM; exact rfl; exact inferInstance; exact rfl; exact rfl; clear hM; intro gg ww hM; simp only [putT, List.set_cons_succ, List.set_cons_zero]) | (apply wl_conv; exact rfl; exact hM; exact rfl; exact rfl; exact inferInstance; exact inferInstance; simp only [putT, List.set_cons_succ, List.set_cons_zero]))
        | (go_at_call 20; refine (SameMsg_any x va1 va2 wa1 wa2 vc1 vc2 wc1 wc2 (unhide HLV) (by omega) htl (Reads.of_own (hM.row 3 rfl)) (Reads.of_own (hM.row 0 rfl)) (Reads.of_own (hM.row 4 rfl)) (Reads.of_own (hM.row 1 rfl))).mono ?_; rintro e1 w9 ⟨rfl, hg⟩; replace hM := hM.call hg; clear hg)
        | (go_at_call 21; refine (known17_any _).mono ?_; rintro e1 w9 ⟨rfl, hg⟩; replace hM := hM.call hg; clear hg))
      go_ret
      exact ⟨rfl, hM.grow⟩
    · go_ret
      exact ⟨rfl, hM.grow⟩
  · by_cases h2 : l.vn ≤ 500
    · have e1 : decide ((500 : Int) < (l.vn : Int)) = false := decide_eq_false (by omega)
      have e2 : decide ((40 : Int) < (l.un : Int)) = true := decide_eq_true (by omega)
      have e3 : decide (500 < l.vn) = false := decide_eq_false (by omega)
      have e4 : decide (40 < l.un) = true := decide_eq_true (by omega)
      clear h1
      go_enter Try.func3, Try.ntmps3
      go_wp2_with (first | ((with_reducible refine wl_shape ?_); first | (apply wl_boxa; exact rfl; exact hM; exact rfl; exact rfl; clear hM; intro gg ww hM; simp only [putT, List.set_cons_succ, List.set_cons_zero]) | (apply wl_box1; exact rfl; exact hM; exact rfl; exact rfl; exact rfl; clear hM; intro gg ww hM; simp only [putT, List.set_cons_succ, List.set_cons_zero]) | (apply wl_alloc; exact rfl; exact hM; exact rfl; exact inferInstance; clear hM; intro gg ww hM; simp only [putT, List.set_cons_succ, List.set_cons_zero]) | (apply wl_ld; exact rfl; exact hM; exact rfl; exact rfl; exact inferInstance; exact inferInstance; simp only [putT, List.set_cons_succ, List.set_cons_zero]) | (apply wl_lda; exact rfl; exact hM; exact rfl; exact rfl; exact inferInstance; exact inferInstance; exact inferInstance; exact inferInstance; simp only [putT, List.set_cons_succ, List.set_cons_zero]) | (apply wl_ldr; exact rfl; exact hM; exact rfl; exact rfl; exact inferInstance; exact inferInstance; exact inferInstance; exact inferInstance; simp only [putT, List.set_cons_succ, List.set_cons_zero]) | (apply wl_st; exact rfl; exact hM; exact rfl; exact rfl; exact rfl; exact rfl; exact inferInstance; exact inferInstance; clear hM; intro ww hM; simp only [putT, List.set_cons_succ, List.set_cons_zero]) | (apply wl_sta; exact rfl; exact hM; exact rfl; exact rfl; exact rfl; exact all_oneCell_toArray One.out; exact inferInstance; exact inferInstance; exact inferInstance; clear hM; intro ww hM; simp only [putT, List.set_cons_succ, List.set_cons_zero]) | (apply wl_bs0; exact rfl; exact hM; exact rfl; exact inferInstance; clear hM; intro gg ww hM; simp only [putT, List.set_cons_succ, List.set_cons_zero]) | (apply wl_bs1a; exact rfl; exact hM; exact rfl; exact inferInstance; exact rfl; exact inferInstance; clear hM; intro gg ww hM; simp only [putT, List.set_cons_succ, List.set_cons_zero]) | (apply wl_bs11; exact rfl; exact hM; exact rfl; exact inferInstance; exact rfl; exact rfl; clear hM; intro gg ww hM; simp only [putT, List.set_cons_succ, List.set_cons_zero]) | (apply wl_conv; exact rfl; exact hM; exact rfl; exact rfl; exact inferInstance; exact inferInstance; simp only [putT, List.set_cons_succ, List.set_cons_zero])) | (rw [e1]) | (rw [e2]) | (rw [e3]) | (rw [e4]) | (go_at_call 15; refine (long17_any _ hA hn hc hs ((unhide HHH).up hM.grow) hnn (unhide HBB)).mono ?_; rintro e1 w1 ⟨b, rfl, hlo, hg⟩; replace hM := hM.call hg; clear hg; cases b))
      all_goals
        go_ret
        exact ⟨rfl, hM.grow⟩
    · have e1 : decide ((500 : Int) < (l.vn : Int)) = true := decide_eq_true (by omega)
      have e3 : decide (500 < l.vn) = true := decide_eq_true (by omega)
      clear h1
      go_enter Try.func3, Try.ntmps3
      go_wp2_with (first | ((with_reducible refine wl_shape ?_); first | (apply wl_boxa; exact rfl; exact hM; exact rfl; exact rfl; clear hM; intro gg ww hM; simp only [putT, List.set_cons_succ, List.set_cons_zero]) | (apply wl_box1; exact rfl; exact hM; exact rfl; exact rfl; exact rfl; clear hM; intro gg ww hM; simp only [putT, List.set_cons_succ, List.set_cons_zero]) | (apply wl_alloc; exact rfl; exact hM; exact rfl; exact inferInstance; clear hM; intro gg ww hM; simp only [putT, List.set_cons_succ, List.set_cons_zero]) | (apply wl_ld; exact rfl; exact hM; exact rfl; exact rfl; exact inferInstance; exact inferInstance; simp only [putT, List.set_cons_succ, List.set_cons_zero]) | (apply wl_lda; exact rfl; exact hM; exact rfl; exact rfl; exact inferInstance; exact inferInstance; exact inferInstance; exact inferInstance; simp only [putT, List.set_cons_succ, List.set_cons_zero]) | (apply wl_ldr; exact rfl; exact hM; exact rfl; exact rfl; exact inferInstance; exact inferInstance; exact inferInstance; exact inferInstance; simp only [putT, List.set_cons_succ, List.set_cons_zero]) | (apply wl_st; exact rfl; exact hM; exact rfl; exact rfl; exact rfl; exact rfl; exact inferInstance; exact inferInstance; clear hM; intro ww hM; simp only [putT, List.set_cons_succ, List.set_cons_zero]) | (apply wl_sta; exact rfl; exact hM; exact rfl; exact rfl; exact rfl; exact all_oneCell_toArray One.out; exact inferInstance; exact inferInstance; exact inferInstance; clear hM; intro ww hM; simp only [putT, List.set_cons_succ, List.set_cons_zero]) | (apply wl_bs0; exact rfl; exact hM; exact rfl; exact inferInstance; clear hM; intro gg ww hM; simp only [putT, List.set_cons_succ, List.set_cons_zero]) | (apply wl_bs1a; exact rfl; exact hM; exact rfl; exact inferInstance; exact rfl; exact inferInstance; clear hM; intro gg ww hM; simp only [putT, List.set_cons_succ, List.set_cons_zero]) | (apply wl_bs11; exact rfl; exact hM; exact rfl; exact inferInstance; exact rfl; exact rfl; clear hM; intro gg ww hM; simp only [putT, List.set_cons_succ, List.set_cons_zero]) | (apply wl_conv; exact rfl; exact hM; exact rfl; exact rfl; exact inferInstance; exact inferInstance; simp only [putT, List.set_cons_succ, List.set_cons_zero])) | (rw [e1]) | (rw [e2]) | (rw [e3]) | (rw [e4]) | (go_at_call 15; refine (long17_any _ hA hn hc hs ((unhide HHH).up hM.grow) hnn (unhide HBB)).mono ?_; rintro e1 w1 ⟨b, rfl, hlo, hg⟩; replace hM := hM.call hg; clear hg; cases b))
      all_goals
        go_ret
        exact ⟨rfl, hM.grow⟩
end Go.Proofs.Ytgdfdombcngpnaa
