/- cert.Good, the document's VoteBody, Cast and Good. -/
import Derived.Test.YtkcmnhmbpamehaaCastL
import Derived.Test.YtkcmnhmbpamehaaReg
namespace Go.Proofs.Ytkcmnhmbpamehaa
open Go.RowKit Go.MapKept
set_option linter.unusedSimpArgs false
set_option linter.unusedVariables false
def zVt : Vt := ⟨0, 0, 0, zb32, 0, zb32⟩
theorem zVt_ok : zVt.Ok := ⟨rfl, rfl⟩
instance : TyZ Try.prog 32 (vtc zVt).toArray := ⟨zeroV⟩
instance : SzA (vtc zVt).toArray 68 := ⟨by simpa using vtc_len zVt_ok⟩
instance {v : Vt} : One (vtc v) := ⟨fun u hu => by
  have := vtc_all v
  simp only [List.all_toArray, List.all_eq_true] at this
  exact this u hu⟩
/-- Is a vote good? -/
def goodOf (ks : List (List (BitVec 8))) (v : Vt) : Bool := checkOf ks v.f (voteB v) v.tag
def RowV (l : List (BitVec 8)) (w0 : World) (own : Nat → Prop) (L : List Item) (x : Value) (w : World) : Prop := ∃ A c, x = .slice A l.length c ∧ Mem w0 own w (.row (.slice A l.length c) 5 1 l.length (l.map V8) :: L)
theorem rng_tag {w0 : World} {own : Nat → Prop} {L : List Item} {g : Nat} {T : TypeId} {v : Vt} (h : v.Ok) [hb : HasBlk L g T (vtc v).toArray] : Rng w0 own L g 36 (v.tag.map V8) := ⟨fun w hM j u hu => by
  obtain ⟨ad, e, _, h2⟩ := (vote_tag h (hM.has _ hb.out)).2 (by omega)
  cases e
  have := h2 j u hu
  rcases j with _ | j <;> simpa [Addr.add] using this⟩
theorem rng_sum {w0 : World} {own : Nat → Prop} {L : List Item} {g : Nat} {T : TypeId} {v : Vt} (h : v.Ok) [hb : HasBlk L g T (vtc v).toArray] : Rng w0 own L g 3 (v.sum.map V8) := ⟨fun w hM j u hu => by
  obtain ⟨ad, e, _, h2⟩ := (vote_sum h (hM.has _ hb.out)).2 (by omega)
  cases e
  have := h2 j u hu
  rcases j with _ | j <;> simpa [Addr.add] using this⟩
attribute [local irreducible] wpList Code.wp GW Calls
set_option maxRecDepth 100000 in
set_option maxHeartbeats 4000000 in
theorem Good_any (w : World) (g c : Nat) (A : Option Addr) (ks : List (List (BitVec 8))) (v : Vt) (h : RingIs w g A c 56 ks) (hv : v.Ok) :
    Calls Try.prog 65 #[.pointer (some ⟨g, 0, none⟩), .agg (vtc v).toArray] w fun e w' => e = .returned (.bool (goodOf ks v)) ∧ Grow w noOwn w' := by
  have hM := Mem.nil w noOwn
  have a3 : AtA (vtc v).toArray 35 (.int .i64 v.f) := ⟨by simpa using vtc_35 hv⟩
  have z1 : SzA (vtc v).toArray 68 := ⟨by simpa using vtc_len hv⟩
  have z2 : SzL (v.tag.map V8) 32 := ⟨by simpa using hv.tag⟩
  have HVL := hide (voteB_len v hv)
  go_enter Try.func65, Try.ntmps65
  go_wp2_with (first | ((with_reducible refine wl_shape ?_); first | (apply wl_boxa; exact rfl; exact hM; exact rfl; exact rfl; clear hM; intro gg ww hM; simp only [putT, List.set_cons_succ, List.set_cons_zero]) | (apply wl_box1; exact rfl; exact hM; exact rfl; exact rfl; exact rfl; clear hM; intro gg ww hM; simp only [putT, List.set_cons_succ, List.set_cons_zero]) | (apply wl_alloc; exact rfl; exact hM; exact rfl; exact inferInstance; clear hM; intro gg ww hM; simp only [putT, List.set_cons_succ, List.set_cons_zero]) | (apply wl_ld; exact rfl; exact hM; exact rfl; exact rfl; exact inferInstance; exact inferInstance; simp only [putT, List.set_cons_succ, List.set_cons_zero]) | (apply wl_lda; exact rfl; exact hM; exact rfl; exact rfl; exact inferInstance; exact inferInstance; exact inferInstance; exact inferInstance; simp only [putT, List.set_cons_succ, List.set_cons_zero]) | (apply wl_ldr; exact rfl; exact hM; exact rfl; exact rfl; exact inferInstance; exact inferInstance; exact inferInstance; exact inferInstance; simp only [putT, List.set_cons_succ, List.set_cons_zero]) | (apply wl_st; exact rfl; exact hM; exact rfl; exact rfl; exact rfl; exact rfl; exact inferInstance; exact inferInstance; clear hM; intro ww hM; simp only [putT, List.set_cons_succ, List.set_cons_zero]) | (apply wl_sta; exact rfl; exact hM; exact rfl; exact rfl; exact rfl; exact all_oneCell_toArray One.out; exact inferInstance; exact inferInstance; exact inferInstance; clear hM; intro ww hM; simp only [putT, List.set_cons_succ, List.set_cons_zero]) | (apply wl_bs0; exact rfl; exact hM; exact rfl; exact inferInstance; clear hM; intro gg ww hM; simp only [putT, List.set_cons_succ, List.set_cons_zero]) | (apply wl_bs1a; exact rfl; exact hM; exact rfl; exact inferInstance; exact rfl; exact inferInstance; clear hM; intro gg ww hM; simp only [putT, List.set_cons_succ, List.set_cons_zero]) | (apply wl_bs11; exact rfl; exact hM; exact rfl; exact inferInstance; exact rfl; exact rfl; clear hM; intro gg ww hM; simp only [putT, List.set_cons_succ, List.set_cons_zero]) | (apply wl_conv; exact rfl; exact hM; exact rfl; exact rfl; exact inferInstance; exact inferInstance; simp only [putT, List.set_cons_succ, List.set_cons_zero])))
  have r1 : ∀ (L : List Item) (g : Nat) [HasBlk L g 32 (vtc v).toArray], Rng w noOwn L g 36 (v.tag.map V8) := fun L g _ => rng_tag hv
  refine wp_region_mc [4, 7] [4] [] hM (by kernel_rfl) (by kernel_rfl) (by kernel_rfl) (by kernel_rfl) ?_; simp only [initS, Act.put, List.setIfInBounds_toArray, List.set_cons_succ, List.set_cons_zero, List.map_cons, List.map_nil]
  repeat (first
    | (apply gm_move; (first | exact .inl rfl | exact .inr rfl); exact rfl; exact rfl; simp only [setD, List.set_cons_succ, List.set_cons_zero]) | (apply gm_ld; exact rfl; exact rfl; exact rfl; exact inferInstance; exact inferInstance; simp only [setD, List.set_cons_succ, List.set_cons_zero]) | (apply gm_lda; exact rfl; exact rfl; exact rfl; exact inferInstance; exact inferInstance; exact inferInstance; exact inferInstance; simp only [setD, List.set_cons_succ, List.set_cons_zero]) | (apply gm_ldr; exact rfl; exact rfl; exact rfl; exact inferInstance; exact inferInstance; exact inferInstance; exact inferInstance; simp only [setD, List.set_cons_succ, List.set_cons_zero]) | (apply gm_cmp true; exact rfl; exact rfl; exact rfl; exact rfl; (simp only [cmpB, Option.some.injEq, decide_eq_true_eq, ne_eq]; omega); simp only [setD, List.set_cons_succ, List.set_cons_zero]) | (apply gm_cmp false; exact rfl; exact rfl; exact rfl; exact rfl; (simp only [cmpB, Option.some.injEq, decide_eq_false_iff_not, ne_eq]; omega); simp only [setD, List.set_cons_succ, List.set_cons_zero]) | (apply gm_pick; exact rfl; exact rfl; exact rfl; exact rfl; exact rfl; simp only [setD, List.set_cons_succ, List.set_cons_zero, cond_true, cond_false]) | (apply gm_skip; exact rfl; simp only [setD, List.set_cons_succ, List.set_cons_zero]) | (apply gm_skipU; exact rfl; exact rfl; exact rfl; exact rfl; simp only [setD, List.set_cons_succ, List.set_cons_zero]) | (apply gm_moveP; (first | exact .inl rfl | exact .inr rfl); exact rfl; exact rfl; exact rfl; simp only [setD, List.set_cons_succ, List.set_cons_zero]) | (apply gm_pure; exact rfl; intro K hK; go_simp; refine hK _ ?_; clear hK K; simp only [setD, List.set_cons_succ, List.set_cons_zero])
    | (refine gm_wp (RowV (voteB v)) rfl (by decide) (by decide) rfl (by simp) (fun γ w' hC hP => ?_) ?_; (focus (simp only [slAct, slVals, Slot.get]; go_wp2_with (first | (go_at_call 71; refine (VoteBody_any hC hv).mono ?_; rintro e1 w1 ⟨A1, c1, rfl, hM1⟩)); exact ⟨hM1.tail, A1, c1, rfl, hM1⟩)); simp only [setD, List.set_cons_succ, List.set_cons_zero])
    | (refine gm_wpV (.bool (goodOf ks v)) rfl (by decide) rfl (by simp) (fun γ w' hC hP => ?_) ?_; (focus (simp only [slAct, slVals, Slot.get]; obtain ⟨A1, c1, e1, hM1⟩ := hP 9 _ rfl rfl; rw [e1]; go_wp2_with (first | (go_at_call 70; refine (Check_any _ g c _ _ A _ ks v.f (voteB v) v.tag (h.grow hC.grow) (Reads.of_own (hM1.row 0 rfl)) (by have := unhide HVL; omega) hv.tag).mono ?_; rintro e1 w1 ⟨rfl, hg⟩)); exact ⟨hC.call hg, rfl⟩)); simp only [setD, List.set_cons_succ, List.set_cons_zero]))
  refine gw_nil ?_; intro γ w4 hC' hk'; simp only [slAct, slVals, Slot.get]
  clear hM
  have hM : Mem w noOwn w4 _ := hC'
  go_wp2_with (first | ((with_reducible refine wl_shape ?_); first | (apply wl_boxa; exact rfl; exact hM; exact rfl; exact rfl; clear hM; intro gg ww hM; simp only [putT, List.set_cons_succ, List.set_cons_zero]) | (apply wl_box1; exact rfl; exact hM; exact rfl; exact rfl; exact rfl; clear hM; intro gg ww hM; simp only [putT, List.set_cons_succ, List.set_cons_zero]) | (apply wl_alloc; exact rfl; exact hM; exact rfl; exact inferInstance; clear hM; intro gg ww hM; simp only [putT, List.set_cons_succ, List.set_cons_zero]) | (apply wl_ld; exact rfl; exact hM; exact rfl; exact rfl; exact inferInstance; exact inferInstance; simp only [putT, List.set_cons_succ, List.set_cons_zero]) | (apply wl_lda; exact rfl; exact hM; exact rfl; exact rfl; exact inferInstance; exact inferInstance; exact inferInstance; exact inferInstance; simp only [putT, List.set_cons_succ, List.set_cons_zero]) | (apply wl_ldr; exact rfl; exact hM; exact rfl; exact rfl; exact inferInstance; exact inferInstance; exact inferInstance; exact inferInstance; simp only [putT, List.set_cons_succ, List.set_cons_zero]) | (apply wl_st; exact rfl; exact hM; exact rfl; exact rfl; exact rfl; exact rfl; exact inferInstance; exact inferInstance; clear hM; intro ww hM; simp only [putT, List.set_cons_succ, List.set_cons_zero]) | (apply wl_sta; exact rfl; exact hM; exact rfl; exact rfl; exact rfl; exact all_oneCell_toArray One.out; exact inferInstance; exact inferInstance; exact inferInstance; clear hM; intro ww hM; simp only [putT, List.set_cons_succ, List.set_cons_zero]) | (apply wl_bs0; exact rfl; exact hM; exact rfl; exact inferInstance; clear hM; intro gg ww hM; simp only [putT, List.set_cons_succ, List.set_cons_zero]) | (apply wl_bs1a; exact rfl; exact hM; exact rfl; exact inferInstance; exact rfl; exact inferInstance; clear hM; intro gg ww hM; simp only [putT, List.set_cons_succ, List.set_cons_zero]) | (apply wl_bs11; exact rfl; exact hM; exact rfl; exact inferInstance; exact rfl; exact rfl; clear hM; intro gg ww hM; simp only [putT, List.set_cons_succ, List.set_cons_zero]) | (apply wl_conv; exact rfl; exact hM; exact rfl; exact rfl; exact inferInstance; exact inferInstance; simp only [putT, List.set_cons_succ, List.set_cons_zero])))
  go_ret
  exact ⟨rfl, hM.grow⟩
end Go.Proofs.Ytkcmnhmbpamehaa
