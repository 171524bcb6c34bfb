/- fetch's laws: FetchOfNothing. -/
import Derived.Test.YtechglhkcjgodaaFetK1
import Derived.Test.YtechglhkcjgodaaFetV
namespace Go.Proofs.Ytechglhkcjgodaa
open Go.RowKit Go.MapKept
set_option linter.unusedSimpArgs false
set_option linter.unusedVariables false
attribute [local irreducible] wpList Code.wp GW Calls
theorem Spans_nil (w : World) : Calls Try.prog 18 #[.pointer none] w fun x w' => x = .returned (.slice none 0 0) ∧ w = w' := by
  go_enter Try.func18, Try.ntmps18
  go_wp2
  go_ret
  exact ⟨rfl, rfl⟩
theorem Stable_nil (w : World) : Calls Try.prog 37 #[.pointer none] w fun x w' => x = .returned (.int .i64 0) ∧ w = w' := by
  go_enter Try.func37, Try.ntmps37
  go_wp2_with (first
    | (go_at_call 30; refine (Len_nil _).mono ?_; rintro e1 w1 ⟨rfl, rfl⟩)
    | (go_at_call 18; refine (Spans_nil _).mono ?_; rintro e1 w1 ⟨rfl, rfl⟩))
  refine wp_loop_once ?_
  go_wp2
  go_ret
  exact ⟨rfl, rfl⟩
theorem Aborted_nil (w : World) (fr to : Int) : Calls Try.prog 21 #[.pointer none, .int .i64 fr, .int .i64 to] w fun x w' => x = .returned (.slice none 0 0) ∧ Grow w noOwn w' := by
  have hM := Mem.nil w noOwn
  go_enter Try.func21, Try.ntmps21
  go_wp2_with (first
    | (go_at_call 18; refine (Spans_nil _).mono ?_; rintro e1 w1 ⟨rfl, rfl⟩))
  refine wp_loop_once ?_
  go_wp2
  go_ret
  exact ⟨rfl, hM.grow⟩
theorem committed_nil {w0 w : World} {own : Nat → Prop} {L : List Item} (hM : Mem w0 own w L) :
    Calls Try.prog 35 #[.pointer none] w fun e w' => ∃ gm, e = .returned (.map (some gm)) ∧ Mem w0 own w' (.obj gm (IsSet3 (comS [])) :: L) := by
  go_enter Try.func35, Try.ntmps35
  go_wp2_with (first
    | ((with_reducible refine wl_shape ?_); first | (apply wl_boxa; exact rfl; exact hM; exact rfl; exact rfl; clear hM; intro gg ww hM; simp only [putT, List.set_cons_succ, List.set_cons_zero]) | (apply wl_box1; exact rfl; exact hM; exact rfl; exact rfl; exact rfl; clear hM; intro gg ww hM; simp only [putT, List.set_cons_succ, List.set_cons_zero]) | (apply wl_alloc; exact rfl; exact hM; exact rfl; exact inferInstance; clear hM; intro gg ww hM; simp only [putT, List.set_cons_succ, List.set_cons_zero]) | (apply wl_ld; exact rfl; exact hM; exact rfl; exact rfl; exact inferInstance; exact inferInstance; simp only [putT, List.set_cons_succ, List.set_cons_zero]) | (apply wl_lda; exact rfl; exact hM; exact rfl; exact rfl; exact inferInstance; exact inferInstance; exact inferInstance; exact inferInstance; simp only [putT, List.set_cons_succ, List.set_cons_zero]) | (apply wl_ldr; exact rfl; exact hM; exact rfl; exact rfl; exact inferInstance; exact inferInstance; exact inferInstance; exact inferInstance; simp only [putT, List.set_cons_succ, List.set_cons_zero]) | (apply wl_st; exact rfl; exact hM; exact rfl; exact rfl; exact rfl; exact rfl; exact inferInstance; exact inferInstance; clear hM; intro ww hM; simp only [putT, List.set_cons_succ, List.set_cons_zero]) | (apply wl_sta; exact rfl; exact hM; exact rfl; exact rfl; exact rfl; exact all_oneCell_toArray One.out; exact inferInstance; exact inferInstance; exact inferInstance; clear hM; intro ww hM; simp only [putT, List.set_cons_succ, List.set_cons_zero]) | (apply wl_bs0; exact rfl; exact hM; exact rfl; exact inferInstance; clear hM; intro gg ww hM; simp only [putT, List.set_cons_succ, List.set_cons_zero]) | (apply wl_bs1a; exact rfl; exact hM; exact rfl; exact inferInstance; exact rfl; exact inferInstance; clear hM; intro gg ww hM; simp only [putT, List.set_cons_succ, List.set_cons_zero]) | (apply wl_bs11; exact rfl; exact hM; exact rfl; exact inferInstance; exact rfl; exact rfl; clear hM; intro gg ww hM; simp only [putT, List.set_cons_succ, List.set_cons_zero]) | (apply wl_conv; exact rfl; exact hM; exact rfl; exact rfl; exact inferInstance; exact inferInstance; simp only [putT, List.set_cons_succ, List.set_cons_zero]))
    | (refine wpList_makeSet3 rfl 72 rfl hM ?_; clear hM; intro gm w1 hM)
    | (go_at_call 18; refine (Spans_nil _).mono ?_; rintro e1 w1 ⟨rfl, rfl⟩))
  refine wp_loop_once ?_
  go_wp2
  go_ret
  exact ⟨gm, rfl, hM⟩
set_option maxRecDepth 100000 in
set_option maxHeartbeats 4000000 in
theorem Any_nil {w0 w : World} {own : Nat → Prop} {L : List Item} (hM0 : Mem w0 own w L) (fr most : Int) :
    Calls Try.prog 13 #[.pointer none, .int .i64 fr, .int .i64 most] w fun e w' => ∃ A c, e = .returned (.tuple #[.slice A 0 c, .int .i64 (max fr 0)]) ∧ Mem w0 own w' L := by
  have hM : Mem w0 own w ([] ++ L) := hM0
  clear hM0
  go_enter Try.func13, Try.ntmps13
  go_wp2_with (first
    | (go_at_call 30; refine (Len_nil _).mono ?_; rintro e1 w1 ⟨rfl, rfl⟩)
    | (go_at_call 36; refine (read_any hM none fr most 0 39 #[] [] (fun _ => true) (offs fr) (offs_eq fr) (fun h => absurd h (Nat.lt_irrefl 0)) (fun args w => run_callFunc Try.func39 (by kernel_rfl) rfl args w) (fun r D c w' X _ => AnyC_any w' r D c) (fun bf bl => iter_nil2)).mono ?_; rintro e1 w1 ⟨Ao, co, out, vs, i, rfl, hvs, hs, hM1⟩; clear hM; have hM := hM1; clear hM1; (try simp only [List.set_cons_succ, List.set_cons_zero] at hM)))
  go_ret2
  cases hs
  rw [offs_eq]
  exact ⟨Ao, co, rfl, hM.tail⟩
set_option maxRecDepth 100000 in
set_option maxHeartbeats 4000000 in
theorem Committed_nil {w0 w : World} {own : Nat → Prop} {L : List Item} (hM : Mem w0 own w L) (fr most : Int) :
    Calls Try.prog 12 #[.pointer none, .int .i64 fr, .int .i64 most] w fun e w' => ∃ A c, e = .returned (.tuple #[.slice A 0 c, .int .i64 (max fr 0)]) ∧ Mem w0 own w' L := by
  go_enter Try.func12, Try.ntmps12
  go_wp2_with (first
    | ((with_reducible refine wl_shape ?_); first | (apply wl_boxa; exact rfl; exact hM; exact rfl; exact rfl; clear hM; intro gg ww hM; simp only [putT, List.set_cons_succ, List.set_cons_zero]) | (apply wl_box1; exact rfl; exact hM; exact rfl; exact rfl; exact rfl; clear hM; intro gg ww hM; simp only [putT, List.set_cons_succ, List.set_cons_zero]) | (apply wl_alloc; exact rfl; exact hM; exact rfl; exact inferInstance; clear hM; intro gg ww hM; simp only [putT, List.set_cons_succ, List.set_cons_zero]) | (apply wl_ld; exact rfl; exact hM; exact rfl; exact rfl; exact inferInstance; exact inferInstance; simp only [putT, List.set_cons_succ, List.set_cons_zero]) | (apply wl_lda; exact rfl; exact hM; exact rfl; exact rfl; exact inferInstance; exact inferInstance; exact inferInstance; exact inferInstance; simp only [putT, List.set_cons_succ, List.set_cons_zero]) | (apply wl_ldr; exact rfl; exact hM; exact rfl; exact rfl; exact inferInstance; exact inferInstance; exact inferInstance; exact inferInstance; simp only [putT, List.set_cons_succ, List.set_cons_zero]) | (apply wl_st; exact rfl; exact hM; exact rfl; exact rfl; exact rfl; exact rfl; exact inferInstance; exact inferInstance; clear hM; intro ww hM; simp only [putT, List.set_cons_succ, List.set_cons_zero]) | (apply wl_sta; exact rfl; exact hM; exact rfl; exact rfl; exact rfl; exact all_oneCell_toArray One.out; exact inferInstance; exact inferInstance; exact inferInstance; clear hM; intro ww hM; simp only [putT, List.set_cons_succ, List.set_cons_zero]) | (apply wl_bs0; exact rfl; exact hM; exact rfl; exact inferInstance; clear hM; intro gg ww hM; simp only [putT, List.set_cons_succ, List.set_cons_zero]) | (apply wl_bs1a; exact rfl; exact hM; exact rfl; exact inferInstance; exact rfl; exact inferInstance; clear hM; intro gg ww hM; simp only [putT, List.set_cons_succ, List.set_cons_zero]) | (apply wl_bs11; exact rfl; exact hM; exact rfl; exact inferInstance; exact rfl; exact rfl; clear hM; intro gg ww hM; simp only [putT, List.set_cons_succ, List.set_cons_zero]) | (apply wl_conv; exact rfl; exact hM; exact rfl; exact rfl; exact inferInstance; exact inferInstance; simp only [putT, List.set_cons_succ, List.set_cons_zero]))
    | (go_at_call 35; refine (committed_nil hM).mono ?_; rintro e1 w1 ⟨gs, rfl, hM1⟩; clear hM; have hM := hM1; clear hM1; (try simp only [List.set_cons_succ, List.set_cons_zero] at hM))
    | (go_at_call 37; refine (Stable_nil _).mono ?_; rintro e1 w1 ⟨rfl, rfl⟩)
    | (go_at_call 36; refine (read_any (LM := [_, _]) hM none fr most 0 38 _ [] (fun r => comS [] r.p r.e r.t) (offs fr) (offs_eq fr) (fun h => absurd h (Nat.lt_irrefl 0)) (fun args w => run_callFunc Try.func38 (by kernel_rfl) rfl args w) (fun r D c w' X hX => ComC_any hX r D c) (fun bf bl => iter_nil2)).mono ?_; rintro e1 w1 ⟨Ao, co, out, vs, i, rfl, hvs, hs, hM1⟩; clear hM; have hM := hM1; clear hM1; (try simp only [List.set_cons_succ, List.set_cons_zero] at hM)))
  go_ret2
  cases hs
  rw [offs_eq]
  exact ⟨Ao, co, rfl, hM.tail.tail.tail⟩
def NilT (v : Value) (_ : World) : Prop := ∃ A c u, v = .tuple #[.slice A 0 c, u]
def NilS (v : Value) (_ : World) : Prop := ∃ A c, v = .slice A 0 c
theorem nilT_0 (v : Value) (w : World) (h : NilT v w) : ∃ ts u, v = .tuple ts ∧ ts[0]? = some u ∧ NilS u w := by
  obtain ⟨A, c, u, rfl⟩ := h
  exact ⟨_, _, rfl, rfl, A, c, rfl⟩
theorem nilT_1 (v : Value) (w : World) (h : NilT v w) : ∃ ts u, v = .tuple ts ∧ ts[1]? = some u ∧ True := by
  obtain ⟨A, c, u, rfl⟩ := h
  exact ⟨_, _, rfl, rfl, trivial⟩
attribute [local go_sem] Oper.semAt_some
set_option maxRecDepth 100000 in
set_option maxHeartbeats 8000000 in
theorem iter_each_nil {w0 : World} {own : Nat → Prop} {L : List Item} {b1 b2 : Nat} :
    Iter2 Try.prog 43 #[.pointer (some ⟨b1, 0, none⟩), .pointer (some ⟨b2, 0, none⟩)] enc1 [] w0 own (.blk b2 4 #[.bool true] :: .blk b1 25 #[.pointer none] :: L) := by
  intro l TT XX W T hT hM hY
  clear hY
  replace hM := hM.perm (List.perm_append_comm_assoc T [_, _] L)
  simp only [List.cons_append, List.nil_append] at hM
  refine (callsIn_wide (n := 0)).1 ?_
  refine callsIn_of_wp Try.func43 rfl trivial ?_
  simp only [Try.ntmps43, List.size_toArray, List.length_cons, List.length_nil, Nat.reduceAdd, Nat.reduceSub, Array.replicate_succ, Array.replicate_zero, List.push_toArray, List.append_toArray, List.nil_append, List.cons_append]
  gi_wp2
  refine wpIn_wide.2 ?_
  refine wp_region_b [3] [3, 4, 5, 6, 7, 8] [7] (C := fun w' => Mem w0 own w' (.blk b2 4 #[.bool true] :: .blk b1 25 #[.pointer none] :: (T ++ L))) hM.drew (by kernel_rfl) (by kernel_rfl) (by kernel_rfl) (by kernel_rfl) ?_
  simp only [initS, Act.put, List.setIfInBounds_toArray, List.set_cons_succ, List.set_cons_zero, List.map_cons, List.map_nil]
  repeat (first
    | (apply gb_ld (.pointer none); exact rfl; exact rfl; exact rfl; (intro w' hC; exact hC.cell 1 rfl 0); exact inferInstance; simp only [setD, List.set_cons_succ, List.set_cons_zero])
    | (refine gb_call (f := 30) rfl rfl rfl #[.pointer none] rfl (.int .i64 0) (fun γ w => by go_simp) (fun w' hC => Len_nil _) ?_; simp only [setD, List.set_cons_succ, List.set_cons_zero])
    | (refine gb_big (f := 13) rfl rfl rfl rfl #[.pointer none, .int .i64 0, .int .i64 0] rfl NilT (fun γ w => by go_simp) (fun w' hC => (Any_nil hC 0 0).mono fun e w'' ⟨A, c, he, hm⟩ => ⟨_, he, hm, A, c, _, rfl⟩) ?_; simp only [setD, List.set_cons_succ, List.set_cons_zero])
    | (refine gb_moveP (.inl rfl) rfl rfl _ rfl ?_; simp only [setD, List.set_cons_succ, List.set_cons_zero])
    | (refine gb_moveP (.inr rfl) rfl rfl _ rfl ?_; simp only [setD, List.set_cons_succ, List.set_cons_zero])
    | (refine gb_ext (i := 0) rfl rfl rfl _ _ rfl nilT_0 ?_; simp only [setD, List.set_cons_succ, List.set_cons_zero])
    | (refine gb_ext (i := 1) rfl rfl rfl _ (fun _ _ => True) rfl nilT_1 ?_; simp only [setD, List.set_cons_succ, List.set_cons_zero]))
  refine gw_nil ?_
  intro γ w4 hC' hk'
  have h4 : NilS (γ 4) w4 := hk' 7 4 _ rfl rfl rfl
  simp only [slAct, slVals, Slot.get]
  clear hk' hM
  have hM := hC'
  clear hC'
  obtain ⟨A0, c0, he0⟩ := h4
  rw [he0]
  clear he0
  gi_wp2_with (first | (refine wpListIn_of1 (fun _ e => by cases e) ?_; ((with_reducible refine wl_shape ?_); first | (apply wl_boxa; exact rfl; exact hM; exact rfl; exact rfl; clear hM; intro gg ww hM; simp only [putT, List.set_cons_succ, List.set_cons_zero]) | (apply wl_box1; exact rfl; exact hM; exact rfl; exact rfl; exact rfl; clear hM; intro gg ww hM; simp only [putT, List.set_cons_succ, List.set_cons_zero]) | (apply wl_alloc; exact rfl; exact hM; exact rfl; exact inferInstance; clear hM; intro gg ww hM; simp only [putT, List.set_cons_succ, List.set_cons_zero]) | (apply wl_ld; exact rfl; exact hM; exact rfl; exact rfl; exact inferInstance; exact inferInstance; simp only [putT, List.set_cons_succ, List.set_cons_zero]) | (apply wl_lda; exact rfl; exact hM; exact rfl; exact rfl; exact inferInstance; exact inferInstance; exact inferInstance; exact inferInstance; simp only [putT, List.set_cons_succ, List.set_cons_zero]) | (apply wl_ldr; exact rfl; exact hM; exact rfl; exact rfl; exact inferInstance; exact inferInstance; exact inferInstance; exact inferInstance; simp only [putT, List.set_cons_succ, List.set_cons_zero]) | (apply wl_st; exact rfl; exact hM; exact rfl; exact rfl; exact rfl; exact rfl; exact inferInstance; exact inferInstance; clear hM; intro ww hM; simp only [putT, List.set_cons_succ, List.set_cons_zero]) | (apply wl_sta; exact rfl; exact hM; exact rfl; exact rfl; exact rfl; exact all_oneCell_toArray One.out; exact inferInstance; exact inferInstance; exact inferInstance; clear hM; intro ww hM; simp only [putT, List.set_cons_succ, List.set_cons_zero]) | (apply wl_bs0; exact rfl; exact hM; exact rfl; exact inferInstance; clear hM; intro gg ww hM; simp only [putT, List.set_cons_succ, List.set_cons_zero]) | (apply wl_bs1a; exact rfl; exact hM; exact rfl; exact inferInstance; exact rfl; exact inferInstance; clear hM; intro gg ww hM; simp only [putT, List.set_cons_succ, List.set_cons_zero]) | (apply wl_bs11; exact rfl; exact hM; exact rfl; exact inferInstance; exact rfl; exact rfl; clear hM; intro gg ww hM; simp only [putT, List.set_cons_succ, List.set_cons_zero]) | (apply wl_conv; exact rfl; exact hM; exact rfl; exact rfl; exact inferInstance; exact inferInstance; simp only [putT, List.set_cons_succ, List.set_cons_zero])); refine wpListIn_end ?_))
  refine wpIn_wide.2 ?_
  refine wp_region_b [3] [3, 4, 5, 6, 7] [7] (C := fun w' => Mem w0 own w' (.blk b2 4 #[.bool true] :: .blk b1 25 #[.pointer none] :: (T ++ L))) hM.drew (by kernel_rfl) (by kernel_rfl) (by kernel_rfl) (by kernel_rfl) ?_
  simp only [initS, Act.put, List.setIfInBounds_toArray, List.set_cons_succ, List.set_cons_zero, List.map_cons, List.map_nil]
  repeat (first
    | (apply gb_ld (.pointer none); exact rfl; exact rfl; exact rfl; (intro w' hC; exact hC.cell 1 rfl 0); exact inferInstance; simp only [setD, List.set_cons_succ, List.set_cons_zero])
    | (refine gb_call (f := 30) rfl rfl rfl #[.pointer none] rfl (.int .i64 0) (fun γ w => by go_simp) (fun w' hC => Len_nil _) ?_; simp only [setD, List.set_cons_succ, List.set_cons_zero])
    | (refine gb_big (f := 12) rfl rfl rfl rfl #[.pointer none, .int .i64 0, .int .i64 0] rfl NilT (fun γ w => by go_simp) (fun w' hC => (Committed_nil hC 0 0).mono fun e w'' ⟨A, c, he, hm⟩ => ⟨_, he, hm, A, c, _, rfl⟩) ?_; simp only [setD, List.set_cons_succ, List.set_cons_zero])
    | (refine gb_moveP (.inl rfl) rfl rfl _ rfl ?_; simp only [setD, List.set_cons_succ, List.set_cons_zero])
    | (refine gb_moveP (.inr rfl) rfl rfl _ rfl ?_; simp only [setD, List.set_cons_succ, List.set_cons_zero])
    | (refine gb_ext (i := 0) rfl rfl rfl _ _ rfl nilT_0 ?_; simp only [setD, List.set_cons_succ, List.set_cons_zero])
    | (refine gb_ext (i := 1) rfl rfl rfl _ (fun _ _ => True) rfl nilT_1 ?_; simp only [setD, List.set_cons_succ, List.set_cons_zero]))
  refine gw_nil ?_
  intro γ' w5 hC' hk'
  have h5 : NilS (γ' 4) w5 := hk' 7 4 _ rfl rfl rfl
  simp only [slAct, slVals, Slot.get]
  clear hk' hM
  have hM := hC'
  clear hC'
  obtain ⟨A1, c1, he1⟩ := h5
  rw [he1]
  clear he1
  gi_wp2_with (first | (refine wpListIn_of1 (fun _ e => by cases e) ?_; ((with_reducible refine wl_shape ?_); first | (apply wl_boxa; exact rfl; exact hM; exact rfl; exact rfl; clear hM; intro gg ww hM; simp only [putT, List.set_cons_succ, List.set_cons_zero]) | (apply wl_box1; exact rfl; exact hM; exact rfl; exact rfl; exact rfl; clear hM; intro gg ww hM; simp only [putT, List.set_cons_succ, List.set_cons_zero]) | (apply wl_alloc; exact rfl; exact hM; exact rfl; exact inferInstance; clear hM; intro gg ww hM; simp only [putT, List.set_cons_succ, List.set_cons_zero]) | (apply wl_ld; exact rfl; exact hM; exact rfl; exact rfl; exact inferInstance; exact inferInstance; simp only [putT, List.set_cons_succ, List.set_cons_zero]) | (apply wl_lda; exact rfl; exact hM; exact rfl; exact rfl; exact inferInstance; exact inferInstance; exact inferInstance; exact inferInstance; simp only [putT, List.set_cons_succ, List.set_cons_zero]) | (apply wl_ldr; exact rfl; exact hM; exact rfl; exact rfl; exact inferInstance; exact inferInstance; exact inferInstance; exact inferInstance; simp only [putT, List.set_cons_succ, List.set_cons_zero]) | (apply wl_st; exact rfl; exact hM; exact rfl; exact rfl; exact rfl; exact rfl; exact inferInstance; exact inferInstance; clear hM; intro ww hM; simp only [putT, List.set_cons_succ, List.set_cons_zero]) | (apply wl_sta; exact rfl; exact hM; exact rfl; exact rfl; exact rfl; exact all_oneCell_toArray One.out; exact inferInstance; exact inferInstance; exact inferInstance; clear hM; intro ww hM; simp only [putT, List.set_cons_succ, List.set_cons_zero]) | (apply wl_bs0; exact rfl; exact hM; exact rfl; exact inferInstance; clear hM; intro gg ww hM; simp only [putT, List.set_cons_succ, List.set_cons_zero]) | (apply wl_bs1a; exact rfl; exact hM; exact rfl; exact inferInstance; exact rfl; exact inferInstance; clear hM; intro gg ww hM; simp only [putT, List.set_cons_succ, List.set_cons_zero]) | (apply wl_bs11; exact rfl; exact hM; exact rfl; exact inferInstance; exact rfl; exact rfl; clear hM; intro gg ww hM; simp only [putT, List.set_cons_succ, List.set_cons_zero]) | (apply wl_conv; exact rfl; exact hM; exact rfl; exact rfl; exact inferInstance; exact inferInstance; simp only [putT, List.set_cons_succ, List.set_cons_zero])); refine wpListIn_end ?_))
  gi_loopw [25] (fun v wr => v = .int .i64 0 ∧ Mem w0 own wr (.blk b2 4 #[.bool true] :: .blk b1 25 #[.pointer none] :: (T ++ L))) (fun _ _ => 0)
  case atStart => exact ⟨rfl, hM⟩
  case round =>
    clear hM
    obtain ⟨rfl, hM⟩ := hrel
    gi_wp2_with (first | (refine wpListIn_of1 (fun _ e => by cases e) ?_; ((with_reducible refine wl_shape ?_); first | (apply wl_boxa; exact rfl; exact hM; exact rfl; exact rfl; clear hM; intro gg ww hM; simp only [putT, List.set_cons_succ, List.set_cons_zero]) | (apply wl_box1; exact rfl; exact hM; exact rfl; exact rfl; exact rfl; clear hM; intro gg ww hM; simp only [putT, List.set_cons_succ, List.set_cons_zero]) | (apply wl_alloc; exact rfl; exact hM; exact rfl; exact inferInstance; clear hM; intro gg ww hM; simp only [putT, List.set_cons_succ, List.set_cons_zero]) | (apply wl_ld; exact rfl; exact hM; exact rfl; exact rfl; exact inferInstance; exact inferInstance; simp only [putT, List.set_cons_succ, List.set_cons_zero]) | (apply wl_lda; exact rfl; exact hM; exact rfl; exact rfl; exact inferInstance; exact inferInstance; exact inferInstance; exact inferInstance; simp only [putT, List.set_cons_succ, List.set_cons_zero]) | (apply wl_ldr; exact rfl; exact hM; exact rfl; exact rfl; exact inferInstance; exact inferInstance; exact inferInstance; exact inferInstance; simp only [putT, List.set_cons_succ, List.set_cons_zero]) | (apply wl_st; exact rfl; exact hM; exact rfl; exact rfl; exact rfl; exact rfl; exact inferInstance; exact inferInstance; clear hM; intro ww hM; simp only [putT, List.set_cons_succ, List.set_cons_zero]) | (apply wl_sta; exact rfl; exact hM; exact rfl; exact rfl; exact rfl; exact all_oneCell_toArray One.out; exact inferInstance; exact inferInstance; exact inferInstance; clear hM; intro ww hM; simp only [putT, List.set_cons_succ, List.set_cons_zero]) | (apply wl_bs0; exact rfl; exact hM; exact rfl; exact inferInstance; clear hM; intro gg ww hM; simp only [putT, List.set_cons_succ, List.set_cons_zero]) | (apply wl_bs1a; exact rfl; exact hM; exact rfl; exact inferInstance; exact rfl; exact inferInstance; clear hM; intro gg ww hM; simp only [putT, List.set_cons_succ, List.set_cons_zero]) | (apply wl_bs11; exact rfl; exact hM; exact rfl; exact inferInstance; exact rfl; exact rfl; clear hM; intro gg ww hM; simp only [putT, List.set_cons_succ, List.set_cons_zero]) | (apply wl_conv; exact rfl; exact hM; exact rfl; exact rfl; exact inferInstance; exact inferInstance; simp only [putT, List.set_cons_succ, List.set_cons_zero])); refine wpListIn_end ?_))
    go_end0
    refine ⟨⟨_, rfl⟩, .inl ⟨T, hT, ?_⟩⟩
    exact hM.perm (List.perm_append_comm_assoc [_, _] T L)
set_option maxRecDepth 100000 in
set_option maxHeartbeats 8000000 in
theorem FetchOfNothing_any (w : World) (fr most : Int) : Calls Try.prog 5 #[.int .i64 fr, .int .i64 most] w fun e w' => e = .returned (.bool true) ∧ Grow w noOwn w' := by
  have hM := Mem.nil w noOwn
  go_enter Try.func5, Try.ntmps5
  go_wp2_with (first
    | (go_at_call 12; refine (Committed_nil hM fr most).mono ?_; rintro e1 w1 ⟨Aa, ca, rfl, hM1⟩; clear hM; have hM := hM1; clear hM1; (try simp only [List.set_cons_succ, List.set_cons_zero] at hM))
    | (go_at_call 13; refine (Any_nil hM fr most).mono ?_; rintro e1 w1 ⟨Ab, cb, rfl, hM1⟩; clear hM; have hM := hM1; clear hM1; (try simp only [List.set_cons_succ, List.set_cons_zero] at hM))
    | (go_at_call 21; refine (Aborted_nil _ _ _).mono ?_; rintro e1 w1 ⟨rfl, hg⟩; replace hM := hM.call hg; clear hg)
    | (go_at_call 23; refine (Each_mk hM none true).mono ?_; rintro e1 w1 ⟨b1, b2, rfl, hM1⟩; clear hM; have hM := hM1; clear hM1; (try simp only [List.set_cons_succ, List.set_cons_zero] at hM))
    | (go_at_call 22; refine (told12_any hM 43 _ [] 5 (by simp) (fun args w => run_callFunc Try.func43 (by kernel_rfl) rfl args w) iter_each_nil).mono ?_; rintro e1 w1 ⟨At, ct, vt, rfl, hvt, hM1⟩; replace hM1 := hM1.pack; clear hM; have hM := hM1; clear hM1; (try simp only [List.set_cons_succ, List.set_cons_zero] at hM))
    | (go_at_call 17; refine (known12_any _).mono ?_; rintro e1 w1 ⟨rfl, hg⟩; replace hM := hM.call hg; clear hg))
  go_ret
  exact ⟨rfl, hM.grow⟩
end Go.Proofs.Ytechglhkcjgodaa
