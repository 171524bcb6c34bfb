/- The laws of the rings, walked (5). -/
import Derived.Test.YtggpchdgljhmdaaSeal6
namespace Go.Proofs.Ytggpchdgljhmdaa
open Go.RowKit
set_option linter.unusedSimpArgs false

theorem checkOf_eq (ks : List (List (BitVec 8))) (i : Int) (l t : List (BitVec 8)) (h : 0 ≤ i ∧ i < ks.length) : checkOf ks i l t = (sealOf ks i l == t) := by
  unfold checkOf; simp only [h, and_self, decide_true, Bool.true_and]
theorem gw_eql_hash {ops : Array Oper} {C D : World → Prop} {R R' : World → World → Prop} {bigs preds : List Nat} {d : List Deferred} {Fin : List Slot → Prop} {k : Nat} {o : Oper} {rest : List Oper} {S : List Slot}
    (hq : Quiet C R R') (hw : slWants ops S o = some true) (x y : Operand) (t' : TypeId) (ho : o.op = .binOp .eql 25 x y t') (l m : List (BitVec 8)) (hx : slEval S x = some (.agg (hv l))) (hy : slEval S y = some (.agg (hv m))) (hl : l.length = 32) (hm : m.length = 32) (b : Bool) (hb : (l == m) = b)
    (h : GW Try.prog ops C D R R' bigs preds d Fin (k + 1) rest (setD S o.dst (.val (.bool b)))) : GW Try.prog ops C D R R' bigs preds d Fin k (o :: rest) S :=
  gw_read hq hw _ (fun γ w _ => by
    unfold execOp
    simp only [ho, slEval_spec hx γ, slEval_spec hy γ, Sem.run_bind, eqGuard_hash, Result.andThen_ok, eql_hash w l m hl hm, Sem.run_pure, hb]) h
set_option maxRecDepth 100000 in
set_option maxHeartbeats 1000000 in
theorem SealOwn_any (w : World) (i j : Int) (n1 c1 n2 c2 : Nat) (A1 A2 : Option Addr) (l1 l2 : List (BitVec 8)) (hb1 : Bytes w w.heap.size A1 n1 l1) (hb2 : Bytes w w.heap.size A2 n2 l2) :
    Calls Try.prog 11 #[.int .i64 i, .int .i64 j, .slice A1 n1 c1, .slice A2 n2 c2] w fun e w' => e = .returned (.bool true) ∧ Grow w noOwn w' := by
  have hM := Mem.nil w noOwn
  by_cases hin : (0 ≤ i ∧ i ≤ 3) ∧ (0 ≤ j ∧ j ≤ 3) ∧ n1 ≤ 1000 ∧ n2 ≤ 1000
  · obtain ⟨⟨i0, i3⟩, ⟨j0, j3⟩, hn1, hn2⟩ := hin
    obtain ⟨ks, hks⟩ : ∃ ks, ks = keysOf (seed1 7#8) 4 := ⟨_, rfl⟩
    have hkl : ks.length = 4 := by rw [hks]; exact keysOf_length _ _
    have hT := sealOf_length ks i l1
    have hci := hide (checkOf_own ks i l1 (by rw [hkl]; omega))
    have hcj := hide (checkOf_eq ks j l2 (sealOf ks i l1) (by rw [hkl]; omega))
    obtain ⟨T, hTe⟩ : ∃ T, T = sealOf ks i l1 := ⟨_, rfl⟩
    have hT2 := hide (sealOf_length ks j l2)
    obtain ⟨bj, hbj⟩ : ∃ b : Bool, (sealOf ks j l2 == T) = b := ⟨_, rfl⟩
    have HB := hide hbj
    clear hbj
    rw [← hTe] at hT
    have HTe := hide hTe
    have HK := hide hks
    have HL := hide hkl
    clear hTe hks hkl
    go_enter Try.func11, Try.ntmps11
    go_wp2_with (first
      | (refine wpList_build_to rfl 25 #[(0, .const (.int .u8 7))] rfl (hv (seed1 7#8)) (by kernel_rfl) ?_)
      | (go_at_call 25; refine (New_any _ 4 (seed1 7#8) rfl).mono ?_; rintro e w1 ⟨⟨p, rfl, g, A, d, rfl, hr⟩, hg⟩; rw [cnt4, ← unhide HK] at hr; replace hb1 := gro_up hg hb1; replace hb2 := gro_up hg hb2; replace hM := hM.call hg; clear hg)
      | (go_at_call 26; refine (RNew_any _ 4 (seed1 7#8) rfl).mono ?_; rintro e w2 ⟨⟨p, rfl, g', A', d', rfl, hr'⟩, hg⟩; rw [cnt4, ← unhide HK] at hr'; replace hr := hr.grow hg; replace hb1 := gro_up hg hb1; replace hb2 := gro_up hg hb2; replace hM := hM.call hg; clear hg)
      | (go_at_call 28; refine (Seal_any _ g d n1 c1 A A1 _ i l1 hr hb1 (by omega)).mono ?_; rintro e w3 ⟨rfl, hg⟩; replace hb1 := gro_up hg hb1; replace hb2 := gro_up hg hb2; replace hr := hr.grow hg; replace hr' := hr'.grow hg; have hg3 := hM.grow.then_ hg; clear hg hM; have hM := Mem.nil w3 noOwn; rw [← unhide HTe])
      | (refine wpList_alloc_mem hM rfl 25 rfl _ zero32 ?_; clear hM; intro g10 w4 hM)
      | (refine wpList_store_mem rfl 25 _ _ rfl hM 0 _ _ _ (hv T) rfl rfl rfl (size32 _ hT) (hvz _ hT) (oneCells8 _) ?_; clear hM; intro w5 hM _))
    have hr5 := hr.grow hM.grow
    have hr5' := hr'.grow hM.grow
    have hb5 := gro_up hM.grow hb1
    have hb6 := gro_up hM.grow hb2
    have hg5 := hg3.then_ hM.grow
    have hblk : ∀ w', Grow w5 noOwn w' → Blk w' g10 25 (hv T) := fun w' hg => hg.blk (hM.blk 0 rfl) (fun e => e)
    clear hr hr' hb1 hb2 hg3
    have hq : Quiet (fun w' => Grow w5 noOwn w') (fun w1 w2 => Grow w1 noOwn w2) (fun _ _ => True) := ⟨fun w _ => Grow.refl w _, fun _ _ => trivial⟩
    refine wp_region_ghost (C := fun w' => Grow w5 noOwn w') (D := fun _ => True) (R := fun w1 w2 => Grow w1 noOwn w2) (R' := fun _ _ => True) [] [] [] (by kernel_rfl) (by kernel_rfl) (by kernel_rfl) (by kernel_rfl) ((Grow.refl w5 noOwn).drew) trivial (fun _ _ _ _ _ h => h) hq.1 hq.2 ?_
    simp only [initS, Act.put, List.setIfInBounds_toArray, List.set_cons_succ, List.set_cons_zero, List.map_cons, List.map_nil]
    repeat (first
      | (refine gw_move hq rfl _ (.inl rfl) _ rfl ?_; simp only [setD, List.set_cons_succ, List.set_cons_zero])
      | (refine gw_skip rfl ?_; simp only [setD, List.set_cons_succ, List.set_cons_zero])
      | (refine gw_pick hq rfl _ _ _ rfl _ _ _ rfl rfl rfl ?_; simp only [setD, List.set_cons_succ, List.set_cons_zero, cond_true, cond_false])
      | (refine gw_load_blk hq rfl 25 _ rfl g10 25 (hv T) rfl hblk _ Try.underlying25 rfl (size32 _ hT) ?_; simp only [setD, List.set_cons_succ, List.set_cons_zero])
      | (refine gw_call rfl (by rfl) 30 _ _ rfl #[.pointer (some ⟨g, 0, none⟩), .int .i64 i, .slice A1 n1 c1, .agg (hv T)] rfl (.bool true) (fun γ w => by go_simp) (fun w' hC => (Check_any w' g d n1 c1 A A1 ks i l1 T (hr5.grow hC) (gro_up hC hb5) (by omega) hT).mono fun e w'' he => ⟨he.1.trans (congrArg (fun b => Ending.returned (.bool b)) ((congrArg (checkOf ks i l1) (unhide HTe)).trans (unhide hci))), hC.then_ he.2, he.2⟩) ?_; simp only [setD, List.set_cons_succ, List.set_cons_zero])
      | (refine gw_call rfl (by rfl) 30 _ _ rfl #[.pointer (some ⟨g, 0, none⟩), .int .i64 j, .slice A2 n2 c2, .agg (hv T)] rfl (.bool bj) (fun γ w => by go_simp) (fun w' hC => (Check_any w' g d n2 c2 A A2 ks j l2 T (hr5.grow hC) (gro_up hC hb6) (by omega) hT).mono fun e w'' he => ⟨he.1.trans (congrArg (fun b => Ending.returned (.bool b)) ((checkOf_eq ks j l2 T (by rw [unhide HL]; omega)).trans (unhide HB))), hC.then_ he.2, he.2⟩) ?_; simp only [setD, List.set_cons_succ, List.set_cons_zero])
      | (refine gw_call rfl (by rfl) 29 _ _ rfl #[.pointer (some ⟨g', 0, none⟩), .int .i64 j, .slice A2 n2 c2] rfl (.agg (hv (sealOf ks j l2))) (fun γ w => by go_simp) (fun w' hC => (RSeal_any w' g' d' n2 c2 A' A2 ks j l2 (hr5'.grow hC) (gro_up hC hb6) (by omega)).mono fun e w'' he => ⟨he.1, hC.then_ he.2, he.2⟩) ?_; simp only [setD, List.set_cons_succ, List.set_cons_zero])
      | (refine gw_call rfl (by rfl) 32 _ _ rfl #[] rfl (.bool true) (fun γ w => by go_simp) (fun w' hC => (known4_any w').mono fun e w'' he => ⟨he.1, hC.then_ he.2, he.2⟩) ?_; simp only [setD, List.set_cons_succ, List.set_cons_zero])
      | (refine gw_eql_hash hq rfl _ _ _ rfl _ _ rfl rfl (unhide hT2) hT bj (unhide HB) ?_; simp only [setD, List.set_cons_succ, List.set_cons_zero])
      | (refine gw_pure_ex hq rfl (fun K hK => ?_); go_simp; refine hK _ ?_; clear hK K; simp only [setD, List.set_cons_succ, List.set_cons_zero]))
    intro γ w6 hC6 _
    simp only [slAct, slVals, Slot.get]
    go_wp2_with fail
    go_ret
    exact ⟨rfl, hg5.then_ hC6⟩
  · have hcase : i < 0 ∨ (0 ≤ i ∧ 3 < i) ∨ ((0 ≤ i ∧ i ≤ 3) ∧ j < 0) ∨ ((0 ≤ i ∧ i ≤ 3) ∧ 0 ≤ j ∧ 3 < j) ∨ ((0 ≤ i ∧ i ≤ 3) ∧ (0 ≤ j ∧ j ≤ 3) ∧ 1000 < n1) ∨ ((0 ≤ i ∧ i ≤ 3) ∧ (0 ≤ j ∧ j ≤ 3) ∧ n1 ≤ 1000 ∧ 1000 < n2) := by omega
    clear hin
    rcases hcase with h1 | ⟨h1, h2⟩ | ⟨⟨h1, h2⟩, h3⟩ | ⟨⟨h1, h2⟩, h3, h4⟩ | ⟨⟨h1, h2⟩, ⟨h3, h4⟩, h5⟩ | ⟨⟨h1, h2⟩, ⟨h3, h4⟩, h5, h6⟩
    all_goals
      go_enter Try.func11, Try.ntmps11
      go_wp2_with fail
      go_ret
      exact ⟨rfl, Grow.refl ..⟩
end Go.Proofs.Ytggpchdgljhmdaa
