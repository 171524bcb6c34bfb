/- fault's laws: votes compared; messages compared; what is long. The document: is a number between two others; the digest of a value. fault's laws: the example that every law runs; what comes in. -/
import Derived.Test.YtgdfdombcngpnaaFJ2
import Derived.Test.YtgdfdombcngpnaaRJ
import Derived.Test.YtgdfdombcngpnaaEqV
import Derived.Test.YtgdfdombcngpnaaMark2
import Derived.Test.YtgdfdombcngpnaaReadV
namespace Go.Proofs.Ytgdfdombcngpnaa
section
open Go.RowKit Go.MapKept
set_option linter.unusedSimpArgs false
set_option linter.unusedVariables false
theorem map_inj8 {β : Type} {f : BitVec 8 → β} (hf : ∀ x y, f x = f y → x = y) : ∀ (a b : List (BitVec 8)), a.map f = b.map f → a = b
  | [], [], _ => rfl
  | [], _ :: _, h => by simp at h
  | _ :: _, [], h => by simp at h
  | x :: a, y :: b, h => by
    simp only [List.map_cons, List.cons.injEq] at h
    rw [hf _ _ h.1, map_inj8 hf a b h.2]
theorem eq_int2 (w : World) (d : Nat) (y z : Int) : (Op.equalIn (d + 1) 3 (.int .i64 y) (.int .i64 z)).run Try.prog w = .ok (y == z) w := by
  simp [Op.equalIn, run_underlying Try.underlying3]
set_option maxRecDepth 100000 in
theorem eq_hash2 (w : World) (d : Nat) (a b : List (BitVec 8)) (ha : a.length = 32) (hb : b.length = 32) : (Op.equalIn (d + 2) 30 (.agg (hv a)) (.agg (hv b))).run Try.prog w = .ok (a == b) w := by
  rw [hv_cells, hv_cells, run_equalIn_bytes w d 30 5 32 Try.underlying30 Try.underlying5 size_u8 _ _ (by simpa using ha) (by simpa using hb)]
  congr 1
  by_cases h : a = b
  · subst h; simp
  · have h1 : (a == b) = false := beq_eq_false_iff_ne.2 h
    rw [h1]
    simp only [decide_eq_false_iff_not, beq_eq_false_iff_ne, ne_eq]
    intro h2
    exact h (map_inj8 (f := UInt8.ofBitVec) (fun x y e => by injection e) _ _ (by simpa using h2))
set_option maxRecDepth 100000 in
theorem eq_vote2 (w : World) (a b : Vt) (ha : a.Ok) (hb : b.Ok) : (Op.equalIn 10000 47 (.agg (vtc a).toArray) (.agg (vtc b).toArray)).run Try.prog w = .ok (decide (a = b)) w := by
  have hu : Try.prog.underlying 47 = some (.struct (Try.prog.fieldsOf 47)) := by
    unfold Program.fieldsOf
    rw [Try.underlying47]
  rw [run_equalIn_struct w 9999 _ _ _ hu (by kernel_rfl)]
  have p0 := fun (v : Vt) w => part_int w (vtc v).toArray 0 (.int .i64 v.k) rfl
  have p1 := fun (v : Vt) w => part_int w (vtc v).toArray 1 (.int .i64 v.s) rfl
  have p2 := fun (v : Vt) w => part_int w (vtc v).toArray 2 (.int .i64 v.v) rfl
  have p3 := fun (v : Vt) w => part_hash w (vtc v).toArray 3
  have p4a := fun w => part_int w (vtc a).toArray 35 (.int .i64 a.f) (by simpa using vtc_35 ha)
  have p4b := fun w => part_int w (vtc b).toArray 35 (.int .i64 b.f) (by simpa using vtc_35 hb)
  have p5 := fun (v : Vt) w => part_hash w (vtc v).toArray 36
  have p3a := p3 a
  have p3b := p3 b
  have p5a := p5 a
  have p5b := p5 b
  rw [ext_sum ha] at p3a
  rw [ext_sum hb] at p3b
  rw [ext_tag ha] at p5a
  rw [ext_tag hb] at p5b
  have q := fun w y z => eq_int2 w 9998 y z
  have q3 := fun w => eq_hash2 w 9997 a.sum b.sum ha.sum hb.sum
  have q5 := fun w => eq_hash2 w 9997 a.tag b.tag ha.tag hb.tag
  clear p3 p5
  unfold Program.fieldsOf
  rw [Try.underlying47]
  have hab : decide (a = b) = ((a.k == b.k) && (a.s == b.s) && (a.v == b.v) && (a.sum == b.sum) && (a.f == b.f) && (a.tag == b.tag)) := by
    rcases a with ⟨a1, a2, a3, a4, a5, a6⟩
    rcases b with ⟨b1, b2, b3, b4, b5, b6⟩
    by_cases h : a1 = b1 <;> by_cases h2 : a2 = b2 <;> by_cases h3 : a3 = b3 <;> by_cases h4 : a4 = b4 <;> by_cases h5 : a5 = b5 <;> by_cases h6 : a6 = b6 <;> simp [h, h2, h3, h4, h5, h6]
  rw [hab]
  simp only [Op.eqFields, Sem.run_bind, Sem.run_pure, Sem.run_ite, p0, p1, p2, p3a, p3b, p4a, p4b, p5a, p5b, q, q3, q5, Result.andThen_ok]
  cases (a.k == b.k) <;> cases (a.s == b.s) <;> cases (a.v == b.v) <;> cases (a.sum == b.sum) <;> cases (a.f == b.f) <;> cases (a.tag == b.tag) <;> simp
section
variable {l : List Oper} {w0 w : World} {own : Nat → Prop} {L : List Item} {D : World → Prop} {d : List Deferred} {Fin : List Slot → Prop} {k : Nat} {o : Oper} {rest : List Oper} {S : List Slot} {bigs preds : List Nat}
theorem gm_eqv2 (u v : Vt) (hu : u.Ok) (hv : v.Ok) {x y : Operand} {t' : TypeId} (ho : o.op = .binOp .eql 47 x y t') (hw : slWantsL l S o.guard = some true) (hx : slEval S x = some (.agg (vtc u).toArray)) (hy : slEval S y = some (.agg (vtc v).toArray))
    (h : GW Try.prog l.toArray (MC w0 own L) D SameW AnyB bigs preds d Fin (k + 1) rest (setD S o.dst (.val (.bool (decide (u = v)))))) : GW Try.prog l.toArray (MC w0 own L) D SameW AnyB bigs preds d Fin k (o :: rest) S :=
  gw_read quietB (slWants_of hw) (.bool (decide (u = v))) (fun γ w hC => by
    unfold execOp
    simp only [ho, slEval_spec hx γ, slEval_spec hy γ, Sem.run_bind, eqg_vote, Result.andThen_ok, run_eql_struct, eq_vote2 _ u v hu hv, Sem.run_pure]) h
theorem gm_nev (v : Vt) (hv : v.Ok) {x y : Operand} {t' : TypeId} (ho : o.op = .binOp .neq 47 x y t') (hw : slWantsL l S o.guard = some true) (hx : slEval S x = some (.agg (vtc v).toArray)) (hy : slEval S y = some (.agg (vtc v).toArray))
    (h : GW Try.prog l.toArray (MC w0 own L) D SameW AnyB bigs preds d Fin (k + 1) rest (setD S o.dst (.val (.bool false)))) : GW Try.prog l.toArray (MC w0 own L) D SameW AnyB bigs preds d Fin k (o :: rest) S :=
  gw_read quietB (slWants_of hw) (.bool false) (fun γ w hC => by
    unfold execOp
    simp only [ho, slEval_spec hx γ, slEval_spec hy γ, Sem.run_bind, eqg_vote, Result.andThen_ok, run_neq_struct, eq_vote _ v hv, Sem.run_pure, Bool.not_true]) h
end
attribute [local irreducible] wpList Code.wp GW Calls
set_option maxRecDepth 100000 in
set_option maxHeartbeats 4000000 in
theorem VotesSame {w : World} {A B : Option Addr} {n c d : Nat} {lv : List Vt} (hok : ∀ u ∈ lv, u.Ok) (hn : lv.length = n) (hs : n ≤ 1000000) (hA : Reads w w.heap.size 68 A n (vCells lv)) (hB : Reads w w.heap.size 68 B n (vCells lv)) :
    Calls Try.prog 50 #[.slice A n c, .slice B n d] w fun e w' => e = .returned (.bool true) ∧ Grow w noOwn w' := by
  have hM := Mem.nil w noOwn
  go_enter Try.func50, Try.ntmps50
  go_wp2_with (first | ((with_reducible refine wl_shape ?_); first | (apply wl_boxa; exact rfl; exact hM; exact rfl; exact rfl; clear hM; intro gg ww hM; simp only [putT, List.set_cons_succ, List.set_cons_zero]) | (apply wl_box1; exact rfl; exact hM; exact rfl; exact rfl; exact rfl; clear hM; intro gg ww hM; simp only [putT, List.set_cons_succ, List.set_cons_zero]) | (apply wl_alloc; exact rfl; exact hM; exact rfl; exact inferInstance; clear hM; intro gg ww hM; simp only [putT, List.set_cons_succ, List.set_cons_zero]) | (apply wl_ld; exact rfl; exact hM; exact rfl; exact rfl; exact inferInstance; exact inferInstance; simp only [putT, List.set_cons_succ, List.set_cons_zero]) | (apply wl_lda; exact rfl; exact hM; exact rfl; exact rfl; exact inferInstance; exact inferInstance; exact inferInstance; exact inferInstance; simp only [putT, List.set_cons_succ, List.set_cons_zero]) | (apply wl_ldr; exact rfl; exact hM; exact rfl; exact rfl; exact inferInstance; exact inferInstance; exact inferInstance; exact inferInstance; simp only [putT, List.set_cons_succ, List.set_cons_zero]) | (apply wl_st; exact rfl; exact hM; exact rfl; exact rfl; exact rfl; exact rfl; exact inferInstance; exact inferInstance; clear hM; intro ww hM; simp only [putT, List.set_cons_succ, List.set_cons_zero]) | (apply wl_sta; exact rfl; exact hM; exact rfl; exact rfl; exact rfl; exact all_oneCell_toArray One.out; exact inferInstance; exact inferInstance; exact inferInstance; clear hM; intro ww hM; simp only [putT, List.set_cons_succ, List.set_cons_zero]) | (apply wl_bs0; exact rfl; exact hM; exact rfl; exact inferInstance; clear hM; intro gg ww hM; simp only [putT, List.set_cons_succ, List.set_cons_zero]) | (apply wl_bs1a; exact rfl; exact hM; exact rfl; exact inferInstance; exact rfl; exact inferInstance; clear hM; intro gg ww hM; simp only [putT, List.set_cons_succ, List.set_cons_zero]) | (apply wl_bs11; exact rfl; exact hM; exact rfl; exact inferInstance; exact rfl; exact rfl; clear hM; intro gg ww hM; simp only [putT, List.set_cons_succ, List.set_cons_zero]) | (apply wl_conv; exact rfl; exact hM; exact rfl; exact rfl; exact inferInstance; exact inferInstance; simp only [putT, List.set_cons_succ, List.set_cons_zero])))
  have HM := hide hM
  go_loopw [5] (fun iv wr => ∃ q : Nat, q ≤ n ∧ iv = .int .i64 q ∧ Mem w noOwn wr []) (fun iv _ => n - (intOf iv).toNat)
  case atStart => exact ⟨0, Nat.zero_le _, by go_num, hM⟩
  case round =>
    clear hM HM
    obtain ⟨q, hq, rfl, hM⟩ := hrel
    by_cases hlt : q < n
    · obtain ⟨u, hu⟩ : ∃ u, lv[q]? = some u := ⟨_, List.getElem?_eq_getElem (by omega)⟩
      obtain ⟨hql, hue⟩ := List.getElem?_eq_some_iff.1 hu
      have huo : u.Ok := by rw [← hue]; exact hok _ (List.getElem_mem hql)
      obtain ⟨b, off, rfl, hbB, hrng⟩ := vote_range hA hok hn q hql
      obtain ⟨b2, off2, rfl, hbB2, hrng2⟩ := vote_range hB hok hn q hql
      rw [hue] at hrng hrng2
      have c1 : OldR w noOwn b (off + q * 68) (vtc u) := oldR_no hrng hbB
      have c2 : OldR w noOwn b2 (off2 + q * 68) (vtc u) := oldR_no hrng2 hbB2
      have z2 : SzL (vtc u) 68 := ⟨vtc_len huo⟩
      clear hrng hrng2 hue hu
      go_wp2_with (first | ((with_reducible refine wl_shape ?_); first | (apply wl_boxa; exact rfl; exact hM; exact rfl; exact rfl; clear hM; intro gg ww hM; simp only [putT, List.set_cons_succ, List.set_cons_zero]) | (apply wl_box1; exact rfl; exact hM; exact rfl; exact rfl; exact rfl; clear hM; intro gg ww hM; simp only [putT, List.set_cons_succ, List.set_cons_zero]) | (apply wl_alloc; exact rfl; exact hM; exact rfl; exact inferInstance; clear hM; intro gg ww hM; simp only [putT, List.set_cons_succ, List.set_cons_zero]) | (apply wl_ld; exact rfl; exact hM; exact rfl; exact rfl; exact inferInstance; exact inferInstance; simp only [putT, List.set_cons_succ, List.set_cons_zero]) | (apply wl_lda; exact rfl; exact hM; exact rfl; exact rfl; exact inferInstance; exact inferInstance; exact inferInstance; exact inferInstance; simp only [putT, List.set_cons_succ, List.set_cons_zero]) | (apply wl_ldr; exact rfl; exact hM; exact rfl; exact rfl; exact inferInstance; exact inferInstance; exact inferInstance; exact inferInstance; simp only [putT, List.set_cons_succ, List.set_cons_zero]) | (apply wl_st; exact rfl; exact hM; exact rfl; exact rfl; exact rfl; exact rfl; exact inferInstance; exact inferInstance; clear hM; intro ww hM; simp only [putT, List.set_cons_succ, List.set_cons_zero]) | (apply wl_sta; exact rfl; exact hM; exact rfl; exact rfl; exact rfl; exact all_oneCell_toArray One.out; exact inferInstance; exact inferInstance; exact inferInstance; clear hM; intro ww hM; simp only [putT, List.set_cons_succ, List.set_cons_zero]) | (apply wl_bs0; exact rfl; exact hM; exact rfl; exact inferInstance; clear hM; intro gg ww hM; simp only [putT, List.set_cons_succ, List.set_cons_zero]) | (apply wl_bs1a; exact rfl; exact hM; exact rfl; exact inferInstance; exact rfl; exact inferInstance; clear hM; intro gg ww hM; simp only [putT, List.set_cons_succ, List.set_cons_zero]) | (apply wl_bs11; exact rfl; exact hM; exact rfl; exact inferInstance; exact rfl; exact rfl; clear hM; intro gg ww hM; simp only [putT, List.set_cons_succ, List.set_cons_zero]) | (apply wl_conv; exact rfl; exact hM; exact rfl; exact rfl; exact inferInstance; exact inferInstance; simp only [putT, List.set_cons_succ, List.set_cons_zero])))
      refine wp_region_mc [] [] [] hM (by kernel_rfl) (by kernel_rfl) (by kernel_rfl) (by kernel_rfl) ?_; simp only [initS, Act.put, List.setIfInBounds_toArray, List.set_cons_succ, List.set_cons_zero, List.map_cons, List.map_nil]
      (repeat (first | (refine gm_nev u huo rfl rfl rfl rfl ?_; simp only [setD, List.set_cons_succ, List.set_cons_zero]) | (apply gm_move; (first | exact .inl rfl | exact .inr rfl); exact rfl; exact rfl; simp only [setD, List.set_cons_succ, List.set_cons_zero]) | (apply gm_ld; exact rfl; exact rfl; exact rfl; exact inferInstance; exact inferInstance; simp only [setD, List.set_cons_succ, List.set_cons_zero]) | (apply gm_lda; exact rfl; exact rfl; exact rfl; exact inferInstance; exact inferInstance; exact inferInstance; exact inferInstance; simp only [setD, List.set_cons_succ, List.set_cons_zero]) | (apply gm_ldr; exact rfl; exact rfl; exact rfl; exact inferInstance; exact inferInstance; exact inferInstance; exact inferInstance; simp only [setD, List.set_cons_succ, List.set_cons_zero]) | (apply gm_cmp true; exact rfl; exact rfl; exact rfl; exact rfl; (simp only [cmpB, Option.some.injEq, decide_eq_true_eq, ne_eq]; omega); simp only [setD, List.set_cons_succ, List.set_cons_zero]) | (apply gm_cmp false; exact rfl; exact rfl; exact rfl; exact rfl; (simp only [cmpB, Option.some.injEq, decide_eq_false_iff_not, ne_eq]; omega); simp only [setD, List.set_cons_succ, List.set_cons_zero]) | (apply gm_pick; exact rfl; exact rfl; exact rfl; exact rfl; exact rfl; simp only [setD, List.set_cons_succ, List.set_cons_zero, cond_true, cond_false]) | (apply gm_skip; exact rfl; simp only [setD, List.set_cons_succ, List.set_cons_zero]) | (apply gm_skipU; exact rfl; exact rfl; exact rfl; exact rfl; simp only [setD, List.set_cons_succ, List.set_cons_zero]) | (apply gm_moveP; (first | exact .inl rfl | exact .inr rfl); exact rfl; exact rfl; exact rfl; simp only [setD, List.set_cons_succ, List.set_cons_zero]) | (refine gw_isPure rfl ?_; apply gm_pure; exact rfl; intro K hK; go_simp; refine hK _ ?_; clear hK K; simp only [setD, List.set_cons_succ, List.set_cons_zero])))
      refine gw_nil ?_; intro γ w4 hC' hk'; simp only [slAct, slVals, Slot.get]
      clear hM
      have hM : Mem w noOwn w4 _ := hC'
      clear hC' hk'
      go_wp2_with (first | ((with_reducible refine wl_shape ?_); first | (apply wl_boxa; exact rfl; exact hM; exact rfl; exact rfl; clear hM; intro gg ww hM; simp only [putT, List.set_cons_succ, List.set_cons_zero]) | (apply wl_box1; exact rfl; exact hM; exact rfl; exact rfl; exact rfl; clear hM; intro gg ww hM; simp only [putT, List.set_cons_succ, List.set_cons_zero]) | (apply wl_alloc; exact rfl; exact hM; exact rfl; exact inferInstance; clear hM; intro gg ww hM; simp only [putT, List.set_cons_succ, List.set_cons_zero]) | (apply wl_ld; exact rfl; exact hM; exact rfl; exact rfl; exact inferInstance; exact inferInstance; simp only [putT, List.set_cons_succ, List.set_cons_zero]) | (apply wl_lda; exact rfl; exact hM; exact rfl; exact rfl; exact inferInstance; exact inferInstance; exact inferInstance; exact inferInstance; simp only [putT, List.set_cons_succ, List.set_cons_zero]) | (apply wl_ldr; exact rfl; exact hM; exact rfl; exact rfl; exact inferInstance; exact inferInstance; exact inferInstance; exact inferInstance; simp only [putT, List.set_cons_succ, List.set_cons_zero]) | (apply wl_st; exact rfl; exact hM; exact rfl; exact rfl; exact rfl; exact rfl; exact inferInstance; exact inferInstance; clear hM; intro ww hM; simp only [putT, List.set_cons_succ, List.set_cons_zero]) | (apply wl_sta; exact rfl; exact hM; exact rfl; exact rfl; exact rfl; exact all_oneCell_toArray One.out; exact inferInstance; exact inferInstance; exact inferInstance; clear hM; intro ww hM; simp only [putT, List.set_cons_succ, List.set_cons_zero]) | (apply wl_bs0; exact rfl; exact hM; exact rfl; exact inferInstance; clear hM; intro gg ww hM; simp only [putT, List.set_cons_succ, List.set_cons_zero]) | (apply wl_bs1a; exact rfl; exact hM; exact rfl; exact inferInstance; exact rfl; exact inferInstance; clear hM; intro gg ww hM; simp only [putT, List.set_cons_succ, List.set_cons_zero]) | (apply wl_bs11; exact rfl; exact hM; exact rfl; exact inferInstance; exact rfl; exact rfl; clear hM; intro gg ww hM; simp only [putT, List.set_cons_succ, List.set_cons_zero]) | (apply wl_conv; exact rfl; exact hM; exact rfl; exact rfl; exact inferInstance; exact inferInstance; simp only [putT, List.set_cons_succ, List.set_cons_zero])))
      go_roundw
      case rel => exact ⟨q + 1, by omega, by go_num, hM⟩
      case measure => simp [intOf]; omega
    · go_wp2_with (first | ((with_reducible refine wl_shape ?_); first | (apply wl_boxa; exact rfl; exact hM; exact rfl; exact rfl; clear hM; intro gg ww hM; simp only [putT, List.set_cons_succ, List.set_cons_zero]) | (apply wl_box1; exact rfl; exact hM; exact rfl; exact rfl; exact rfl; clear hM; intro gg ww hM; simp only [putT, List.set_cons_succ, List.set_cons_zero]) | (apply wl_alloc; exact rfl; exact hM; exact rfl; exact inferInstance; clear hM; intro gg ww hM; simp only [putT, List.set_cons_succ, List.set_cons_zero]) | (apply wl_ld; exact rfl; exact hM; exact rfl; exact rfl; exact inferInstance; exact inferInstance; simp only [putT, List.set_cons_succ, List.set_cons_zero]) | (apply wl_lda; exact rfl; exact hM; exact rfl; exact rfl; exact inferInstance; exact inferInstance; exact inferInstance; exact inferInstance; simp only [putT, List.set_cons_succ, List.set_cons_zero]) | (apply wl_ldr; exact rfl; exact hM; exact rfl; exact rfl; exact inferInstance; exact inferInstance; exact inferInstance; exact inferInstance; simp only [putT, List.set_cons_succ, List.set_cons_zero]) | (apply wl_st; exact rfl; exact hM; exact rfl; exact rfl; exact rfl; exact rfl; exact inferInstance; exact inferInstance; clear hM; intro ww hM; simp only [putT, List.set_cons_succ, List.set_cons_zero]) | (apply wl_sta; exact rfl; exact hM; exact rfl; exact rfl; exact rfl; exact all_oneCell_toArray One.out; exact inferInstance; exact inferInstance; exact inferInstance; clear hM; intro ww hM; simp only [putT, List.set_cons_succ, List.set_cons_zero]) | (apply wl_bs0; exact rfl; exact hM; exact rfl; exact inferInstance; clear hM; intro gg ww hM; simp only [putT, List.set_cons_succ, List.set_cons_zero]) | (apply wl_bs1a; exact rfl; exact hM; exact rfl; exact inferInstance; exact rfl; exact inferInstance; clear hM; intro gg ww hM; simp only [putT, List.set_cons_succ, List.set_cons_zero]) | (apply wl_bs11; exact rfl; exact hM; exact rfl; exact inferInstance; exact rfl; exact rfl; clear hM; intro gg ww hM; simp only [putT, List.set_cons_succ, List.set_cons_zero]) | (apply wl_conv; exact rfl; exact hM; exact rfl; exact rfl; exact inferInstance; exact inferInstance; simp only [putT, List.set_cons_succ, List.set_cons_zero])))
      go_ret
      exact ⟨rfl, hM.grow⟩
set_option maxRecDepth 100000 in
set_option maxHeartbeats 4000000 in
theorem SameMsg_any {w : World} (x : Mo) (va vb wa wb : Option Addr) (vc vd wc wd : Nat) (hok : ∀ u ∈ x.lv, u.Ok) (hl : x.lv.length ≤ 1000000) (ht : x.tag.length = 32)
    (hva : Bytes w w.heap.size va x.val.length x.val) (hvb : Bytes w w.heap.size vb x.val.length x.val) (hwa : Reads w w.heap.size 68 wa x.lv.length (vCells x.lv)) (hwb : Reads w w.heap.size 68 wb x.lv.length (vCells x.lv)) :
    Calls Try.prog 20 #[.agg (msc (moMs x va vc wa wc)).toArray, .agg (msc (moMs x vb vd wb wd)).toArray] w fun e w' => e = .returned (.bool true) ∧ Grow w noOwn w' := by
  have hM := Mem.nil w noOwn
  have z1 : SzA (msc (moMs x va vc wa wc)).toArray 39 := ⟨by simp [msc, moMs, ht]⟩
  have z2 : SzA (msc (moMs x vb vd wb wd)).toArray 39 := ⟨by simp [msc, moMs, ht]⟩
  obtain ⟨ma, hma⟩ : ∃ ma, ma = moMs x va vc wa wc := ⟨_, rfl⟩
  obtain ⟨mb, hmb⟩ : ∃ mb, mb = moMs x vb vd wb wd := ⟨_, rfl⟩
  have a0 : AtA (msc ma).toArray 0 (.int .i64 x.k) := ⟨by rw [hma]; rfl⟩
  have a1 : AtA (msc ma).toArray 1 (.int .i64 x.f) := ⟨by rw [hma]; rfl⟩
  have a2 : AtA (msc ma).toArray 2 (.int .i64 x.t) := ⟨by rw [hma]; rfl⟩
  have a3 : AtA (msc ma).toArray 3 (.int .i64 x.s) := ⟨by rw [hma]; rfl⟩
  have a4 : AtA (msc ma).toArray 4 (.int .i64 x.v) := ⟨by rw [hma]; rfl⟩
  have a5 : AtA (msc ma).toArray 5 (.slice va x.val.length vc) := ⟨by rw [hma]; rfl⟩
  have a6 : AtA (msc ma).toArray 6 (.slice wa x.lv.length wc) := ⟨by rw [hma]; rfl⟩
  have b0 : AtA (msc mb).toArray 0 (.int .i64 x.k) := ⟨by rw [hmb]; rfl⟩
  have b1 : AtA (msc mb).toArray 1 (.int .i64 x.f) := ⟨by rw [hmb]; rfl⟩
  have b2 : AtA (msc mb).toArray 2 (.int .i64 x.t) := ⟨by rw [hmb]; rfl⟩
  have b3 : AtA (msc mb).toArray 3 (.int .i64 x.s) := ⟨by rw [hmb]; rfl⟩
  have b4 : AtA (msc mb).toArray 4 (.int .i64 x.v) := ⟨by rw [hmb]; rfl⟩
  have b5 : AtA (msc mb).toArray 5 (.slice vb x.val.length vd) := ⟨by rw [hmb]; rfl⟩
  have b6 : AtA (msc mb).toArray 6 (.slice wb x.lv.length wd) := ⟨by rw [hmb]; rfl⟩
  have ra : RdsB w noOwn va x.val.length x.val := rdsB_no hva
  have rb : RdsB w noOwn vb x.val.length x.val := rdsB_no hvb
  have hta : ∀ (L : List Item) (g : Nat) [HasBlk L g 32 (msc ma).toArray], Rng w noOwn L g 7 (x.tag.map V8) := fun L g hh => ⟨fun w' hM' j v hj => by
    rw [Blk.cell (hM'.has _ hh.out), hma]
    simpa [msc, moMs, Nat.add_comm 7 j] using hj⟩
  have htb : ∀ (L : List Item) (g : Nat) [HasBlk L g 32 (msc mb).toArray], Rng w noOwn L g 7 (x.tag.map V8) := fun L g hh => ⟨fun w' hM' j v hj => by
    rw [Blk.cell (hM'.has _ hh.out), hmb]
    simpa [msc, moMs, Nat.add_comm 7 j] using hj⟩
  have zt : SzL (x.tag.map V8) 32 := ⟨by simpa using ht⟩
  rw [← hma, ← hmb]
  rw [← hma] at z1
  rw [← hmb] at z2
  have heg : ∀ (p q : Operand) (w : World), (eqGuard .eql 30 p q (.agg (x.tag.map V8).toArray) (.agg (x.tag.map V8).toArray)).run Try.prog w = .ok () w := fun p q w => eqGuard_hash .eql p q w x.tag x.tag
  have heq : ∀ (w : World), (Op.equalIn 10000 30 (.agg (x.tag.map V8).toArray) (.agg (x.tag.map V8).toArray)).run Try.prog w = .ok true w := fun w => by
    have := equalIn_hash (w := w) x.tag x.tag ht ht
    rw [beq_self_eq_true] at this
    exact this
  clear hma hmb ht
  go_enter Try.func20, Try.ntmps20
  go_wp2_with (first
    | ((with_reducible refine wl_shape ?_); first | (apply wl_boxa; exact rfl; exact hM; exact rfl; exact rfl; clear hM; intro gg ww hM; simp only [putT, List.set_cons_succ, List.set_cons_zero]) | (apply wl_box1; exact rfl; exact hM; exact rfl; exact rfl; exact rfl; clear hM; intro gg ww hM; simp only [putT, List.set_cons_succ, List.set_cons_zero]) | (apply wl_alloc; exact rfl; exact hM; exact rfl; exact inferInstance; clear hM; intro gg ww hM; simp only [putT, List.set_cons_succ, List.set_cons_zero]) | (apply wl_ld; exact rfl; exact hM; exact rfl; exact rfl; exact inferInstance; exact inferInstance; simp only [putT, List.set_cons_succ, List.set_cons_zero]) | (apply wl_lda; exact rfl; exact hM; exact rfl; exact rfl; exact inferInstance; exact inferInstance; exact inferInstance; exact inferInstance; simp only [putT, List.set_cons_succ, List.set_cons_zero]) | (apply wl_ldr; exact rfl; exact hM; exact rfl; exact rfl; exact inferInstance; exact inferInstance; exact inferInstance; exact inferInstance; simp only [putT, List.set_cons_succ, List.set_cons_zero]) | (apply wl_st; exact rfl; exact hM; exact rfl; exact rfl; exact rfl; exact rfl; exact inferInstance; exact inferInstance; clear hM; intro ww hM; simp only [putT, List.set_cons_succ, List.set_cons_zero]) | (apply wl_sta; exact rfl; exact hM; exact rfl; exact rfl; exact rfl; exact all_oneCell_toArray One.out; exact inferInstance; exact inferInstance; exact inferInstance; clear hM; intro ww hM; simp only [putT, List.set_cons_succ, List.set_cons_zero]) | (apply wl_bs0; exact rfl; exact hM; exact rfl; exact inferInstance; clear hM; intro gg ww hM; simp only [putT, List.set_cons_succ, List.set_cons_zero]) | (apply wl_bs1a; exact rfl; exact hM; exact rfl; exact inferInstance; exact rfl; exact inferInstance; clear hM; intro gg ww hM; simp only [putT, List.set_cons_succ, List.set_cons_zero]) | (apply wl_bs11; exact rfl; exact hM; exact rfl; exact inferInstance; exact rfl; exact rfl; clear hM; intro gg ww hM; simp only [putT, List.set_cons_succ, List.set_cons_zero]) | (apply wl_conv; exact rfl; exact hM; exact rfl; exact rfl; exact inferInstance; exact inferInstance; simp only [putT, List.set_cons_succ, List.set_cons_zero]))
    | (rw [heg]) | (rw [heq])
    | (go_at_call 50; refine (VotesSame hok rfl hl (Reads.more (Reads.grow hwa hM.grow (Nat.le_refl _)) hM.grow.size) (Reads.more (Reads.grow hwb hM.grow (Nat.le_refl _)) hM.grow.size)).mono ?_; rintro e1 w1 ⟨rfl, hg⟩; replace hM := hM.call hg; clear hg))
  go_ret
  exact ⟨rfl, hM.grow⟩
end
section
open Go.RowKit Go.MapKept
set_option linter.unusedSimpArgs false
set_option linter.unusedVariables false
attribute [local irreducible] wpList Code.wp GW Calls
theorem RIsIn_any (w : World) (n lo hi : Int) : Calls Try.prog 76 #[.int .i64 n, .int .i64 lo, .int .i64 hi] w fun e w' => e = .returned (.bool (inB n lo hi)) ∧ w = w' := by
  unfold inB
  rcases (by omega : n < lo ∨ ¬ n < lo) with h | h
  · have h1 : decide (lo ≤ n) = false := decide_eq_false (by omega)
    rw [h1, Bool.false_and]
    go_enter Try.func76, Try.ntmps76
    go_wp2_with (first | (rw [h1]))
    go_ret
    first | exact ⟨rfl, rfl⟩ | (refine ⟨?_, rfl⟩; simp)
  · have h1 : decide (lo ≤ n) = true := decide_eq_true (by omega)
    rw [h1, Bool.true_and]
    go_enter Try.func76, Try.ntmps76
    go_wp2_with (first | (rw [h1]))
    go_ret
    first | exact ⟨rfl, rfl⟩ | (refine ⟨?_, rfl⟩; simp)
set_option maxRecDepth 100000 in
set_option maxHeartbeats 4000000 in
theorem RValueSum_any (w : World) (n c : Nat) (A : Option Addr) (l : List (BitVec 8)) (hb : Bytes w w.heap.size A n l) (hc : n ≤ c) (hn : n ≤ 140737488340000) :
    Calls Try.prog 26 #[.slice A n c] w fun e w' => e = .returned (.agg (hv (sha l))) ∧ Grow w noOwn w' := by
  have hM := Mem.nil w noOwn
  have hsl := sha_length l
  have z3 : SzA (hv (sha l)) 32 := ⟨by rw [hv_size, hsl]⟩
  go_enter Try.func26, Try.ntmps26
  go_wp2_with (first
    | ((with_reducible refine wl_shape ?_); first | (apply wl_boxa; exact rfl; exact hM; exact rfl; exact rfl; clear hM; intro gg ww hM; simp only [putT, List.set_cons_succ, List.set_cons_zero]) | (apply wl_box1; exact rfl; exact hM; exact rfl; exact rfl; exact rfl; clear hM; intro gg ww hM; simp only [putT, List.set_cons_succ, List.set_cons_zero]) | (apply wl_alloc; exact rfl; exact hM; exact rfl; exact inferInstance; clear hM; intro gg ww hM; simp only [putT, List.set_cons_succ, List.set_cons_zero]) | (apply wl_ld; exact rfl; exact hM; exact rfl; exact rfl; exact inferInstance; exact inferInstance; simp only [putT, List.set_cons_succ, List.set_cons_zero]) | (apply wl_lda; exact rfl; exact hM; exact rfl; exact rfl; exact inferInstance; exact inferInstance; exact inferInstance; exact inferInstance; simp only [putT, List.set_cons_succ, List.set_cons_zero]) | (apply wl_ldr; exact rfl; exact hM; exact rfl; exact rfl; exact inferInstance; exact inferInstance; exact inferInstance; exact inferInstance; simp only [putT, List.set_cons_succ, List.set_cons_zero]) | (apply wl_st; exact rfl; exact hM; exact rfl; exact rfl; exact rfl; exact rfl; exact inferInstance; exact inferInstance; clear hM; intro ww hM; simp only [putT, List.set_cons_succ, List.set_cons_zero]) | (apply wl_sta; exact rfl; exact hM; exact rfl; exact rfl; exact rfl; exact all_oneCell_toArray One.out; exact inferInstance; exact inferInstance; exact inferInstance; clear hM; intro ww hM; simp only [putT, List.set_cons_succ, List.set_cons_zero]) | (apply wl_bs0; exact rfl; exact hM; exact rfl; exact inferInstance; clear hM; intro gg ww hM; simp only [putT, List.set_cons_succ, List.set_cons_zero]) | (apply wl_bs1a; exact rfl; exact hM; exact rfl; exact inferInstance; exact rfl; exact inferInstance; clear hM; intro gg ww hM; simp only [putT, List.set_cons_succ, List.set_cons_zero]) | (apply wl_bs11; exact rfl; exact hM; exact rfl; exact inferInstance; exact rfl; exact rfl; clear hM; intro gg ww hM; simp only [putT, List.set_cons_succ, List.set_cons_zero]) | (apply wl_conv; exact rfl; exact hM; exact rfl; exact rfl; exact inferInstance; exact inferInstance; simp only [putT, List.set_cons_succ, List.set_cons_zero]))
    | (go_at_call 55; refine (RSum_any _ n c A l (gro_up hM.grow hb) (by omega)).mono ?_; rintro e1 w1 ⟨rfl, hg⟩; replace hM := hM.call hg; clear hg)
    | (refine wpList_store_mem rfl 30 _ _ rfl hM 0 _ _ _ (hv (sha l)) rfl rfl rfl (size32 _ hsl) (by rw [z3.out]; rfl) (oneCells8 _) ?_; clear hM; intro ww hM _; simp only [List.set_cons_zero] at hM))
  exact bodyPost_row rfl rfl _ _ _ (hM.blk 0 rfl) rfl (.array 32 5) (by kernel_rfl) rfl (size32 _ (sha_length _)) ⟨rfl, hM.grow⟩
end
section
open Go.RowKit Go.MapKept
set_option linter.unusedSimpArgs false
set_option linter.unusedVariables false
theorem row_cellS {w0 : World} {own : Nat → Prop} {L : List Item} {g j n c m size : Nat} {e : TypeId} {xs : List Value} {v : Value} (h : HasRow L (.slice (some ⟨g, 0, none⟩) n c) e size m xs) (h2 : xs[j]? = some v) : Cell w0 own L ⟨g, j, none⟩ v := ⟨fun w hM => by
  have hrow : w.ownsRow 0 e size (.slice (some ⟨g, 0, none⟩) n c) m xs := hM.has _ h.out
  have hl := hrow.1
  have hj : j < xs.length := (List.getElem?_eq_some_iff.1 h2).1
  rcases hrow.2 with ⟨e1, _⟩ | ⟨g', cap, cur, e1, _, hg, _, _, h3, h4⟩
  · cases e1
  · injection e1 with e2 e3 e4
    injection e2 with e2
    injection e2 with e2
    subst e2
    have hblk : Blk w g e cur := hg
    rw [hblk.cell]
    have h5 := h2
    rw [← h4, List.getElem?_take, if_pos (by omega)] at h5
    simpa using h5⟩
/-- A row of bytes that a literal has laid: it is marked. -/
def IsLit (e : TypeId) (n : Nat) (xs : List Value) (o : Obj) : Prop := ∃ cur fz, o = .cells cur e fz ∧ cur.toList.take n = xs ∧ xs.length = n
theorem lit_reads {w0 w : World} {own : Nat → Prop} {L : List Item} {g n : Nat} {e : TypeId} {xs : List Value} (hM : Mem w0 own w L) (i : Nat) (hi : L[i]? = some (.obj g (IsLit e n xs))) : Reads w w.heap.size 1 (some ⟨g, 0, none⟩) n xs := by
  obtain ⟨o, ho, cur, fz, rfl, hx, hl⟩ := hM.at_ i hi
  refine ⟨by rw [hl, Nat.mul_one], fun _ => ⟨_, rfl, (Array.getElem?_eq_some_iff.1 ho).1, fun j u hj => ?_⟩⟩
  have e1 : (⟨g, 0, none⟩ : Addr).add j = ⟨g, j, none⟩ := by unfold Addr.add; split <;> simp_all
  rw [e1, cell_of_row w g j cur e fz ho]
  rw [← hx, List.getElem?_take] at hj
  split at hj
  · simpa using hj
  · cases hj
section
variable {P : Program} {ops : Array Oper} {rest : List Oper} {o : Oper} {a : Act} {w w0 : World} {own : Nat → Prop} {L : List Item} {Q : Exit → Act → World → Prop}
theorem wpList_lit {T e : TypeId} {x : Operand} {g n c : Nat} {xs : List Value} (hgd : Region.wanted o (yielded ops a.tmps) = true) (ho : o.op = .convert T T x) (hM : Mem w0 own w (.row (.slice (some ⟨g, 0, none⟩) n c) e 1 n xs :: L)) (hx : a.eval x = .slice (some ⟨g, 0, none⟩) n c)
    (ht : P.underlying T = some (.slice e)) (he : P.underlying e = some (.int .u8)) (h : ∀ w', Mem w0 own w' (.obj g (IsLit e n xs) :: L) → wpList P ops Q rest (a.put o.dst (.slice (some ⟨g, 0, none⟩) n c)) w') : wpList P ops Q (o :: rest) a w :=
  BigFrame.wpList_want hgd fun K hK => by
    have hr := hM.row 0 rfl
    rcases hr.2 with ⟨e1, _⟩ | ⟨g', cap, cur, e1, _, hg, hnc, _, hsz, hcur⟩
    · cases e1
    · injection e1 with e2 e3 e4
      injection e2 with e2
      injection e2 with e2
      subst e2
      have hlt : g < w.heap.size := (Array.getElem?_eq_some_iff.1 hg).1
      have hsh : w.shape? g = some (e, cur.size) := by unfold World.shape?; rw [hg]
      have hrun : (convert T T (.slice (some ⟨g, 0, none⟩) n c)).run P w = .ok (.slice (some ⟨g, 0, none⟩) n c) (w.freeze ⟨g, cur.size, none⟩ 1) := by
        simp [convert, run_underlying ht, run_underlying he, markStringish, hsh]
      have hother : ∀ i, i ≠ g → (w.freeze ⟨g, cur.size, none⟩ 1).heap[i]? = w.heap[i]? := fun i hi => by
        unfold World.freeze
        rw [if_neg (by decide)]
        simp only [Array.getElem?_modify]
        rw [if_neg (Ne.symm hi)]
      have hself : (w.freeze ⟨g, cur.size, none⟩ 1).heap[g]? = some (.cells cur e (cur.size, cur.size + 1)) := by
        unfold World.freeze
        rw [if_neg (by decide)]
        simp only [Array.getElem?_modify, hg]
        simp
      have hsize : (w.freeze ⟨g, cur.size, none⟩ 1).heap.size = w.heap.size := by
        unfold World.freeze
        rw [if_neg (by decide)]
        simp
      have hrest : (w.freeze ⟨g, cur.size, none⟩ 1).os = w.os ∧ (w.freeze ⟨g, cur.size, none⟩ 1).tape = w.tape ∧ (w.freeze ⟨g, cur.size, none⟩ 1).output = w.output := by
        unfold World.freeze
        rw [if_neg (by decide)]
        exact ⟨rfl, rfl, rfl⟩
      have hG : Grow w0 own (w.freeze ⟨g, cur.size, none⟩ 1) := ⟨hrest.1.trans hM.grow.os, hrest.2.1.trans hM.grow.tape, hrest.2.2.trans hM.grow.output, by rw [hsize]; exact hM.grow.size, fun i hi hn => by
        rw [hother i ?_]
        · exact hM.grow.block i hi hn
        · rintro rfl
          rcases hM.own_ 0 rfl (g := i) rfl with h1 | h1
          · exact hn h1
          · omega⟩
      have hM2 : Mem w0 own (w.freeze ⟨g, cur.size, none⟩ 1) (.obj g (IsLit e n xs) :: L) :=
        hM.upd 0 (x := .row (.slice (some ⟨g, 0, none⟩) n c) e 1 n xs) (x' := .obj g (IsLit e n xs)) rfl hG (fun k _ hne => hother k (fun e => hne (by subst e; rfl)))
          ⟨_, hself, cur, _, rfl, by simpa using hcur, by simpa using hr.1⟩ (fun i e => .inl (by have e' : g = i := e; subst e'; rfl))
      unfold Oper.wp execOp
      simp only [ho, hx, Sem.run_bind, hrun, Result.andThen_ok, Sem.run_pure]
      exact hK _ _ (h _ hM2)
end
theorem lit120 : [120#8].map V8 = [Value.int .u8 120] := by
  show [V8 120#8] = _
  rw [← V8_mk 120 (by decide)]
  rfl
theorem heard_nil (w : World) : HeardR w none 0 [] := ⟨Reads.none_, rfl, by simp⟩
def l17a : Li := ⟨1, 0, 0, 0, none, 0, 0, 0, none, 0, 0⟩
def l17b (g : Nat) : Li := ⟨3, 0, 0, 0, some ⟨g, 0, none⟩, 1, 1, 2, none, 0, 0⟩
theorem make17a (ks : List (List (BitVec 8))) : makeOf ks 3 l17a [] [] [] = noMo := by
  have h : lieOk ks.length 3 l17a = false := by simp [lieOk, l17a]
  unfold makeOf
  rw [h]
  rfl
theorem make17b (ks : List (List (BitVec 8))) (g : Nat) (h4 : ks.length = 4) : makeOf ks 3 (l17b g) [120#8] [] [] = ⟨3, 3, 0, 0, 0, [120#8], [castOf ks 2 0 0 (sha [120#8]) 3], sealOf ks 3 (bodyB ⟨3, 3, 0, 0, 0, none, 1, 0, none, 0, 0, zb32⟩ [120#8] [castOf ks 2 0 0 (sha [120#8]) 3]), 0⟩ := by
  have h : lieOk ks.length 3 (l17b g) = true := by rw [h4]; rfl
  have h2 : liBad (l17b g) = false := by simp [liBad, l17b]
  unfold makeOf
  rw [h, h2]
  rfl
attribute [local irreducible] wpList Code.wp GW Calls
set_option maxRecDepth 100000 in
set_option maxHeartbeats 4000000 in
theorem known17_any (w : World) : Calls Try.prog 21 #[] w fun e w' => e = .returned (.bool true) ∧ Grow w noOwn w' := by
  have hM := Mem.nil w noOwn
  obtain ⟨ks, hks⟩ : ∃ ks, ks = keysOf (seed1 1#8) 4 := ⟨_, rfl⟩
  have hk4 : ks.length = 4 := by rw [hks]; exact keysOf_length ..
  have hm2 := fun g => make17b ks g hk4
  obtain ⟨kv, hkv⟩ : ∃ kv, kv = castOf ks 2 0 0 (sha [120#8]) 3 := ⟨_, rfl⟩
  have kok : kv.Ok := by rw [hkv]; exact castOf_ok _ _ _ _ _ _ (sha_length _)
  have kf : (vtc kv)[35]? = some (.int .i64 3) := by rw [vtc_35 kok, hkv]; rfl
  have kk : (vtc kv)[0]? = some (.int .i64 2) := by rw [hkv]; rfl
  obtain ⟨tg, htg⟩ : ∃ tg, tg = sealOf ks 3 (bodyB ⟨3, 3, 0, 0, 0, none, 1, 0, none, 0, 0, zb32⟩ [120#8] [castOf ks 2 0 0 (sha [120#8]) 3]) := ⟨_, rfl⟩
  have htl : tg.length = 32 := by rw [htg]; exact sealOf_length _ _ _
  rw [← htg, ← hkv] at hm2
  have z1 : ∀ (va : Option Addr) (vc : Nat) (wa : Option Addr) (wc : Nat), SzA (msc (moMs noMo va vc wa wc)).toArray 39 := fun _ _ _ _ => ⟨rfl⟩
  have z2 : ∀ (va : Option Addr) (vc : Nat) (wa : Option Addr) (wc : Nat), SzA (msc (moMs ⟨3, 3, 0, 0, 0, [120#8], [kv], tg, 0⟩ va vc wa wc)).toArray 39 := fun _ _ _ _ => ⟨by simp [msc, moMs, htl]⟩
  have a6 : ∀ (va : Option Addr) (vc : Nat) (wa : Option Addr) (wc : Nat), AtA (msc (moMs ⟨3, 3, 0, 0, 0, [120#8], [kv], tg, 0⟩ va vc wa wc)).toArray 6 (.slice wa 1 wc) := fun _ _ _ _ => ⟨rfl⟩
  have hvc : vCells [kv] = vtc kv := vCells1 kv
  have HM2 := hide hm2
  have HKS := hide hks
  have HVC := hide hvc
  have HK4 := hide hk4
  clear hks hkv htg hm2 hvc hk4
  go_enter Try.func21, Try.ntmps21
  go_wp2_with (first
    | ((with_reducible refine wl_shape ?_); first | (apply wl_boxa; exact rfl; exact hM; exact rfl; exact rfl; clear hM; intro gg ww hM; simp only [putT, List.set_cons_succ, List.set_cons_zero]) | (apply wl_box1; exact rfl; exact hM; exact rfl; exact rfl; exact rfl; clear hM; intro gg ww hM; simp only [putT, List.set_cons_succ, List.set_cons_zero]) | (apply wl_alloc; exact rfl; exact hM; exact rfl; exact inferInstance; clear hM; intro gg ww hM; simp only [putT, List.set_cons_succ, List.set_cons_zero]) | (apply wl_ld; exact rfl; exact hM; exact rfl; exact rfl; exact inferInstance; exact inferInstance; simp only [putT, List.set_cons_succ, List.set_cons_zero]) | (apply wl_lda; exact rfl; exact hM; exact rfl; exact rfl; exact inferInstance; exact inferInstance; exact inferInstance; exact inferInstance; simp only [putT, List.set_cons_succ, List.set_cons_zero]) | (apply wl_ldr; exact rfl; exact hM; exact rfl; exact rfl; exact inferInstance; exact inferInstance; exact inferInstance; exact inferInstance; simp only [putT, List.set_cons_succ, List.set_cons_zero]) | (apply wl_st; exact rfl; exact hM; exact rfl; exact rfl; exact rfl; exact rfl; exact inferInstance; exact inferInstance; clear hM; intro ww hM; simp only [putT, List.set_cons_succ, List.set_cons_zero]) | (apply wl_sta; exact rfl; exact hM; exact rfl; exact rfl; exact rfl; exact all_oneCell_toArray One.out; exact inferInstance; exact inferInstance; exact inferInstance; clear hM; intro ww hM; simp only [putT, List.set_cons_succ, List.set_cons_zero]) | (apply wl_bs0; exact rfl; exact hM; exact rfl; exact inferInstance; clear hM; intro gg ww hM; simp only [putT, List.set_cons_succ, List.set_cons_zero]) | (apply wl_bs1a; exact rfl; exact hM; exact rfl; exact inferInstance; exact rfl; exact inferInstance; clear hM; intro gg ww hM; simp only [putT, List.set_cons_succ, List.set_cons_zero]) | (apply wl_bs11; exact rfl; exact hM; exact rfl; exact inferInstance; exact rfl; exact rfl; clear hM; intro gg ww hM; simp only [putT, List.set_cons_succ, List.set_cons_zero]) | (apply wl_conv; exact rfl; exact hM; exact rfl; exact rfl; exact inferInstance; exact inferInstance; simp only [putT, List.set_cons_succ, List.set_cons_zero]))
    | (refine wpList_build_to rfl 30 #[(0, .const (.int .u8 1))] rfl (hv (seed1 1#8)) (by kernel_rfl) ?_)
    | (refine wpList_built rfl 25 #[(0, .const (.int .i64 1))] rfl [(0, .int .i64 1)] (lic l17a).toArray (by kernel_rfl) (by kernel_rfl) ?_)
    | (go_at_call 17; refine (New_any _ 4 (seed1 1#8) rfl).mono ?_; rintro e w1 ⟨⟨p, rfl, g, A, c, rfl, hr0⟩, hg⟩; rw [cnt4, ← unhide HKS] at hr0; have hg0 := hM.grow.then_ hg; clear hM; have hM := Mem.nil w1 noOwn; have hr := hide hr0; clear hr0 hg)
    | (go_at_call 16; refine (Make_any _ g c 0 0 A none ks 3 l17a [] ((unhide hr).grow hM.grow) Reads.none_ (Nat.le_refl _) (by decide) [] [] (heard_nil _) Reads.none_ rfl (by decide) (by simp)).mono ?_; rw [make17a]; rintro e1 w2 ⟨va, vc, wa, wc, rfl, hM1⟩; replace hM := hM.call hM1.grow; clear hM1)
    | (refine wpList_built rfl 25 _ rfl [(0, .int .i64 3), (5, .int .i64 2), (4, .slice (some ⟨gg, 0, none⟩) 1 1)] (lic (l17b gg)).toArray (by kernel_rfl) (by kernel_rfl) ?_)
    | (refine wpList_lit rfl rfl hM rfl Try.underlying22 Try.underlying5 ?_; clear hM; intro ww hM)
    | (go_at_call 16; refine (Make_any _ g c 0 0 A none ks 3 (l17b gg) [120#8] ((unhide hr).grow hM.grow) (by unfold Bytes; rw [lit120]; exact lit_reads hM 0 rfl) (Nat.le_refl _) (show 1 ≤ 1000000 by decide) [] [] (heard_nil _) Reads.none_ rfl (Nat.zero_le _) (by simp)).mono ?_; rw [unhide HM2]; rintro e1 w2 ⟨va, vc, wa, wc, rfl, hM1⟩; obtain ⟨gv, rfl, -⟩ := row_some (hM1.row 1 rfl) (by simp); have q1 : ∀ (w0 : World) (L' : List Item) [HasRow L' (.slice (some ⟨gv, 0, none⟩) 1 wc) 47 68 1 (vtc kv)], Cell w0 noOwn L' ⟨gv, 35, none⟩ (.int .i64 3) := fun w0 L' h => row_cellS h kf; have q2 : ∀ (w0 : World) (L' : List Item) [HasRow L' (.slice (some ⟨gv, 0, none⟩) 1 wc) 47 68 1 (vtc kv)], Cell w0 noOwn L' ⟨gv, 0, none⟩ (.int .i64 2) := fun w0 L' h => row_cellS h kk; replace hM := hM.on hM1; clear hM1; rw [unhide HVC] at hM; simp only [List.cons_append, List.nil_append, List.length_cons, List.length_nil, Nat.zero_add] at hM))
  go_ret
  exact ⟨rfl, hg0.then_ hM.grow⟩
end
end Go.Proofs.Ytgdfdombcngpnaa
