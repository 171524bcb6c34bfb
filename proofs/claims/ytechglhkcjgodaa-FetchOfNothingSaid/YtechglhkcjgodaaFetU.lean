/- fetch's laws: told, over any iterator of records. -/
import Derived.Test.YtechglhkcjgodaaFetJ1
namespace Go.Proofs.Ytechglhkcjgodaa
open Go.RowKit Go.MapKept
set_option linter.unusedSimpArgs false
set_option linter.unusedVariables false
/-- A record alone. -/
def enc1 (_ : Nat) (vs : List Value) : Array Value := #[.agg vs.toArray]
theorem take_snoc {rs : List Rec} {j : Nat} {r : Rec} (h : rs[j]? = some r) : rs.take (j + 1) = rs.take j ++ [r] := by
  obtain ⟨hj, rfl⟩ := List.getElem?_eq_some_iff.1 h
  exact List.take_succ_eq_append_getElem hj
theorem take_len {rs : List Rec} {j : Nat} (h : j ≤ rs.length) : (rs.take j).length = j := by rw [List.length_take]; omega
theorem xz0 {w0 W : World} {own : Nat → Prop} {l fn D : Nat} {tmps : Array Value} {ps : Array Tmp} {asg bd : Code} {L : List Item} (_ : Mem w0 own W (.obj l (· = recL .ready fn tmps ps asg bd D) :: L)) : ∃ z, z = Item.obj l (· = recX (.exit 0) fn tmps ps asg bd D) := ⟨_, rfl⟩
/-- What told has at hand. -/
def toldT (x y : Item) (b3 b5 : Nat) (most : Int) (rs : List Rec) (A : Option Addr) (c : Nat) (vs : List Value) (j : Nat) : List Item :=
  .row (.slice A j c) 42 5 j (recCells (rs.take j) vs) :: x :: y :: .blk b5 29 #[.slice A j c] :: .blk b3 3 #[.int .i64 most] :: VRows (rs.take j) vs
theorem told_use {P : Program} {gf : Nat} {lb : Array Value} {w0 W1 : World} {own : Nat → Prop} {L : List Item} {x y z : Item} {b3 b5 l : Nat} {most : Int} {rs : List Rec} (hmo : 0 < most) (hI : Iter2 P gf lb enc1 rs w0 own L)
    (hM : Mem w0 own W1 (x :: y :: .blk b5 29 #[.slice none 0 0] :: .blk b3 3 #[.int .i64 most] :: L)) {R : Ending → World → Prop}
    (hY : ∀ (j : Nat) (r : Rec) (L' : List Item) (W : World) (D : Option Addr) (c : Nat) (A : Option Addr) (c0 : Nat) (vs : List Value), j < rs.length → (j : Int) < most →
      Mem w0 own W (.row (.slice D r.v.length c) 5 1 r.v.length (r.v.map V8) :: .row (.slice A j c0) 42 5 j (recCells (rs.take j) vs) :: x :: y :: .blk b5 29 #[.slice A j c0] :: .blk b3 3 #[.int .i64 most] :: L') →
      YieldAt Fence.wide 0 P l #[.agg (recVals r (.slice D r.v.length c)).toArray] W fun e W' =>
        (most ≤ ((j + 1 : Nat) : Int) ∧ e = .returned (.bool false) ∧ ∃ A' c', Mem w0 own W' (.row (.slice D r.v.length c) 5 1 r.v.length (r.v.map V8) :: .row (.slice A' (j + 1) c') 42 5 (j + 1) (recCells (rs.take j) vs ++ recVals r (.slice D r.v.length c)) :: z :: y :: .blk b5 29 #[.slice A' (j + 1) c'] :: .blk b3 3 #[.int .i64 most] :: L')) ∨
        (¬ most ≤ ((j + 1 : Nat) : Int) ∧ e = .returned (.bool true) ∧ ∃ A' c', Mem w0 own W' (.row (.slice D r.v.length c) 5 1 r.v.length (r.v.map V8) :: .row (.slice A' (j + 1) c') 42 5 (j + 1) (recCells (rs.take j) vs ++ recVals r (.slice D r.v.length c)) :: x :: y :: .blk b5 29 #[.slice A' (j + 1) c'] :: .blk b3 3 #[.int .i64 most] :: L')))
    (hR : ∀ v A c vs n W2 xz, xz = x ∨ xz = z → n ≤ rs.length → rs.take n = rs.take most.toNat → vs.length = n → Mem w0 own W2 (toldT xz y b3 b5 most rs A c vs n ++ L) → R (.returned v) W2) :
    Calls P gf (#[.func (.yield l) #[] #[]] ++ lb) W1 R := by
  have hp : ∀ (q y1 y2 y3 y4 y5 : Item) (L2 L3 : List Item), (q :: y1 :: y2 :: y3 :: y4 :: y5 :: (L2 ++ L3)).Perm ((y1 :: y2 :: y3 :: y4 :: y5 :: (L2 ++ [q])) ++ L3) := by
    intro q y1 y2 y3 y4 y5 L2 L3
    have e : (y1 :: y2 :: y3 :: y4 :: y5 :: (L2 ++ [q])) ++ L3 = (y1 :: y2 :: y3 :: y4 :: y5 :: L2) ++ q :: L3 := by simp
    have e2 : q :: y1 :: y2 :: y3 :: y4 :: y5 :: (L2 ++ L3) = q :: ((y1 :: y2 :: y3 :: y4 :: y5 :: L2) ++ L3) := by simp
    rw [e, e2]
    exact List.perm_middle.symm
  refine (hI l (fun j T => ∃ A c vs, vs.length = j ∧ (j : Int) < most ∧ j ≤ rs.length ∧ T = toldT x y b3 b5 most rs A c vs j)
    (fun j T => ∃ A c vs, j < rs.length ∧ vs.length = j + 1 ∧ most = ((j + 1 : Nat) : Int) ∧ T = toldT z y b3 b5 most rs A c vs (j + 1)) W1 _ ⟨none, 0, [], rfl, hmo, Nat.zero_le _, rfl⟩ ?_ ?_).mono ?_
  · have := hM.pushNil 42 5
    simpa [toldT, VRows, recCells] using this
  · rintro j r T L' W D c hr ⟨A, c0, vs, hv, hjm, _, rfl⟩ hMW
    have hj : j < rs.length := (List.getElem?_eq_some_iff.1 hr).1
    have hlv : vs.length = (rs.take j).length := by rw [take_len (by omega)]; exact hv
    obtain ⟨fn, tmps, asg, bd, h1, h2⟩ := hY j r (VRows (rs.take j) vs ++ L') W D c A c0 vs hj hjm hMW
    refine ⟨fn, tmps, asg, bd, h1, h2.mono ?_⟩
    have key : ∀ {W' : World} {xz : Item} {A' : Option Addr} {c' : Nat}, Mem w0 own W' (.row (.slice D r.v.length c) 5 1 r.v.length (r.v.map V8) :: .row (.slice A' (j + 1) c') 42 5 (j + 1) (recCells (rs.take j) vs ++ recVals r (.slice D r.v.length c)) :: xz :: y :: .blk b5 29 #[.slice A' (j + 1) c'] :: .blk b3 3 #[.int .i64 most] :: (VRows (rs.take j) vs ++ L')) →
        Mem w0 own W' (toldT xz y b3 b5 most rs A' c' (vs ++ [.slice D r.v.length c]) (j + 1) ++ L') := by
      intro W' xz A' c' hM'
      unfold toldT
      rw [take_snoc hr, vrows_snoc _ vs r _ hlv, recCells_append _ [r] vs _ hlv, show recCells [r] [Value.slice D r.v.length c] = recVals r (.slice D r.v.length c) from by simp [recCells]]
      exact hM'.perm (hp _ _ _ _ _ _ _ _)
    rintro e W' (⟨hst, rfl, A', c', hM'⟩ | ⟨hgo, rfl, A', c', hM'⟩)
    · exact .inr ⟨rfl, _, ⟨A', c', _, hj, by simp [hv], by omega, rfl⟩, key hM'⟩
    · exact .inl ⟨rfl, _, ⟨A', c', _, by simp [hv], by omega, by omega, rfl⟩, key hM'⟩
  · rintro e W2 ⟨⟨v, rfl⟩, ⟨T, ⟨A, c, vs, hv, hjm, _, rfl⟩, hM2⟩ | ⟨j, T, ⟨A, c, vs, hj, hv, hm, rfl⟩, hM2⟩⟩
    · exact hR v A c vs _ W2 x (.inl rfl) (Nat.le_refl _) (by rw [List.take_length, List.take_of_length_le (by omega)]) hv hM2
    · exact hR v A c vs _ W2 z (.inr rfl) hj (by rw [hm]; rfl) hv hM2
theorem yield_hid {F : Fence} {m : Nat} {P : Program} {l : Nat} {args : Array Value} {W : World} {R : Ending → World → Prop} (h : ∀ R' : Ending → World → Prop, Hid (∀ e w, R e w → R' e w) → YieldAt F m P l args W R') : YieldAt F m P l args W R := h R (hide (fun _ _ h => h))
theorem fold1 (p : Nat) (v : Value) (t : Array Value) : ((#[p] : Array Tmp).zip #[v]).foldl (fun t (x : Tmp × Value) => t.setIfInBounds x.1 x.2) t = t.setIfInBounds p v := by simp
attribute [local irreducible] wpList Code.wp GW Calls
attribute [local go_sem] Oper.semAt_some
set_option maxRecDepth 100000 in
set_option maxHeartbeats 8000000 in
theorem told12_any {w0 w : World} {own : Nat → Prop} {L : List Item} (hM : Mem w0 own w L) (gf : Nat) (lb : Array Value) (rs : List Rec) (most : Int) (hrs : rs.length ≤ 1000)
    (eg : ∀ args w, (callFunc gf args).run Try.prog w = .ok (.enter gf args) w) (hI : Iter2 Try.prog gf lb enc1 rs w0 own L) :
    Calls Try.prog 22 #[.func (.func gf) #[] lb, .int .i64 most] w fun e w' => ∃ A c vs, e = .returned (.slice A (rs.take most.toNat).length c) ∧ vs.length = (rs.take most.toNat).length ∧
      Mem w0 own w' (outX A c (rs.take most.toNat) vs ++ L) := by
  obtain ⟨out, hout⟩ : ∃ out, out = rs.take most.toNat := ⟨_, rfl⟩
  rw [← hout]
  have HOUT := hide hout
  clear hout
  have hnil := fun w => run_eql_func_nil (P := Try.prog) w (t := 51) (by kernel_rfl) (.func gf) #[] lb
  refine (callsIn_wide (n := 0)).1 ?_
  refine callsIn_of_wp_marks Try.func22 rfl trivial ?_
  simp only [Try.ntmps22, List.size_toArray, List.length_cons, List.length_nil, Nat.reduceAdd, Nat.reduceSub, Array.replicate_succ, Array.replicate_zero, List.push_toArray, List.append_toArray, List.nil_append, List.cons_append]
  by_cases hmo : 0 < most
  · have hd : decide (most ≤ 0) = false := decide_eq_false (by omega)
    gi_wp2_with (first | (refine wpListIn_of1 (fun _ e => by cases e) ?_; ((with_reducible refine wl_shape ?_); first | (apply wl_boxa; exact rfl; exact hM; exact rfl; exact rfl; clear hM; intro gg ww hM; simp only [putT, List.set_cons_succ, List.set_cons_zero]) | (apply wl_box1; exact rfl; exact hM; exact rfl; exact rfl; exact rfl; clear hM; intro gg ww hM; simp only [putT, List.set_cons_succ, List.set_cons_zero]) | (apply wl_alloc; exact rfl; exact hM; exact rfl; exact inferInstance; clear hM; intro gg ww hM; simp only [putT, List.set_cons_succ, List.set_cons_zero]) | (apply wl_ld; exact rfl; exact hM; exact rfl; exact rfl; exact inferInstance; exact inferInstance; simp only [putT, List.set_cons_succ, List.set_cons_zero]) | (apply wl_lda; exact rfl; exact hM; exact rfl; exact rfl; exact inferInstance; exact inferInstance; exact inferInstance; exact inferInstance; simp only [putT, List.set_cons_succ, List.set_cons_zero]) | (apply wl_ldr; exact rfl; exact hM; exact rfl; exact rfl; exact inferInstance; exact inferInstance; exact inferInstance; exact inferInstance; simp only [putT, List.set_cons_succ, List.set_cons_zero]) | (apply wl_st; exact rfl; exact hM; exact rfl; exact rfl; exact rfl; exact rfl; exact inferInstance; exact inferInstance; clear hM; intro ww hM; simp only [putT, List.set_cons_succ, List.set_cons_zero]) | (apply wl_sta; exact rfl; exact hM; exact rfl; exact rfl; exact rfl; exact all_oneCell_toArray One.out; exact inferInstance; exact inferInstance; exact inferInstance; clear hM; intro ww hM; simp only [putT, List.set_cons_succ, List.set_cons_zero]) | (apply wl_bs0; exact rfl; exact hM; exact rfl; exact inferInstance; clear hM; intro gg ww hM; simp only [putT, List.set_cons_succ, List.set_cons_zero]) | (apply wl_bs1a; exact rfl; exact hM; exact rfl; exact inferInstance; exact rfl; exact inferInstance; clear hM; intro gg ww hM; simp only [putT, List.set_cons_succ, List.set_cons_zero]) | (apply wl_bs11; exact rfl; exact hM; exact rfl; exact inferInstance; exact rfl; exact rfl; clear hM; intro gg ww hM; simp only [putT, List.set_cons_succ, List.set_cons_zero]) | (apply wl_conv; exact rfl; exact hM; exact rfl; exact rfl; exact inferInstance; exact inferInstance; simp only [putT, List.set_cons_succ, List.set_cons_zero])); refine wpListIn_end ?_) | (rw [hd]))
    refine wpIn_range2 rfl eg hM ?_
    intro fn l D W1 hM1
    clear hM
    obtain ⟨z, hz⟩ := xz0 hM1
    refine told_use (z := z) hmo hI hM1 ?_ ?_
    · clear hM1 hI hnil
      intro j r L' W D' c A c0 vs hj hjm hM
      refine yield_hid (fun R' HR => ?_)
      refine yield_round hM 2 rfl rfl ?_
      simp only [fold1, List.setIfInBounds_toArray, List.set_cons_succ, List.set_cons_zero]
      gi_wp2_with (first | (refine wpListIn_of1 (fun _ e => by cases e) ?_; ((with_reducible refine wl_shape ?_); first | (apply wl_boxa; exact rfl; exact hM; exact rfl; exact rfl; clear hM; intro gg ww hM; simp only [putT, List.set_cons_succ, List.set_cons_zero]) | (apply wl_box1; exact rfl; exact hM; exact rfl; exact rfl; exact rfl; clear hM; intro gg ww hM; simp only [putT, List.set_cons_succ, List.set_cons_zero]) | (apply wl_alloc; exact rfl; exact hM; exact rfl; exact inferInstance; clear hM; intro gg ww hM; simp only [putT, List.set_cons_succ, List.set_cons_zero]) | (apply wl_ld; exact rfl; exact hM; exact rfl; exact rfl; exact inferInstance; exact inferInstance; simp only [putT, List.set_cons_succ, List.set_cons_zero]) | (apply wl_lda; exact rfl; exact hM; exact rfl; exact rfl; exact inferInstance; exact inferInstance; exact inferInstance; exact inferInstance; simp only [putT, List.set_cons_succ, List.set_cons_zero]) | (apply wl_ldr; exact rfl; exact hM; exact rfl; exact rfl; exact inferInstance; exact inferInstance; exact inferInstance; exact inferInstance; simp only [putT, List.set_cons_succ, List.set_cons_zero]) | (apply wl_st; exact rfl; exact hM; exact rfl; exact rfl; exact rfl; exact rfl; exact inferInstance; exact inferInstance; clear hM; intro ww hM; simp only [putT, List.set_cons_succ, List.set_cons_zero]) | (apply wl_sta; exact rfl; exact hM; exact rfl; exact rfl; exact rfl; exact all_oneCell_toArray One.out; exact inferInstance; exact inferInstance; exact inferInstance; clear hM; intro ww hM; simp only [putT, List.set_cons_succ, List.set_cons_zero]) | (apply wl_bs0; exact rfl; exact hM; exact rfl; exact inferInstance; clear hM; intro gg ww hM; simp only [putT, List.set_cons_succ, List.set_cons_zero]) | (apply wl_bs1a; exact rfl; exact hM; exact rfl; exact inferInstance; exact rfl; exact inferInstance; clear hM; intro gg ww hM; simp only [putT, List.set_cons_succ, List.set_cons_zero]) | (apply wl_bs11; exact rfl; exact hM; exact rfl; exact inferInstance; exact rfl; exact rfl; clear hM; intro gg ww hM; simp only [putT, List.set_cons_succ, List.set_cons_zero]) | (apply wl_conv; exact rfl; exact hM; exact rfl; exact rfl; exact inferInstance; exact inferInstance; simp only [putT, List.set_cons_succ, List.set_cons_zero])); refine wpListIn_end ?_))
      obtain ⟨wb, hb, hM2⟩ := begin_mem (P := Try.prog) hM 3 rfl
      refine ⟨wb, hb, ?_⟩
      clear hM hb
      have hM := hM2
      clear hM2
      simp only [List.set_cons_succ, List.set_cons_zero] at hM
      rcases (by omega : most ≤ (j : Int) + 1 ∨ ¬ most ≤ (j : Int) + 1) with hst | hgo
      · have hst2 : most ≤ ((j + 1 : Nat) : Int) := by omega
        have e1 : decide (most ≤ (j : Int) + 1) = true := decide_eq_true hst
        gi_wp2_with (first | (refine wpListIn_of1 (fun _ e => by cases e) ?_; ((with_reducible refine wl_shape ?_); first | (apply wl_boxa; exact rfl; exact hM; exact rfl; exact rfl; clear hM; intro gg ww hM; simp only [putT, List.set_cons_succ, List.set_cons_zero]) | (apply wl_box1; exact rfl; exact hM; exact rfl; exact rfl; exact rfl; clear hM; intro gg ww hM; simp only [putT, List.set_cons_succ, List.set_cons_zero]) | (apply wl_alloc; exact rfl; exact hM; exact rfl; exact inferInstance; clear hM; intro gg ww hM; simp only [putT, List.set_cons_succ, List.set_cons_zero]) | (apply wl_ld; exact rfl; exact hM; exact rfl; exact rfl; exact inferInstance; exact inferInstance; simp only [putT, List.set_cons_succ, List.set_cons_zero]) | (apply wl_lda; exact rfl; exact hM; exact rfl; exact rfl; exact inferInstance; exact inferInstance; exact inferInstance; exact inferInstance; simp only [putT, List.set_cons_succ, List.set_cons_zero]) | (apply wl_ldr; exact rfl; exact hM; exact rfl; exact rfl; exact inferInstance; exact inferInstance; exact inferInstance; exact inferInstance; simp only [putT, List.set_cons_succ, List.set_cons_zero]) | (apply wl_st; exact rfl; exact hM; exact rfl; exact rfl; exact rfl; exact rfl; exact inferInstance; exact inferInstance; clear hM; intro ww hM; simp only [putT, List.set_cons_succ, List.set_cons_zero]) | (apply wl_sta; exact rfl; exact hM; exact rfl; exact rfl; exact rfl; exact all_oneCell_toArray One.out; exact inferInstance; exact inferInstance; exact inferInstance; clear hM; intro ww hM; simp only [putT, List.set_cons_succ, List.set_cons_zero]) | (apply wl_bs0; exact rfl; exact hM; exact rfl; exact inferInstance; clear hM; intro gg ww hM; simp only [putT, List.set_cons_succ, List.set_cons_zero]) | (apply wl_bs1a; exact rfl; exact hM; exact rfl; exact inferInstance; exact rfl; exact inferInstance; clear hM; intro gg ww hM; simp only [putT, List.set_cons_succ, List.set_cons_zero]) | (apply wl_bs11; exact rfl; exact hM; exact rfl; exact inferInstance; exact rfl; exact rfl; clear hM; intro gg ww hM; simp only [putT, List.set_cons_succ, List.set_cons_zero]) | (apply wl_conv; exact rfl; exact hM; exact rfl; exact rfl; exact inferInstance; exact inferInstance; simp only [putT, List.set_cons_succ, List.set_cons_zero])); refine wpListIn_end ?_) | (refine wpListIn_of1 (fun _ e => by cases e) ?_; (apply wl_app; exact rfl; exact hM; exact rfl; exact inferInstance; exact rfl; exact rfl; exact inferInstance; exact One.out; exact inferInstance; (unfold maxLen; omega); omega; exact rfl; exact rfl; clear hM; intro A4 c4 ww hM; simp only [List.set_cons_succ, List.set_cons_zero] at hM; simp only [putT, List.set_cons_succ, List.set_cons_zero]); refine wpListIn_end ?_) | (rw [e1]))
        obtain ⟨w3, he, hM3⟩ := end_exit (P := Try.prog) 0 hM 4 rfl
        have hM4 := hM3.tail.tail
        exact ⟨_, w3, he, unhide HR _ _ (.inl ⟨hst2, rfl, A4, c4, by rw [hz]; exact hM4⟩)⟩
      · have hgo2 : ¬ most ≤ ((j + 1 : Nat) : Int) := by omega
        have e1 : decide (most ≤ (j : Int) + 1) = false := decide_eq_false hgo
        gi_wp2_with (first | (refine wpListIn_of1 (fun _ e => by cases e) ?_; ((with_reducible refine wl_shape ?_); first | (apply wl_boxa; exact rfl; exact hM; exact rfl; exact rfl; clear hM; intro gg ww hM; simp only [putT, List.set_cons_succ, List.set_cons_zero]) | (apply wl_box1; exact rfl; exact hM; exact rfl; exact rfl; exact rfl; clear hM; intro gg ww hM; simp only [putT, List.set_cons_succ, List.set_cons_zero]) | (apply wl_alloc; exact rfl; exact hM; exact rfl; exact inferInstance; clear hM; intro gg ww hM; simp only [putT, List.set_cons_succ, List.set_cons_zero]) | (apply wl_ld; exact rfl; exact hM; exact rfl; exact rfl; exact inferInstance; exact inferInstance; simp only [putT, List.set_cons_succ, List.set_cons_zero]) | (apply wl_lda; exact rfl; exact hM; exact rfl; exact rfl; exact inferInstance; exact inferInstance; exact inferInstance; exact inferInstance; simp only [putT, List.set_cons_succ, List.set_cons_zero]) | (apply wl_ldr; exact rfl; exact hM; exact rfl; exact rfl; exact inferInstance; exact inferInstance; exact inferInstance; exact inferInstance; simp only [putT, List.set_cons_succ, List.set_cons_zero]) | (apply wl_st; exact rfl; exact hM; exact rfl; exact rfl; exact rfl; exact rfl; exact inferInstance; exact inferInstance; clear hM; intro ww hM; simp only [putT, List.set_cons_succ, List.set_cons_zero]) | (apply wl_sta; exact rfl; exact hM; exact rfl; exact rfl; exact rfl; exact all_oneCell_toArray One.out; exact inferInstance; exact inferInstance; exact inferInstance; clear hM; intro ww hM; simp only [putT, List.set_cons_succ, List.set_cons_zero]) | (apply wl_bs0; exact rfl; exact hM; exact rfl; exact inferInstance; clear hM; intro gg ww hM; simp only [putT, List.set_cons_succ, List.set_cons_zero]) | (apply wl_bs1a; exact rfl; exact hM; exact rfl; exact inferInstance; exact rfl; exact inferInstance; clear hM; intro gg ww hM; simp only [putT, List.set_cons_succ, List.set_cons_zero]) | (apply wl_bs11; exact rfl; exact hM; exact rfl; exact inferInstance; exact rfl; exact rfl; clear hM; intro gg ww hM; simp only [putT, List.set_cons_succ, List.set_cons_zero]) | (apply wl_conv; exact rfl; exact hM; exact rfl; exact rfl; exact inferInstance; exact inferInstance; simp only [putT, List.set_cons_succ, List.set_cons_zero])); refine wpListIn_end ?_) | (refine wpListIn_of1 (fun _ e => by cases e) ?_; (apply wl_app; exact rfl; exact hM; exact rfl; exact inferInstance; exact rfl; exact rfl; exact inferInstance; exact One.out; exact inferInstance; (unfold maxLen; omega); omega; exact rfl; exact rfl; clear hM; intro A4 c4 ww hM; simp only [List.set_cons_succ, List.set_cons_zero] at hM; simp only [putT, List.set_cons_succ, List.set_cons_zero]); refine wpListIn_end ?_) | (rw [e1]))
        obtain ⟨w3, he, hM3⟩ := end_mem (P := Try.prog) hM 4 rfl
        have hM4 := hM3.tail.tail
        exact ⟨_, w3, he, unhide HR _ _ (.inr ⟨hgo2, rfl, A4, c4, hM4⟩)⟩
    · intro v A c vs n W2 q hq hn htk hv hM2
      rw [← unhide HOUT] at htk
      clear hM1 hI hnil eg
      have hln : (rs.take n).length = n := take_len hn
      unfold toldT at hM2
      simp only [List.cons_append] at hM2
      refine ⟨⟨v, rfl⟩, ?_⟩
      have key : ∀ {W3 : World} {Lx : List Item} {y1 y2 y3 y4 : Item}, Mem w0 own W3 (.row (.slice A n c) 42 5 n (recCells (rs.take n) vs) :: y1 :: y2 :: (VRows (rs.take n) vs ++ L)) → Mem w0 own W3 (outX A c out vs ++ L) := by
        intro W3 Lx y1 y2 y3 y4 h
        rw [← htk]
        unfold outX
        rw [hln]
        exact h.sub (List.Sublist.cons_cons _ (List.Sublist.cons _ (List.Sublist.cons _ (List.Sublist.refl _))))
      rcases hq with rfl | rfl
      · refine .inl ⟨_, hM2.perm (List.Perm.swap _ _ _), fun W3 hM3 => ?_⟩
        clear hM2
        have hM := hM3
        clear hM3 hz
        gi_wp2_with (first | (refine wpListIn_of1 (fun _ e => by cases e) ?_; ((with_reducible refine wl_shape ?_); first | (apply wl_boxa; exact rfl; exact hM; exact rfl; exact rfl; clear hM; intro gg ww hM; simp only [putT, List.set_cons_succ, List.set_cons_zero]) | (apply wl_box1; exact rfl; exact hM; exact rfl; exact rfl; exact rfl; clear hM; intro gg ww hM; simp only [putT, List.set_cons_succ, List.set_cons_zero]) | (apply wl_alloc; exact rfl; exact hM; exact rfl; exact inferInstance; clear hM; intro gg ww hM; simp only [putT, List.set_cons_succ, List.set_cons_zero]) | (apply wl_ld; exact rfl; exact hM; exact rfl; exact rfl; exact inferInstance; exact inferInstance; simp only [putT, List.set_cons_succ, List.set_cons_zero]) | (apply wl_lda; exact rfl; exact hM; exact rfl; exact rfl; exact inferInstance; exact inferInstance; exact inferInstance; exact inferInstance; simp only [putT, List.set_cons_succ, List.set_cons_zero]) | (apply wl_ldr; exact rfl; exact hM; exact rfl; exact rfl; exact inferInstance; exact inferInstance; exact inferInstance; exact inferInstance; simp only [putT, List.set_cons_succ, List.set_cons_zero]) | (apply wl_st; exact rfl; exact hM; exact rfl; exact rfl; exact rfl; exact rfl; exact inferInstance; exact inferInstance; clear hM; intro ww hM; simp only [putT, List.set_cons_succ, List.set_cons_zero]) | (apply wl_sta; exact rfl; exact hM; exact rfl; exact rfl; exact rfl; exact all_oneCell_toArray One.out; exact inferInstance; exact inferInstance; exact inferInstance; clear hM; intro ww hM; simp only [putT, List.set_cons_succ, List.set_cons_zero]) | (apply wl_bs0; exact rfl; exact hM; exact rfl; exact inferInstance; clear hM; intro gg ww hM; simp only [putT, List.set_cons_succ, List.set_cons_zero]) | (apply wl_bs1a; exact rfl; exact hM; exact rfl; exact inferInstance; exact rfl; exact inferInstance; clear hM; intro gg ww hM; simp only [putT, List.set_cons_succ, List.set_cons_zero]) | (apply wl_bs11; exact rfl; exact hM; exact rfl; exact inferInstance; exact rfl; exact rfl; clear hM; intro gg ww hM; simp only [putT, List.set_cons_succ, List.set_cons_zero]) | (apply wl_conv; exact rfl; exact hM; exact rfl; exact rfl; exact inferInstance; exact inferInstance; simp only [putT, List.set_cons_succ, List.set_cons_zero])); refine wpListIn_end ?_))
        refine leave_marked rfl (hM.perm (List.Perm.swap _ _ _)) (fun w' => results_tmp rfl _ _ _) (fun w' hM' => by
          have hk := key (Lx := []) (y3 := z) (y4 := z) hM'
          have h1 : n = out.length := by rw [← htk, hln]
          have h2 : vs.length = out.length := by rw [hv, h1]
          first
            | exact ⟨A, c, vs, by rw [← h1]; rfl, h2, hk⟩
            | exact ⟨A, c, by rw [← h1]; rfl, vs, h2, hk⟩)
      · rw [hz] at hM2
        refine .inr ⟨_, _, hM2.perm (List.Perm.swap _ _ _), fun W3 hM3 => ?_⟩
        clear hM2
        have hM := hM3
        clear hM3
        gi_wp2_with (first | (refine wpListIn_of1 (fun _ e => by cases e) ?_; ((with_reducible refine wl_shape ?_); first | (apply wl_boxa; exact rfl; exact hM; exact rfl; exact rfl; clear hM; intro gg ww hM; simp only [putT, List.set_cons_succ, List.set_cons_zero]) | (apply wl_box1; exact rfl; exact hM; exact rfl; exact rfl; exact rfl; clear hM; intro gg ww hM; simp only [putT, List.set_cons_succ, List.set_cons_zero]) | (apply wl_alloc; exact rfl; exact hM; exact rfl; exact inferInstance; clear hM; intro gg ww hM; simp only [putT, List.set_cons_succ, List.set_cons_zero]) | (apply wl_ld; exact rfl; exact hM; exact rfl; exact rfl; exact inferInstance; exact inferInstance; simp only [putT, List.set_cons_succ, List.set_cons_zero]) | (apply wl_lda; exact rfl; exact hM; exact rfl; exact rfl; exact inferInstance; exact inferInstance; exact inferInstance; exact inferInstance; simp only [putT, List.set_cons_succ, List.set_cons_zero]) | (apply wl_ldr; exact rfl; exact hM; exact rfl; exact rfl; exact inferInstance; exact inferInstance; exact inferInstance; exact inferInstance; simp only [putT, List.set_cons_succ, List.set_cons_zero]) | (apply wl_st; exact rfl; exact hM; exact rfl; exact rfl; exact rfl; exact rfl; exact inferInstance; exact inferInstance; clear hM; intro ww hM; simp only [putT, List.set_cons_succ, List.set_cons_zero]) | (apply wl_sta; exact rfl; exact hM; exact rfl; exact rfl; exact rfl; exact all_oneCell_toArray One.out; exact inferInstance; exact inferInstance; exact inferInstance; clear hM; intro ww hM; simp only [putT, List.set_cons_succ, List.set_cons_zero]) | (apply wl_bs0; exact rfl; exact hM; exact rfl; exact inferInstance; clear hM; intro gg ww hM; simp only [putT, List.set_cons_succ, List.set_cons_zero]) | (apply wl_bs1a; exact rfl; exact hM; exact rfl; exact inferInstance; exact rfl; exact inferInstance; clear hM; intro gg ww hM; simp only [putT, List.set_cons_succ, List.set_cons_zero]) | (apply wl_bs11; exact rfl; exact hM; exact rfl; exact inferInstance; exact rfl; exact rfl; clear hM; intro gg ww hM; simp only [putT, List.set_cons_succ, List.set_cons_zero]) | (apply wl_conv; exact rfl; exact hM; exact rfl; exact rfl; exact inferInstance; exact inferInstance; simp only [putT, List.set_cons_succ, List.set_cons_zero])); refine wpListIn_end ?_))
        refine leave_marked rfl (hM.perm (List.Perm.swap _ _ _)) (fun w' => results_tmp rfl _ _ _) (fun w' hM' => by
          have hk := key (Lx := []) (y3 := q) (y4 := q) hM'
          have h1 : n = out.length := by rw [← htk, hln]
          have h2 : vs.length = out.length := by rw [hv, h1]
          first
            | exact ⟨A, c, vs, by rw [← h1]; rfl, h2, hk⟩
            | exact ⟨A, c, by rw [← h1]; rfl, vs, h2, hk⟩)
  · have hd : decide (most ≤ 0) = true := decide_eq_true (by omega)
    have h0 : out = [] := by rw [unhide HOUT, show most.toNat = 0 from by omega]; rfl
    subst h0
    gi_wp2_with (first | (refine wpListIn_of1 (fun _ e => by cases e) ?_; ((with_reducible refine wl_shape ?_); first | (apply wl_boxa; exact rfl; exact hM; exact rfl; exact rfl; clear hM; intro gg ww hM; simp only [putT, List.set_cons_succ, List.set_cons_zero]) | (apply wl_box1; exact rfl; exact hM; exact rfl; exact rfl; exact rfl; clear hM; intro gg ww hM; simp only [putT, List.set_cons_succ, List.set_cons_zero]) | (apply wl_alloc; exact rfl; exact hM; exact rfl; exact inferInstance; clear hM; intro gg ww hM; simp only [putT, List.set_cons_succ, List.set_cons_zero]) | (apply wl_ld; exact rfl; exact hM; exact rfl; exact rfl; exact inferInstance; exact inferInstance; simp only [putT, List.set_cons_succ, List.set_cons_zero]) | (apply wl_lda; exact rfl; exact hM; exact rfl; exact rfl; exact inferInstance; exact inferInstance; exact inferInstance; exact inferInstance; simp only [putT, List.set_cons_succ, List.set_cons_zero]) | (apply wl_ldr; exact rfl; exact hM; exact rfl; exact rfl; exact inferInstance; exact inferInstance; exact inferInstance; exact inferInstance; simp only [putT, List.set_cons_succ, List.set_cons_zero]) | (apply wl_st; exact rfl; exact hM; exact rfl; exact rfl; exact rfl; exact rfl; exact inferInstance; exact inferInstance; clear hM; intro ww hM; simp only [putT, List.set_cons_succ, List.set_cons_zero]) | (apply wl_sta; exact rfl; exact hM; exact rfl; exact rfl; exact rfl; exact all_oneCell_toArray One.out; exact inferInstance; exact inferInstance; exact inferInstance; clear hM; intro ww hM; simp only [putT, List.set_cons_succ, List.set_cons_zero]) | (apply wl_bs0; exact rfl; exact hM; exact rfl; exact inferInstance; clear hM; intro gg ww hM; simp only [putT, List.set_cons_succ, List.set_cons_zero]) | (apply wl_bs1a; exact rfl; exact hM; exact rfl; exact inferInstance; exact rfl; exact inferInstance; clear hM; intro gg ww hM; simp only [putT, List.set_cons_succ, List.set_cons_zero]) | (apply wl_bs11; exact rfl; exact hM; exact rfl; exact inferInstance; exact rfl; exact rfl; clear hM; intro gg ww hM; simp only [putT, List.set_cons_succ, List.set_cons_zero]) | (apply wl_conv; exact rfl; exact hM; exact rfl; exact rfl; exact inferInstance; exact inferInstance; simp only [putT, List.set_cons_succ, List.set_cons_zero])); refine wpListIn_end ?_) | (rw [hd]))
    refine ⟨_, results_tmp rfl _ _ _, ?_⟩
    have hk := (hM.tail.tail).pushNil 42 5
    first
      | exact ⟨none, 0, rfl, hk⟩
      | exact ⟨none, 0, [], rfl, rfl, hk⟩
end Go.Proofs.Ytechglhkcjgodaa
