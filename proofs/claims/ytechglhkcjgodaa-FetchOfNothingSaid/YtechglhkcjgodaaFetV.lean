/- fetch.Each. -/
import Derived.Test.YtechglhkcjgodaaFetJ2
import Derived.Test.YtechglhkcjgodaaFetM
import Derived.Test.YtechglhkcjgodaaFetU
namespace Go.Proofs.Ytechglhkcjgodaa
open Go.RowKit Go.MapKept
set_option linter.unusedSimpArgs false
set_option linter.unusedVariables false
theorem Len_memE {w0 w : World} {own : Nat → Prop} {L : List Item} {g : Nat} {F : Nat → Prop} {m : PL} (i : Nat) (hM : Mem w0 own w L) (hi : L[i]? = some (.res F (LogP F g m))) : Calls Try.prog 30 #[.pointer (some ⟨g, 0, none⟩)] w fun x w' => x = .returned (.int .i64 m.recs.length) ∧ w = w' := by
  obtain ⟨S, V, ⟨gm, A, B, ca, cb, vs, h⟩, hF⟩ := hM.logP hi
  exact Len_any w g gm A B ca cb m vs h.read
theorem scan_len2 (mf : Rec → Bool) (en most : Int) : ∀ (rs : List Rec) (i : Nat) (out : List Rec), (scan mf en most rs i out).1.length ≤ out.length + rs.length
  | [], i, out => Nat.le_refl _
  | r :: rs, i, out => by
    unfold scan
    split
    · simp
    · refine Nat.le_trans (scan_len2 mf en most rs (i + 1) _) ?_
      split <;> simp <;> omega
/-- What Each tells. -/
def eachF (m : PL) (only : Bool) : List Rec := if only then (comF m 0 m.recs.length).1 else (anyF m 0 m.recs.length).1
theorem each_len (m : PL) (only : Bool) : (eachF m only).length ≤ m.recs.length := by
  unfold eachF
  split
  · refine Nat.le_trans (scan_len2 _ _ _ _ _ _) ?_
    simp
  · refine Nat.le_trans (scan_len2 _ _ _ _ _ _) ?_
    simp
/-- What a call has read, as a value: the things in Z besides. -/
def OutT (w0 : World) (own : Nat → Prop) (out : List Rec) (Y Z : List Item) (v : Value) (w : World) : Prop := ∃ A c vs u, v = .tuple #[.slice A out.length c, u] ∧ vs.length = out.length ∧ Mem w0 own w (Y ++ (outX A c out vs ++ Z))
def OutS (w0 : World) (own : Nat → Prop) (out : List Rec) (Y Z : List Item) (v : Value) (w : World) : Prop := ∃ A c vs, v = .slice A out.length c ∧ vs.length = out.length ∧ Mem w0 own w (Y ++ (outX A c out vs ++ Z))
theorem outT_0 {w0 : World} {own : Nat → Prop} {out : List Rec} {Y Z : List Item} (v : Value) (w : World) (h : OutT w0 own out Y Z v w) : ∃ ts u, v = .tuple ts ∧ ts[0]? = some u ∧ OutS w0 own out Y Z u w := by
  obtain ⟨A, c, vs, u, rfl, h1, h2⟩ := h
  exact ⟨_, _, rfl, rfl, A, c, vs, rfl, h1, h2⟩
theorem outT_1 {w0 : World} {own : Nat → Prop} {out : List Rec} {Y Z : List Item} (v : Value) (w : World) (h : OutT w0 own out Y Z v w) : ∃ ts u, v = .tuple ts ∧ ts[1]? = some u ∧ True := by
  obtain ⟨A, c, vs, u, rfl, h1, h2⟩ := h
  exact ⟨_, _, rfl, rfl, trivial⟩
theorem perm_each (a1 a2 a3 a4 a5 v : Item) (R T L : List Item) : (a1 :: a2 :: a3 :: a4 :: a5 :: ((v :: R) ++ (T ++ L))).Perm (v :: (T ++ (a1 :: a2 :: a3 :: a4 :: a5 :: (R ++ L)))) := by
  have h1 : ([a1, a2, a3, a4, a5] ++ (v :: (R ++ (T ++ L)))).Perm (v :: ([a1, a2, a3, a4, a5] ++ (R ++ (T ++ L)))) := List.perm_middle
  have h2 : ((([a1, a2, a3, a4, a5] ++ R) ++ (T ++ L))).Perm (T ++ (([a1, a2, a3, a4, a5] ++ R) ++ L)) := List.perm_append_comm_assoc _ _ _
  have h3 := h1.trans (List.Perm.cons v (by simpa using h2))
  simpa using h3
theorem perm_back (a2 a3 a4 a5 : Item) (R T L : List Item) : (T ++ (a2 :: a3 :: a4 :: a5 :: (R ++ L))).Perm (a2 :: a3 :: a4 :: a5 :: (R ++ (T ++ L))) := by
  have h := List.perm_append_comm_assoc T ([a2, a3, a4, a5] ++ R) L
  simpa using h
theorem sub_each (a1 a2 a3 a4 a5 : Item) (R L : List Item) : (a3 :: a4 :: a5 :: L).Sublist (a1 :: a2 :: a3 :: a4 :: a5 :: (R ++ L)) :=
  List.Sublist.cons _ (List.Sublist.cons _ (List.Sublist.cons_cons _ (List.Sublist.cons_cons _ (List.Sublist.cons_cons _ (List.sublist_append_right _ _)))))
attribute [local irreducible] wpList Code.wp GW Calls
attribute [local go_sem] Oper.semAt_some
theorem Each_mk {w0 w : World} {own : Nat → Prop} {L : List Item} (hM : Mem w0 own w L) (p : Option Addr) (only : Bool) : Calls Try.prog 23 #[.pointer p, .bool only] w fun e w' => ∃ b1 b2, e = .returned (.func (.func 43) #[] #[.pointer (some ⟨b1, 0, none⟩), .pointer (some ⟨b2, 0, none⟩)]) ∧
    Mem w0 own w' (.blk b2 4 #[.bool only] :: .blk b1 25 #[.pointer p] :: L) := by
  go_enter Try.func23, Try.ntmps23
  go_wp2_with (first | (with_reducible refine wl_shape ?_); first | (apply wl_boxa; exact rfl; exact hM; exact rfl; exact rfl; clear hM; intro gg ww hM; simp only [putT, List.set_cons_succ, List.set_cons_zero]) | (apply wl_box1; exact rfl; exact hM; exact rfl; exact rfl; exact rfl; clear hM; intro gg ww hM; simp only [putT, List.set_cons_succ, List.set_cons_zero]) | (apply wl_alloc; exact rfl; exact hM; exact rfl; exact inferInstance; clear hM; intro gg ww hM; simp only [putT, List.set_cons_succ, List.set_cons_zero]) | (apply wl_ld; exact rfl; exact hM; exact rfl; exact rfl; exact inferInstance; exact inferInstance; simp only [putT, List.set_cons_succ, List.set_cons_zero]) | (apply wl_lda; exact rfl; exact hM; exact rfl; exact rfl; exact inferInstance; exact inferInstance; exact inferInstance; exact inferInstance; simp only [putT, List.set_cons_succ, List.set_cons_zero]) | (apply wl_ldr; exact rfl; exact hM; exact rfl; exact rfl; exact inferInstance; exact inferInstance; exact inferInstance; exact inferInstance; simp only [putT, List.set_cons_succ, List.set_cons_zero]) | (apply wl_st; exact rfl; exact hM; exact rfl; exact rfl; exact rfl; exact rfl; exact inferInstance; exact inferInstance; clear hM; intro ww hM; simp only [putT, List.set_cons_succ, List.set_cons_zero]) | (apply wl_sta; exact rfl; exact hM; exact rfl; exact rfl; exact rfl; exact all_oneCell_toArray One.out; exact inferInstance; exact inferInstance; exact inferInstance; clear hM; intro ww hM; simp only [putT, List.set_cons_succ, List.set_cons_zero]) | (apply wl_bs0; exact rfl; exact hM; exact rfl; exact inferInstance; clear hM; intro gg ww hM; simp only [putT, List.set_cons_succ, List.set_cons_zero]) | (apply wl_bs1a; exact rfl; exact hM; exact rfl; exact inferInstance; exact rfl; exact inferInstance; clear hM; intro gg ww hM; simp only [putT, List.set_cons_succ, List.set_cons_zero]) | (apply wl_bs11; exact rfl; exact hM; exact rfl; exact inferInstance; exact rfl; exact rfl; clear hM; intro gg ww hM; simp only [putT, List.set_cons_succ, List.set_cons_zero]) | (apply wl_conv; exact rfl; exact hM; exact rfl; exact rfl; exact inferInstance; exact inferInstance; simp only [putT, List.set_cons_succ, List.set_cons_zero]))
  go_ret
  exact ⟨_, _, rfl, hM⟩
set_option maxRecDepth 100000 in
set_option maxHeartbeats 8000000 in
theorem iter_each {w0 : World} {own : Nat → Prop} {L : List Item} {b1 b2 g : Nat} {F : Nat → Prop} {m : PL} {only : Bool} (ok : m.Ok) (hsl' : m.spans.length ≤ 1000000) :
    Iter2 Try.prog 43 #[.pointer (some ⟨b1, 0, none⟩), .pointer (some ⟨b2, 0, none⟩)] enc1 (eachF m only) w0 own (.blk b2 4 #[.bool only] :: .blk b1 25 #[.pointer (some ⟨g, 0, none⟩)] :: .res F (LogP F g m) :: L) := by
  intro l TT XX W T hT hM hY
  have hlen := ok.len
  obtain ⟨rs, hrs⟩ : ∃ rs, rs = eachF m only := ⟨_, rfl⟩
  have hrl : rs.length ≤ 128 := by rw [hrs]; exact Nat.le_trans (each_len m only) hlen
  rw [← hrs] at hY ⊢
  have HRS := hide hrs
  clear hrs
  replace hM := hM.perm (List.perm_append_comm_assoc T [_, _, _] L)
  simp only [List.cons_append, List.nil_append] at hM
  refine (callsIn_wide (n := 0)).1 ?_
  refine callsIn_of_wp Try.func43 rfl trivial ?_
  simp only [Try.ntmps43, List.size_toArray, List.length_cons, List.length_nil, Nat.reduceAdd, Nat.reduceSub, Array.replicate_succ, Array.replicate_zero, List.push_toArray, List.append_toArray, List.nil_append, List.cons_append]
  gi_wp2
  refine wpIn_wide.2 ?_
  refine wp_region_b [3] [3, 4, 5, 6, 7, 8] [7] (C := fun w' => Mem w0 own w' (.blk b2 4 #[.bool only] :: .blk b1 25 #[.pointer (some ⟨g, 0, none⟩)] :: .res F (LogP F g m) :: (T ++ L))) hM.drew (by kernel_rfl) (by kernel_rfl) (by kernel_rfl) (by kernel_rfl) ?_
  simp only [initS, Act.put, List.setIfInBounds_toArray, List.set_cons_succ, List.set_cons_zero, List.map_cons, List.map_nil]
  repeat (first
    | (apply gb_ld (.pointer (some ⟨g, 0, none⟩)); exact rfl; exact rfl; exact rfl; (intro w' hC; exact hC.cell 1 rfl 0); exact inferInstance; simp only [setD, List.set_cons_succ, List.set_cons_zero])
    | (refine gb_call (f := 30) rfl rfl rfl #[.pointer (some ⟨g, 0, none⟩)] rfl (.int .i64 m.recs.length) (fun γ w => by go_simp) (fun w' hC => Len_memE 2 hC rfl) ?_; simp only [setD, List.set_cons_succ, List.set_cons_zero])
    | (refine gb_big (f := 13) rfl rfl rfl rfl #[.pointer (some ⟨g, 0, none⟩), .int .i64 0, .int .i64 m.recs.length] rfl (OutT w0 own (anyF m 0 m.recs.length).1 [.blk b2 4 #[.bool only], .blk b1 25 #[.pointer (some ⟨g, 0, none⟩)], .res F (LogP F g m)] (T ++ L)) (fun γ w => by go_simp) ?_ ?_
       · intro w' hC
         refine (Any_any (hC.perm (List.perm_middle (l₁ := [_, _]))) ok 0 m.recs.length).mono ?_
         rintro e w'' ⟨A, c, vs, rfl, hv, hM2⟩
         have h3 : Mem w0 own w'' ([.blk b2 4 #[.bool only], .blk b1 25 #[.pointer (some ⟨g, 0, none⟩)], .res F (LogP F g m)] ++ (outX A c (anyF m 0 m.recs.length).1 vs ++ (T ++ L))) := hM2.perm (by
           refine (List.Perm.append_left _ (List.perm_middle (l₁ := [_, _])).symm).trans ?_
           exact List.perm_append_comm_assoc _ [_, _, _] _)
         refine ⟨_, rfl, h3.sub ?_, A, c, vs, _, rfl, hv, h3⟩
         exact (List.Sublist.refl [_, _, _]).append (List.sublist_append_right _ _)
       simp only [setD, List.set_cons_succ, List.set_cons_zero])
    | (refine gb_moveP (.inl rfl) rfl rfl _ rfl ?_; simp only [setD, List.set_cons_succ, List.set_cons_zero])
    | (refine gb_moveP (.inr rfl) rfl rfl _ rfl ?_; simp only [setD, List.set_cons_succ, List.set_cons_zero])
    | (refine gb_ext (i := 0) rfl rfl rfl _ _ rfl outT_0 ?_; simp only [setD, List.set_cons_succ, List.set_cons_zero])
    | (refine gb_ext (i := 1) rfl rfl rfl _ (fun _ _ => True) rfl outT_1 ?_; simp only [setD, List.set_cons_succ, List.set_cons_zero]))
  refine gw_nil ?_
  intro γ w4 hC' hk'
  have h4 : OutS w0 own (anyF m 0 m.recs.length).1 [.blk b2 4 #[.bool only], .blk b1 25 #[.pointer (some ⟨g, 0, none⟩)], .res F (LogP F g m)] (T ++ L) (γ 4) w4 := hk' 7 4 _ rfl rfl rfl
  simp only [slAct, slVals, Slot.get]
  clear hk' hC' hM
  cases only
  · have hout : (anyF m 0 m.recs.length).1 = rs := (unhide HRS).symm
    rw [hout] at h4
    obtain ⟨A, c, vs, he, hv, hM⟩ := h4
    rw [he]
    clear he hout
    simp only [List.cons_append, List.nil_append] at hM
    gi_wp2_with (first | (refine wpListIn_of1 (fun _ e => by cases e) ?_; ((with_reducible refine wl_shape ?_); first | (apply wl_boxa; exact rfl; exact hM; exact rfl; exact rfl; clear hM; intro gg ww hM; simp only [putT, List.set_cons_succ, List.set_cons_zero]) | (apply wl_box1; exact rfl; exact hM; exact rfl; exact rfl; exact rfl; clear hM; intro gg ww hM; simp only [putT, List.set_cons_succ, List.set_cons_zero]) | (apply wl_alloc; exact rfl; exact hM; exact rfl; exact inferInstance; clear hM; intro gg ww hM; simp only [putT, List.set_cons_succ, List.set_cons_zero]) | (apply wl_ld; exact rfl; exact hM; exact rfl; exact rfl; exact inferInstance; exact inferInstance; simp only [putT, List.set_cons_succ, List.set_cons_zero]) | (apply wl_lda; exact rfl; exact hM; exact rfl; exact rfl; exact inferInstance; exact inferInstance; exact inferInstance; exact inferInstance; simp only [putT, List.set_cons_succ, List.set_cons_zero]) | (apply wl_ldr; exact rfl; exact hM; exact rfl; exact rfl; exact inferInstance; exact inferInstance; exact inferInstance; exact inferInstance; simp only [putT, List.set_cons_succ, List.set_cons_zero]) | (apply wl_st; exact rfl; exact hM; exact rfl; exact rfl; exact rfl; exact rfl; exact inferInstance; exact inferInstance; clear hM; intro ww hM; simp only [putT, List.set_cons_succ, List.set_cons_zero]) | (apply wl_sta; exact rfl; exact hM; exact rfl; exact rfl; exact rfl; exact all_oneCell_toArray One.out; exact inferInstance; exact inferInstance; exact inferInstance; clear hM; intro ww hM; simp only [putT, List.set_cons_succ, List.set_cons_zero]) | (apply wl_bs0; exact rfl; exact hM; exact rfl; exact inferInstance; clear hM; intro gg ww hM; simp only [putT, List.set_cons_succ, List.set_cons_zero]) | (apply wl_bs1a; exact rfl; exact hM; exact rfl; exact inferInstance; exact rfl; exact inferInstance; clear hM; intro gg ww hM; simp only [putT, List.set_cons_succ, List.set_cons_zero]) | (apply wl_bs11; exact rfl; exact hM; exact rfl; exact inferInstance; exact rfl; exact rfl; clear hM; intro gg ww hM; simp only [putT, List.set_cons_succ, List.set_cons_zero]) | (apply wl_conv; exact rfl; exact hM; exact rfl; exact rfl; exact inferInstance; exact inferInstance; simp only [putT, List.set_cons_succ, List.set_cons_zero])); refine wpListIn_end ?_))
    have hvl : vs.length = rs.length := hv
    have hM2 : Mem w0 own w4 (.row (.slice A rs.length c) 42 5 rs.length (recCells rs vs) :: .blk b2 4 #[.bool false] :: .blk b1 25 #[.pointer (some ⟨g, 0, none⟩)] :: .res F (LogP F g m) :: (VRows (rs.drop 0) (vs.drop 0) ++ (T ++ L))) := by
      simp only [List.drop_zero]
      exact hM.perm (List.perm_middle (l₁ := [_, _, _]))
    have HM := hide hM2
    clear hM
    gi_loopw [25] (fun v wr => ∃ (j : Nat) (T : List Item), v = .int .i64 j ∧ j ≤ rs.length ∧ TT j T ∧ Mem w0 own wr (.row (.slice A rs.length c) 42 5 rs.length (recCells rs vs) :: .blk b2 4 #[.bool false] :: .blk b1 25 #[.pointer (some ⟨g, 0, none⟩)] :: .res F (LogP F g m) :: (VRows (rs.drop j) (vs.drop j) ++ (T ++ L)))) (fun v _ => rs.length - (intOf v).toNat)
    case atStart => exact ⟨0, T, rfl, Nat.zero_le _, hT, hM2⟩
    case round =>
      clear hM2
      obtain ⟨j, T, rfl, hj, hTj, hM⟩ := hrel
      by_cases hlt : j < rs.length
      · obtain ⟨r, hr⟩ : ∃ r, rs[j]? = some r := ⟨_, List.getElem?_eq_getElem hlt⟩
        obtain ⟨v, hv1⟩ : ∃ v, vs[j]? = some v := ⟨_, List.getElem?_eq_getElem (by rw [hvl]; exact hlt)⟩
        have hd1 := drop_cons hr
        have hd2 : vs.drop j = v :: vs.drop (j + 1) := by
          obtain ⟨hj', rfl⟩ := List.getElem?_eq_some_iff.1 hv1
          exact List.drop_eq_getElem_cons hj'
        rw [hd1, hd2] at hM
        have hvr : VRows (r :: rs.drop (j + 1)) (v :: vs.drop (j + 1)) = .row v 5 1 r.v.length (r.v.map V8) :: VRows (rs.drop (j + 1)) (vs.drop (j + 1)) := rfl
        rw [hvr] at hM
        clear hd1 hd2 hvr
        have hrow : wr.ownsRow 0 5 1 v r.v.length (r.v.map V8) := hM.row 4 rfl
        obtain ⟨D, cq, rfl, _, _⟩ := row_form hrow
        clear hrow
        obtain ⟨b, off, rfl, -, -⟩ := rec_range (Reads.of_own (hM.row 0 rfl)) hvl rfl j hlt
        have hrr : rs[j] = r := (List.getElem?_eq_some_iff.1 hr).2
        have c1 : ∀ (L' : List Item) [HasRow L' (.slice (some ⟨b, off, none⟩) rs.length c) 42 5 rs.length (recCells rs vs)], Rng w0 own L' b (off + j * 5) (recVals r (.slice D r.v.length cq)) := fun L' h => ⟨fun w hM => by
          have h1 : w.ownsRow 0 42 5 (.slice (some ⟨b, off, none⟩) rs.length c) rs.length (recCells rs vs) := hM.has _ h.out
          obtain ⟨b', off', e2, _, h2⟩ := rec_range (Reads.of_own h1) hvl rfl j hlt
          injection e2 with e2
          injection e2 with e2 e3 _
          subst e2
          subst e3
          rw [hrr] at h2
          rw [List.getElem?_eq_getElem (by rw [hvl]; exact hlt)] at hv1
          injection hv1 with hv1
          rw [hv1] at h2
          exact h2⟩
        clear hrr hv1
        gi_wp2_with (first | (refine wpListIn_of1 (fun _ e => by cases e) ?_; ((with_reducible refine wl_shape ?_); first | (apply wl_boxa; exact rfl; exact hM; exact rfl; exact rfl; clear hM; intro gg ww hM; simp only [putT, List.set_cons_succ, List.set_cons_zero]) | (apply wl_box1; exact rfl; exact hM; exact rfl; exact rfl; exact rfl; clear hM; intro gg ww hM; simp only [putT, List.set_cons_succ, List.set_cons_zero]) | (apply wl_alloc; exact rfl; exact hM; exact rfl; exact inferInstance; clear hM; intro gg ww hM; simp only [putT, List.set_cons_succ, List.set_cons_zero]) | (apply wl_ld; exact rfl; exact hM; exact rfl; exact rfl; exact inferInstance; exact inferInstance; simp only [putT, List.set_cons_succ, List.set_cons_zero]) | (apply wl_lda; exact rfl; exact hM; exact rfl; exact rfl; exact inferInstance; exact inferInstance; exact inferInstance; exact inferInstance; simp only [putT, List.set_cons_succ, List.set_cons_zero]) | (apply wl_ldr; exact rfl; exact hM; exact rfl; exact rfl; exact inferInstance; exact inferInstance; exact inferInstance; exact inferInstance; simp only [putT, List.set_cons_succ, List.set_cons_zero]) | (apply wl_st; exact rfl; exact hM; exact rfl; exact rfl; exact rfl; exact rfl; exact inferInstance; exact inferInstance; clear hM; intro ww hM; simp only [putT, List.set_cons_succ, List.set_cons_zero]) | (apply wl_sta; exact rfl; exact hM; exact rfl; exact rfl; exact rfl; exact all_oneCell_toArray One.out; exact inferInstance; exact inferInstance; exact inferInstance; clear hM; intro ww hM; simp only [putT, List.set_cons_succ, List.set_cons_zero]) | (apply wl_bs0; exact rfl; exact hM; exact rfl; exact inferInstance; clear hM; intro gg ww hM; simp only [putT, List.set_cons_succ, List.set_cons_zero]) | (apply wl_bs1a; exact rfl; exact hM; exact rfl; exact inferInstance; exact rfl; exact inferInstance; clear hM; intro gg ww hM; simp only [putT, List.set_cons_succ, List.set_cons_zero]) | (apply wl_bs11; exact rfl; exact hM; exact rfl; exact inferInstance; exact rfl; exact rfl; clear hM; intro gg ww hM; simp only [putT, List.set_cons_succ, List.set_cons_zero]) | (apply wl_conv; exact rfl; exact hM; exact rfl; exact rfl; exact inferInstance; exact inferInstance; simp only [putT, List.set_cons_succ, List.set_cons_zero])); refine wpListIn_end ?_))
        obtain ⟨fn, tmps, asg, bd, hy, hR⟩ := hY j r T _ _ D cq hr hTj (hM.perm (perm_each _ _ _ _ _ _ _ _ _))
        have hy2 : (Instr.yield l #[.agg (recVals r (.slice D r.v.length cq)).toArray]).run Try.prog ww = .ok (.round l fn tmps asg bd) ww := hy
        rw [hy2, Oper.uponIn_round]
        refine ⟨fun e => (by cases e), hR.mono ?_⟩
        rintro e W' (⟨rfl, T', hT', hM'⟩ | ⟨rfl, T', hT', hM'⟩)
        · clear hM hy hy2 hR
          have hM := (hM'.sub ((List.Sublist.refl T').append (List.sublist_cons_self _ _))).perm (perm_back _ _ _ _ _ _ _)
          clear hM'
          gi_wp2_with (first | (refine wpListIn_of1 (fun _ e => by cases e) ?_; ((with_reducible refine wl_shape ?_); first | (apply wl_boxa; exact rfl; exact hM; exact rfl; exact rfl; clear hM; intro gg ww hM; simp only [putT, List.set_cons_succ, List.set_cons_zero]) | (apply wl_box1; exact rfl; exact hM; exact rfl; exact rfl; exact rfl; clear hM; intro gg ww hM; simp only [putT, List.set_cons_succ, List.set_cons_zero]) | (apply wl_alloc; exact rfl; exact hM; exact rfl; exact inferInstance; clear hM; intro gg ww hM; simp only [putT, List.set_cons_succ, List.set_cons_zero]) | (apply wl_ld; exact rfl; exact hM; exact rfl; exact rfl; exact inferInstance; exact inferInstance; simp only [putT, List.set_cons_succ, List.set_cons_zero]) | (apply wl_lda; exact rfl; exact hM; exact rfl; exact rfl; exact inferInstance; exact inferInstance; exact inferInstance; exact inferInstance; simp only [putT, List.set_cons_succ, List.set_cons_zero]) | (apply wl_ldr; exact rfl; exact hM; exact rfl; exact rfl; exact inferInstance; exact inferInstance; exact inferInstance; exact inferInstance; simp only [putT, List.set_cons_succ, List.set_cons_zero]) | (apply wl_st; exact rfl; exact hM; exact rfl; exact rfl; exact rfl; exact rfl; exact inferInstance; exact inferInstance; clear hM; intro ww hM; simp only [putT, List.set_cons_succ, List.set_cons_zero]) | (apply wl_sta; exact rfl; exact hM; exact rfl; exact rfl; exact rfl; exact all_oneCell_toArray One.out; exact inferInstance; exact inferInstance; exact inferInstance; clear hM; intro ww hM; simp only [putT, List.set_cons_succ, List.set_cons_zero]) | (apply wl_bs0; exact rfl; exact hM; exact rfl; exact inferInstance; clear hM; intro gg ww hM; simp only [putT, List.set_cons_succ, List.set_cons_zero]) | (apply wl_bs1a; exact rfl; exact hM; exact rfl; exact inferInstance; exact rfl; exact inferInstance; clear hM; intro gg ww hM; simp only [putT, List.set_cons_succ, List.set_cons_zero]) | (apply wl_bs11; exact rfl; exact hM; exact rfl; exact inferInstance; exact rfl; exact rfl; clear hM; intro gg ww hM; simp only [putT, List.set_cons_succ, List.set_cons_zero]) | (apply wl_conv; exact rfl; exact hM; exact rfl; exact rfl; exact inferInstance; exact inferInstance; simp only [putT, List.set_cons_succ, List.set_cons_zero])); refine wpListIn_end ?_))
          refine ⟨?_, ?measure⟩
          (repeat apply Exists.intro)
          refine ⟨?rel, rfl⟩
          case rel => exact ⟨j + 1, T', by go_num, by omega, hT', hM⟩
          case measure => simp [intOf]; omega
        · clear hM hy hy2 hR
          have hM := hM'.sub (List.Sublist.append (List.Sublist.refl T') (sub_each _ _ _ _ _ _ _))
          clear hM'
          gi_wp2_with (first | (refine wpListIn_of1 (fun _ e => by cases e) ?_; ((with_reducible refine wl_shape ?_); first | (apply wl_boxa; exact rfl; exact hM; exact rfl; exact rfl; clear hM; intro gg ww hM; simp only [putT, List.set_cons_succ, List.set_cons_zero]) | (apply wl_box1; exact rfl; exact hM; exact rfl; exact rfl; exact rfl; clear hM; intro gg ww hM; simp only [putT, List.set_cons_succ, List.set_cons_zero]) | (apply wl_alloc; exact rfl; exact hM; exact rfl; exact inferInstance; clear hM; intro gg ww hM; simp only [putT, List.set_cons_succ, List.set_cons_zero]) | (apply wl_ld; exact rfl; exact hM; exact rfl; exact rfl; exact inferInstance; exact inferInstance; simp only [putT, List.set_cons_succ, List.set_cons_zero]) | (apply wl_lda; exact rfl; exact hM; exact rfl; exact rfl; exact inferInstance; exact inferInstance; exact inferInstance; exact inferInstance; simp only [putT, List.set_cons_succ, List.set_cons_zero]) | (apply wl_ldr; exact rfl; exact hM; exact rfl; exact rfl; exact inferInstance; exact inferInstance; exact inferInstance; exact inferInstance; simp only [putT, List.set_cons_succ, List.set_cons_zero]) | (apply wl_st; exact rfl; exact hM; exact rfl; exact rfl; exact rfl; exact rfl; exact inferInstance; exact inferInstance; clear hM; intro ww hM; simp only [putT, List.set_cons_succ, List.set_cons_zero]) | (apply wl_sta; exact rfl; exact hM; exact rfl; exact rfl; exact rfl; exact all_oneCell_toArray One.out; exact inferInstance; exact inferInstance; exact inferInstance; clear hM; intro ww hM; simp only [putT, List.set_cons_succ, List.set_cons_zero]) | (apply wl_bs0; exact rfl; exact hM; exact rfl; exact inferInstance; clear hM; intro gg ww hM; simp only [putT, List.set_cons_succ, List.set_cons_zero]) | (apply wl_bs1a; exact rfl; exact hM; exact rfl; exact inferInstance; exact rfl; exact inferInstance; clear hM; intro gg ww hM; simp only [putT, List.set_cons_succ, List.set_cons_zero]) | (apply wl_bs11; exact rfl; exact hM; exact rfl; exact inferInstance; exact rfl; exact rfl; clear hM; intro gg ww hM; simp only [putT, List.set_cons_succ, List.set_cons_zero]) | (apply wl_conv; exact rfl; exact hM; exact rfl; exact rfl; exact inferInstance; exact inferInstance; simp only [putT, List.set_cons_succ, List.set_cons_zero])); refine wpListIn_end ?_))
          (try simp only [Exit.inBlock, Exit.then])
          refine bodyPost_ret (results_none rfl _ _ _) rfl ?_
          exact ⟨⟨_, rfl⟩, .inr ⟨j, T', hT', hM⟩⟩
      · have e : j = rs.length := by omega
        subst e
        gi_wp2_with (first | (refine wpListIn_of1 (fun _ e => by cases e) ?_; ((with_reducible refine wl_shape ?_); first | (apply wl_boxa; exact rfl; exact hM; exact rfl; exact rfl; clear hM; intro gg ww hM; simp only [putT, List.set_cons_succ, List.set_cons_zero]) | (apply wl_box1; exact rfl; exact hM; exact rfl; exact rfl; exact rfl; clear hM; intro gg ww hM; simp only [putT, List.set_cons_succ, List.set_cons_zero]) | (apply wl_alloc; exact rfl; exact hM; exact rfl; exact inferInstance; clear hM; intro gg ww hM; simp only [putT, List.set_cons_succ, List.set_cons_zero]) | (apply wl_ld; exact rfl; exact hM; exact rfl; exact rfl; exact inferInstance; exact inferInstance; simp only [putT, List.set_cons_succ, List.set_cons_zero]) | (apply wl_lda; exact rfl; exact hM; exact rfl; exact rfl; exact inferInstance; exact inferInstance; exact inferInstance; exact inferInstance; simp only [putT, List.set_cons_succ, List.set_cons_zero]) | (apply wl_ldr; exact rfl; exact hM; exact rfl; exact rfl; exact inferInstance; exact inferInstance; exact inferInstance; exact inferInstance; simp only [putT, List.set_cons_succ, List.set_cons_zero]) | (apply wl_st; exact rfl; exact hM; exact rfl; exact rfl; exact rfl; exact rfl; exact inferInstance; exact inferInstance; clear hM; intro ww hM; simp only [putT, List.set_cons_succ, List.set_cons_zero]) | (apply wl_sta; exact rfl; exact hM; exact rfl; exact rfl; exact rfl; exact all_oneCell_toArray One.out; exact inferInstance; exact inferInstance; exact inferInstance; clear hM; intro ww hM; simp only [putT, List.set_cons_succ, List.set_cons_zero]) | (apply wl_bs0; exact rfl; exact hM; exact rfl; exact inferInstance; clear hM; intro gg ww hM; simp only [putT, List.set_cons_succ, List.set_cons_zero]) | (apply wl_bs1a; exact rfl; exact hM; exact rfl; exact inferInstance; exact rfl; exact inferInstance; clear hM; intro gg ww hM; simp only [putT, List.set_cons_succ, List.set_cons_zero]) | (apply wl_bs11; exact rfl; exact hM; exact rfl; exact inferInstance; exact rfl; exact rfl; clear hM; intro gg ww hM; simp only [putT, List.set_cons_succ, List.set_cons_zero]) | (apply wl_conv; exact rfl; exact hM; exact rfl; exact rfl; exact inferInstance; exact inferInstance; simp only [putT, List.set_cons_succ, List.set_cons_zero])); refine wpListIn_end ?_))
        go_end0
        refine ⟨⟨_, rfl⟩, .inl ⟨T, hTj, ?_⟩⟩
        rw [List.drop_length] at hM
        exact hM.tail.perm (List.perm_append_comm_assoc [_, _, _] T L)
  · obtain ⟨A0, c0, vs0, he0, hv0, hM0⟩ := h4
    rw [he0]
    have hM := hM0.sub ((List.Sublist.refl [_, _, _]).append (List.sublist_append_right _ _))
    clear he0 hv0 hM0
    simp only [List.cons_append, List.nil_append] at hM
    gi_wp2_with (first | (refine wpListIn_of1 (fun _ e => by cases e) ?_; ((with_reducible refine wl_shape ?_); first | (apply wl_boxa; exact rfl; exact hM; exact rfl; exact rfl; clear hM; intro gg ww hM; simp only [putT, List.set_cons_succ, List.set_cons_zero]) | (apply wl_box1; exact rfl; exact hM; exact rfl; exact rfl; exact rfl; clear hM; intro gg ww hM; simp only [putT, List.set_cons_succ, List.set_cons_zero]) | (apply wl_alloc; exact rfl; exact hM; exact rfl; exact inferInstance; clear hM; intro gg ww hM; simp only [putT, List.set_cons_succ, List.set_cons_zero]) | (apply wl_ld; exact rfl; exact hM; exact rfl; exact rfl; exact inferInstance; exact inferInstance; simp only [putT, List.set_cons_succ, List.set_cons_zero]) | (apply wl_lda; exact rfl; exact hM; exact rfl; exact rfl; exact inferInstance; exact inferInstance; exact inferInstance; exact inferInstance; simp only [putT, List.set_cons_succ, List.set_cons_zero]) | (apply wl_ldr; exact rfl; exact hM; exact rfl; exact rfl; exact inferInstance; exact inferInstance; exact inferInstance; exact inferInstance; simp only [putT, List.set_cons_succ, List.set_cons_zero]) | (apply wl_st; exact rfl; exact hM; exact rfl; exact rfl; exact rfl; exact rfl; exact inferInstance; exact inferInstance; clear hM; intro ww hM; simp only [putT, List.set_cons_succ, List.set_cons_zero]) | (apply wl_sta; exact rfl; exact hM; exact rfl; exact rfl; exact rfl; exact all_oneCell_toArray One.out; exact inferInstance; exact inferInstance; exact inferInstance; clear hM; intro ww hM; simp only [putT, List.set_cons_succ, List.set_cons_zero]) | (apply wl_bs0; exact rfl; exact hM; exact rfl; exact inferInstance; clear hM; intro gg ww hM; simp only [putT, List.set_cons_succ, List.set_cons_zero]) | (apply wl_bs1a; exact rfl; exact hM; exact rfl; exact inferInstance; exact rfl; exact inferInstance; clear hM; intro gg ww hM; simp only [putT, List.set_cons_succ, List.set_cons_zero]) | (apply wl_bs11; exact rfl; exact hM; exact rfl; exact inferInstance; exact rfl; exact rfl; clear hM; intro gg ww hM; simp only [putT, List.set_cons_succ, List.set_cons_zero]) | (apply wl_conv; exact rfl; exact hM; exact rfl; exact rfl; exact inferInstance; exact inferInstance; simp only [putT, List.set_cons_succ, List.set_cons_zero])); refine wpListIn_end ?_))
    refine wpIn_wide.2 ?_
    refine wp_region_b [3] [3, 4, 5, 6, 7] [7] (C := fun w' => Mem w0 own w' (.blk b2 4 #[.bool true] :: .blk b1 25 #[.pointer (some ⟨g, 0, none⟩)] :: .res F (LogP F g m) :: (T ++ L))) hM.drew (by kernel_rfl) (by kernel_rfl) (by kernel_rfl) (by kernel_rfl) ?_
    simp only [initS, Act.put, List.setIfInBounds_toArray, List.set_cons_succ, List.set_cons_zero, List.map_cons, List.map_nil]
    repeat (first
      | (apply gb_ld (.pointer (some ⟨g, 0, none⟩)); exact rfl; exact rfl; exact rfl; (intro w' hC; exact hC.cell 1 rfl 0); exact inferInstance; simp only [setD, List.set_cons_succ, List.set_cons_zero])
      | (refine gb_call (f := 30) rfl rfl rfl #[.pointer (some ⟨g, 0, none⟩)] rfl (.int .i64 m.recs.length) (fun γ w => by go_simp) (fun w' hC => Len_memE 2 hC rfl) ?_; simp only [setD, List.set_cons_succ, List.set_cons_zero])
      | (refine gb_big (f := 12) rfl rfl rfl rfl #[.pointer (some ⟨g, 0, none⟩), .int .i64 0, .int .i64 m.recs.length] rfl (OutT w0 own (comF m 0 m.recs.length).1 [.blk b2 4 #[.bool true], .blk b1 25 #[.pointer (some ⟨g, 0, none⟩)], .res F (LogP F g m)] (T ++ L)) (fun γ w => by go_simp) ?_ ?_
         · intro w' hC
           refine (Committed_any (hC.perm (List.perm_middle (l₁ := [_, _]))) ok hsl' 0 m.recs.length).mono ?_
           rintro e w'' ⟨A, c, vs, rfl, hv, hM2⟩
           have h3 : Mem w0 own w'' ([.blk b2 4 #[.bool true], .blk b1 25 #[.pointer (some ⟨g, 0, none⟩)], .res F (LogP F g m)] ++ (outX A c (comF m 0 m.recs.length).1 vs ++ (T ++ L))) := hM2.perm (by
             refine (List.Perm.append_left _ (List.perm_middle (l₁ := [_, _])).symm).trans ?_
             exact List.perm_append_comm_assoc _ [_, _, _] _)
           refine ⟨_, rfl, h3.sub ?_, A, c, vs, _, rfl, hv, h3⟩
           exact (List.Sublist.refl [_, _, _]).append (List.sublist_append_right _ _)
         simp only [setD, List.set_cons_succ, List.set_cons_zero])
      | (refine gb_moveP (.inl rfl) rfl rfl _ rfl ?_; simp only [setD, List.set_cons_succ, List.set_cons_zero])
      | (refine gb_moveP (.inr rfl) rfl rfl _ rfl ?_; simp only [setD, List.set_cons_succ, List.set_cons_zero])
      | (refine gb_ext (i := 0) rfl rfl rfl _ _ rfl outT_0 ?_; simp only [setD, List.set_cons_succ, List.set_cons_zero])
      | (refine gb_ext (i := 1) rfl rfl rfl _ (fun _ _ => True) rfl outT_1 ?_; simp only [setD, List.set_cons_succ, List.set_cons_zero]))
    refine gw_nil ?_
    intro γ w4 hC' hk'
    have h4 : OutS w0 own (comF m 0 m.recs.length).1 [.blk b2 4 #[.bool true], .blk b1 25 #[.pointer (some ⟨g, 0, none⟩)], .res F (LogP F g m)] (T ++ L) (γ 4) w4 := hk' 7 4 _ rfl rfl rfl
    simp only [slAct, slVals, Slot.get]
    clear hk' hC' hM
    have hout : (comF m 0 m.recs.length).1 = rs := (unhide HRS).symm
    rw [hout] at h4
    obtain ⟨A, c, vs, he, hv, hM⟩ := h4
    rw [he]
    clear he hout
    simp only [List.cons_append, List.nil_append] at hM
    gi_wp2_with (first | (refine wpListIn_of1 (fun _ e => by cases e) ?_; ((with_reducible refine wl_shape ?_); first | (apply wl_boxa; exact rfl; exact hM; exact rfl; exact rfl; clear hM; intro gg ww hM; simp only [putT, List.set_cons_succ, List.set_cons_zero]) | (apply wl_box1; exact rfl; exact hM; exact rfl; exact rfl; exact rfl; clear hM; intro gg ww hM; simp only [putT, List.set_cons_succ, List.set_cons_zero]) | (apply wl_alloc; exact rfl; exact hM; exact rfl; exact inferInstance; clear hM; intro gg ww hM; simp only [putT, List.set_cons_succ, List.set_cons_zero]) | (apply wl_ld; exact rfl; exact hM; exact rfl; exact rfl; exact inferInstance; exact inferInstance; simp only [putT, List.set_cons_succ, List.set_cons_zero]) | (apply wl_lda; exact rfl; exact hM; exact rfl; exact rfl; exact inferInstance; exact inferInstance; exact inferInstance; exact inferInstance; simp only [putT, List.set_cons_succ, List.set_cons_zero]) | (apply wl_ldr; exact rfl; exact hM; exact rfl; exact rfl; exact inferInstance; exact inferInstance; exact inferInstance; exact inferInstance; simp only [putT, List.set_cons_succ, List.set_cons_zero]) | (apply wl_st; exact rfl; exact hM; exact rfl; exact rfl; exact rfl; exact rfl; exact inferInstance; exact inferInstance; clear hM; intro ww hM; simp only [putT, List.set_cons_succ, List.set_cons_zero]) | (apply wl_sta; exact rfl; exact hM; exact rfl; exact rfl; exact rfl; exact all_oneCell_toArray One.out; exact inferInstance; exact inferInstance; exact inferInstance; clear hM; intro ww hM; simp only [putT, List.set_cons_succ, List.set_cons_zero]) | (apply wl_bs0; exact rfl; exact hM; exact rfl; exact inferInstance; clear hM; intro gg ww hM; simp only [putT, List.set_cons_succ, List.set_cons_zero]) | (apply wl_bs1a; exact rfl; exact hM; exact rfl; exact inferInstance; exact rfl; exact inferInstance; clear hM; intro gg ww hM; simp only [putT, List.set_cons_succ, List.set_cons_zero]) | (apply wl_bs11; exact rfl; exact hM; exact rfl; exact inferInstance; exact rfl; exact rfl; clear hM; intro gg ww hM; simp only [putT, List.set_cons_succ, List.set_cons_zero]) | (apply wl_conv; exact rfl; exact hM; exact rfl; exact rfl; exact inferInstance; exact inferInstance; simp only [putT, List.set_cons_succ, List.set_cons_zero])); refine wpListIn_end ?_))
    have hvl : vs.length = rs.length := hv
    have hM2 : Mem w0 own w4 (.row (.slice A rs.length c) 42 5 rs.length (recCells rs vs) :: .blk b2 4 #[.bool true] :: .blk b1 25 #[.pointer (some ⟨g, 0, none⟩)] :: .res F (LogP F g m) :: (VRows (rs.drop 0) (vs.drop 0) ++ (T ++ L))) := by
      simp only [List.drop_zero]
      exact hM.perm (List.perm_middle (l₁ := [_, _, _]))
    have HM := hide hM2
    clear hM
    gi_loopw [25] (fun v wr => ∃ (j : Nat) (T : List Item), v = .int .i64 j ∧ j ≤ rs.length ∧ TT j T ∧ Mem w0 own wr (.row (.slice A rs.length c) 42 5 rs.length (recCells rs vs) :: .blk b2 4 #[.bool true] :: .blk b1 25 #[.pointer (some ⟨g, 0, none⟩)] :: .res F (LogP F g m) :: (VRows (rs.drop j) (vs.drop j) ++ (T ++ L)))) (fun v _ => rs.length - (intOf v).toNat)
    case atStart => exact ⟨0, T, rfl, Nat.zero_le _, hT, hM2⟩
    case round =>
      clear hM2
      obtain ⟨j, T, rfl, hj, hTj, hM⟩ := hrel
      by_cases hlt : j < rs.length
      · obtain ⟨r, hr⟩ : ∃ r, rs[j]? = some r := ⟨_, List.getElem?_eq_getElem hlt⟩
        obtain ⟨v, hv1⟩ : ∃ v, vs[j]? = some v := ⟨_, List.getElem?_eq_getElem (by rw [hvl]; exact hlt)⟩
        have hd1 := drop_cons hr
        have hd2 : vs.drop j = v :: vs.drop (j + 1) := by
          obtain ⟨hj', rfl⟩ := List.getElem?_eq_some_iff.1 hv1
          exact List.drop_eq_getElem_cons hj'
        rw [hd1, hd2] at hM
        have hvr : VRows (r :: rs.drop (j + 1)) (v :: vs.drop (j + 1)) = .row v 5 1 r.v.length (r.v.map V8) :: VRows (rs.drop (j + 1)) (vs.drop (j + 1)) := rfl
        rw [hvr] at hM
        clear hd1 hd2 hvr
        have hrow : wr.ownsRow 0 5 1 v r.v.length (r.v.map V8) := hM.row 4 rfl
        obtain ⟨D, cq, rfl, _, _⟩ := row_form hrow
        clear hrow
        obtain ⟨b, off, rfl, -, -⟩ := rec_range (Reads.of_own (hM.row 0 rfl)) hvl rfl j hlt
        have hrr : rs[j] = r := (List.getElem?_eq_some_iff.1 hr).2
        have c1 : ∀ (L' : List Item) [HasRow L' (.slice (some ⟨b, off, none⟩) rs.length c) 42 5 rs.length (recCells rs vs)], Rng w0 own L' b (off + j * 5) (recVals r (.slice D r.v.length cq)) := fun L' h => ⟨fun w hM => by
          have h1 : w.ownsRow 0 42 5 (.slice (some ⟨b, off, none⟩) rs.length c) rs.length (recCells rs vs) := hM.has _ h.out
          obtain ⟨b', off', e2, _, h2⟩ := rec_range (Reads.of_own h1) hvl rfl j hlt
          injection e2 with e2
          injection e2 with e2 e3 _
          subst e2
          subst e3
          rw [hrr] at h2
          rw [List.getElem?_eq_getElem (by rw [hvl]; exact hlt)] at hv1
          injection hv1 with hv1
          rw [hv1] at h2
          exact h2⟩
        clear hrr hv1
        gi_wp2_with (first | (refine wpListIn_of1 (fun _ e => by cases e) ?_; ((with_reducible refine wl_shape ?_); first | (apply wl_boxa; exact rfl; exact hM; exact rfl; exact rfl; clear hM; intro gg ww hM; simp only [putT, List.set_cons_succ, List.set_cons_zero]) | (apply wl_box1; exact rfl; exact hM; exact rfl; exact rfl; exact rfl; clear hM; intro gg ww hM; simp only [putT, List.set_cons_succ, List.set_cons_zero]) | (apply wl_alloc; exact rfl; exact hM; exact rfl; exact inferInstance; clear hM; intro gg ww hM; simp only [putT, List.set_cons_succ, List.set_cons_zero]) | (apply wl_ld; exact rfl; exact hM; exact rfl; exact rfl; exact inferInstance; exact inferInstance; simp only [putT, List.set_cons_succ, List.set_cons_zero]) | (apply wl_lda; exact rfl; exact hM; exact rfl; exact rfl; exact inferInstance; exact inferInstance; exact inferInstance; exact inferInstance; simp only [putT, List.set_cons_succ, List.set_cons_zero]) | (apply wl_ldr; exact rfl; exact hM; exact rfl; exact rfl; exact inferInstance; exact inferInstance; exact inferInstance; exact inferInstance; simp only [putT, List.set_cons_succ, List.set_cons_zero]) | (apply wl_st; exact rfl; exact hM; exact rfl; exact rfl; exact rfl; exact rfl; exact inferInstance; exact inferInstance; clear hM; intro ww hM; simp only [putT, List.set_cons_succ, List.set_cons_zero]) | (apply wl_sta; exact rfl; exact hM; exact rfl; exact rfl; exact rfl; exact all_oneCell_toArray One.out; exact inferInstance; exact inferInstance; exact inferInstance; clear hM; intro ww hM; simp only [putT, List.set_cons_succ, List.set_cons_zero]) | (apply wl_bs0; exact rfl; exact hM; exact rfl; exact inferInstance; clear hM; intro gg ww hM; simp only [putT, List.set_cons_succ, List.set_cons_zero]) | (apply wl_bs1a; exact rfl; exact hM; exact rfl; exact inferInstance; exact rfl; exact inferInstance; clear hM; intro gg ww hM; simp only [putT, List.set_cons_succ, List.set_cons_zero]) | (apply wl_bs11; exact rfl; exact hM; exact rfl; exact inferInstance; exact rfl; exact rfl; clear hM; intro gg ww hM; simp only [putT, List.set_cons_succ, List.set_cons_zero]) | (apply wl_conv; exact rfl; exact hM; exact rfl; exact rfl; exact inferInstance; exact inferInstance; simp only [putT, List.set_cons_succ, List.set_cons_zero])); refine wpListIn_end ?_))
        obtain ⟨fn, tmps, asg, bd, hy, hR⟩ := hY j r T _ _ D cq hr hTj (hM.perm (perm_each _ _ _ _ _ _ _ _ _))
        have hy2 : (Instr.yield l #[.agg (recVals r (.slice D r.v.length cq)).toArray]).run Try.prog ww = .ok (.round l fn tmps asg bd) ww := hy
        rw [hy2, Oper.uponIn_round]
        refine ⟨fun e => (by cases e), hR.mono ?_⟩
        rintro e W' (⟨rfl, T', hT', hM'⟩ | ⟨rfl, T', hT', hM'⟩)
        · clear hM hy hy2 hR
          have hM := (hM'.sub ((List.Sublist.refl T').append (List.sublist_cons_self _ _))).perm (perm_back _ _ _ _ _ _ _)
          clear hM'
          gi_wp2_with (first | (refine wpListIn_of1 (fun _ e => by cases e) ?_; ((with_reducible refine wl_shape ?_); first | (apply wl_boxa; exact rfl; exact hM; exact rfl; exact rfl; clear hM; intro gg ww hM; simp only [putT, List.set_cons_succ, List.set_cons_zero]) | (apply wl_box1; exact rfl; exact hM; exact rfl; exact rfl; exact rfl; clear hM; intro gg ww hM; simp only [putT, List.set_cons_succ, List.set_cons_zero]) | (apply wl_alloc; exact rfl; exact hM; exact rfl; exact inferInstance; clear hM; intro gg ww hM; simp only [putT, List.set_cons_succ, List.set_cons_zero]) | (apply wl_ld; exact rfl; exact hM; exact rfl; exact rfl; exact inferInstance; exact inferInstance; simp only [putT, List.set_cons_succ, List.set_cons_zero]) | (apply wl_lda; exact rfl; exact hM; exact rfl; exact rfl; exact inferInstance; exact inferInstance; exact inferInstance; exact inferInstance; simp only [putT, List.set_cons_succ, List.set_cons_zero]) | (apply wl_ldr; exact rfl; exact hM; exact rfl; exact rfl; exact inferInstance; exact inferInstance; exact inferInstance; exact inferInstance; simp only [putT, List.set_cons_succ, List.set_cons_zero]) | (apply wl_st; exact rfl; exact hM; exact rfl; exact rfl; exact rfl; exact rfl; exact inferInstance; exact inferInstance; clear hM; intro ww hM; simp only [putT, List.set_cons_succ, List.set_cons_zero]) | (apply wl_sta; exact rfl; exact hM; exact rfl; exact rfl; exact rfl; exact all_oneCell_toArray One.out; exact inferInstance; exact inferInstance; exact inferInstance; clear hM; intro ww hM; simp only [putT, List.set_cons_succ, List.set_cons_zero]) | (apply wl_bs0; exact rfl; exact hM; exact rfl; exact inferInstance; clear hM; intro gg ww hM; simp only [putT, List.set_cons_succ, List.set_cons_zero]) | (apply wl_bs1a; exact rfl; exact hM; exact rfl; exact inferInstance; exact rfl; exact inferInstance; clear hM; intro gg ww hM; simp only [putT, List.set_cons_succ, List.set_cons_zero]) | (apply wl_bs11; exact rfl; exact hM; exact rfl; exact inferInstance; exact rfl; exact rfl; clear hM; intro gg ww hM; simp only [putT, List.set_cons_succ, List.set_cons_zero]) | (apply wl_conv; exact rfl; exact hM; exact rfl; exact rfl; exact inferInstance; exact inferInstance; simp only [putT, List.set_cons_succ, List.set_cons_zero])); refine wpListIn_end ?_))
          refine ⟨?_, ?measure⟩
          (repeat apply Exists.intro)
          refine ⟨?rel, rfl⟩
          case rel => exact ⟨j + 1, T', by go_num, by omega, hT', hM⟩
          case measure => simp [intOf]; omega
        · clear hM hy hy2 hR
          have hM := hM'.sub (List.Sublist.append (List.Sublist.refl T') (sub_each _ _ _ _ _ _ _))
          clear hM'
          gi_wp2_with (first | (refine wpListIn_of1 (fun _ e => by cases e) ?_; ((with_reducible refine wl_shape ?_); first | (apply wl_boxa; exact rfl; exact hM; exact rfl; exact rfl; clear hM; intro gg ww hM; simp only [putT, List.set_cons_succ, List.set_cons_zero]) | (apply wl_box1; exact rfl; exact hM; exact rfl; exact rfl; exact rfl; clear hM; intro gg ww hM; simp only [putT, List.set_cons_succ, List.set_cons_zero]) | (apply wl_alloc; exact rfl; exact hM; exact rfl; exact inferInstance; clear hM; intro gg ww hM; simp only [putT, List.set_cons_succ, List.set_cons_zero]) | (apply wl_ld; exact rfl; exact hM; exact rfl; exact rfl; exact inferInstance; exact inferInstance; simp only [putT, List.set_cons_succ, List.set_cons_zero]) | (apply wl_lda; exact rfl; exact hM; exact rfl; exact rfl; exact inferInstance; exact inferInstance; exact inferInstance; exact inferInstance; simp only [putT, List.set_cons_succ, List.set_cons_zero]) | (apply wl_ldr; exact rfl; exact hM; exact rfl; exact rfl; exact inferInstance; exact inferInstance; exact inferInstance; exact inferInstance; simp only [putT, List.set_cons_succ, List.set_cons_zero]) | (apply wl_st; exact rfl; exact hM; exact rfl; exact rfl; exact rfl; exact rfl; exact inferInstance; exact inferInstance; clear hM; intro ww hM; simp only [putT, List.set_cons_succ, List.set_cons_zero]) | (apply wl_sta; exact rfl; exact hM; exact rfl; exact rfl; exact rfl; exact all_oneCell_toArray One.out; exact inferInstance; exact inferInstance; exact inferInstance; clear hM; intro ww hM; simp only [putT, List.set_cons_succ, List.set_cons_zero]) | (apply wl_bs0; exact rfl; exact hM; exact rfl; exact inferInstance; clear hM; intro gg ww hM; simp only [putT, List.set_cons_succ, List.set_cons_zero]) | (apply wl_bs1a; exact rfl; exact hM; exact rfl; exact inferInstance; exact rfl; exact inferInstance; clear hM; intro gg ww hM; simp only [putT, List.set_cons_succ, List.set_cons_zero]) | (apply wl_bs11; exact rfl; exact hM; exact rfl; exact inferInstance; exact rfl; exact rfl; clear hM; intro gg ww hM; simp only [putT, List.set_cons_succ, List.set_cons_zero]) | (apply wl_conv; exact rfl; exact hM; exact rfl; exact rfl; exact inferInstance; exact inferInstance; simp only [putT, List.set_cons_succ, List.set_cons_zero])); refine wpListIn_end ?_))
          (try simp only [Exit.inBlock, Exit.then])
          refine bodyPost_ret (results_none rfl _ _ _) rfl ?_
          exact ⟨⟨_, rfl⟩, .inr ⟨j, T', hT', hM⟩⟩
      · have e : j = rs.length := by omega
        subst e
        gi_wp2_with (first | (refine wpListIn_of1 (fun _ e => by cases e) ?_; ((with_reducible refine wl_shape ?_); first | (apply wl_boxa; exact rfl; exact hM; exact rfl; exact rfl; clear hM; intro gg ww hM; simp only [putT, List.set_cons_succ, List.set_cons_zero]) | (apply wl_box1; exact rfl; exact hM; exact rfl; exact rfl; exact rfl; clear hM; intro gg ww hM; simp only [putT, List.set_cons_succ, List.set_cons_zero]) | (apply wl_alloc; exact rfl; exact hM; exact rfl; exact inferInstance; clear hM; intro gg ww hM; simp only [putT, List.set_cons_succ, List.set_cons_zero]) | (apply wl_ld; exact rfl; exact hM; exact rfl; exact rfl; exact inferInstance; exact inferInstance; simp only [putT, List.set_cons_succ, List.set_cons_zero]) | (apply wl_lda; exact rfl; exact hM; exact rfl; exact rfl; exact inferInstance; exact inferInstance; exact inferInstance; exact inferInstance; simp only [putT, List.set_cons_succ, List.set_cons_zero]) | (apply wl_ldr; exact rfl; exact hM; exact rfl; exact rfl; exact inferInstance; exact inferInstance; exact inferInstance; exact inferInstance; simp only [putT, List.set_cons_succ, List.set_cons_zero]) | (apply wl_st; exact rfl; exact hM; exact rfl; exact rfl; exact rfl; exact rfl; exact inferInstance; exact inferInstance; clear hM; intro ww hM; simp only [putT, List.set_cons_succ, List.set_cons_zero]) | (apply wl_sta; exact rfl; exact hM; exact rfl; exact rfl; exact rfl; exact all_oneCell_toArray One.out; exact inferInstance; exact inferInstance; exact inferInstance; clear hM; intro ww hM; simp only [putT, List.set_cons_succ, List.set_cons_zero]) | (apply wl_bs0; exact rfl; exact hM; exact rfl; exact inferInstance; clear hM; intro gg ww hM; simp only [putT, List.set_cons_succ, List.set_cons_zero]) | (apply wl_bs1a; exact rfl; exact hM; exact rfl; exact inferInstance; exact rfl; exact inferInstance; clear hM; intro gg ww hM; simp only [putT, List.set_cons_succ, List.set_cons_zero]) | (apply wl_bs11; exact rfl; exact hM; exact rfl; exact inferInstance; exact rfl; exact rfl; clear hM; intro gg ww hM; simp only [putT, List.set_cons_succ, List.set_cons_zero]) | (apply wl_conv; exact rfl; exact hM; exact rfl; exact rfl; exact inferInstance; exact inferInstance; simp only [putT, List.set_cons_succ, List.set_cons_zero])); refine wpListIn_end ?_))
        go_end0
        refine ⟨⟨_, rfl⟩, .inl ⟨T, hTj, ?_⟩⟩
        rw [List.drop_length] at hM
        exact hM.tail.perm (List.perm_append_comm_assoc [_, _, _] T L)
end Go.Proofs.Ytechglhkcjgodaa
