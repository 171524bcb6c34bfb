/- wire: a vote's body. -/
import Derived.Test.YtkcmnhmbpamehaaOct
import Derived.Lib.SliceRun
namespace Go.Proofs.Ytkcmnhmbpamehaa
open Go.RowKit Go.MapKept
set_option linter.unusedSimpArgs false
set_option linter.unusedVariables false
/-- A vote. -/
structure Vt where
  k : Int
  s : Int
  v : Int
  sum : List (BitVec 8)
  f : Int
  tag : List (BitVec 8)
  deriving DecidableEq
structure Vt.Ok (v : Vt) : Prop where
  sum : v.sum.length = 32
  tag : v.tag.length = 32
def vtc (v : Vt) : List Value := .int .i64 v.k :: .int .i64 v.s :: .int .i64 v.v :: (v.sum.map V8 ++ (.int .i64 v.f :: v.tag.map V8))
theorem vtc_35 {v : Vt} (h : v.Ok) : (vtc v)[35]? = some (.int .i64 v.f) := by
  have := h.sum
  unfold vtc
  simp only [List.getElem?_cons_succ]
  rw [List.getElem?_append_right (by simp; omega)]
  simp [this]
theorem vtc_len {v : Vt} (h : v.Ok) : (vtc v).length = 68 := by
  have := h.sum
  have := h.tag
  unfold vtc
  simp [*]
theorem vtc_sum {v : Vt} (h : v.Ok) : ((vtc v).drop 3).take 32 = v.sum.map V8 := by
  have := h.sum
  unfold vtc
  simp only [List.drop_succ_cons, List.drop_zero]
  rw [List.take_append_of_le_length (by simp; omega), List.take_of_length_le (by simp; omega)]
theorem vtc_tag {v : Vt} (h : v.Ok) : ((vtc v).drop 36).take 32 = v.tag.map V8 := by
  have := h.sum
  have := h.tag
  unfold vtc
  simp only [List.drop_succ_cons]
  rw [List.drop_append, List.drop_of_length_le (by simp; omega)]
  simp only [List.length_map, List.nil_append]
  rw [show 33 - v.sum.length = 1 from by omega, List.drop_succ_cons, List.drop_zero, List.take_of_length_le (by simp; omega)]
/-- What is sealed of a vote. -/
def voteB (v : Vt) : List (BitVec 8) := numsB [5, v.k, v.s, v.v] ++ v.sum ++ numsB [v.f]
theorem introw : Row3 Try.prog 3 (.int .i64 0) 1 8 := by unfold Row3; kernel_rfl
theorem vote_sum {w : World} {g : Nat} {T : TypeId} {v : Vt} (h : v.Ok) (hb : Blk w g T (vtc v).toArray) : Reads w w.heap.size 1 (some ⟨g, 3, none⟩) 32 (v.sum.map V8) := by
  have := hb.reads 3 32 (by simp [vtc_len h])
  rwa [vtc_sum h] at this
theorem vote_tag {w : World} {g : Nat} {T : TypeId} {v : Vt} (h : v.Ok) (hb : Blk w g T (vtc v).toArray) : Reads w w.heap.size 1 (some ⟨g, 36, none⟩) 32 (v.tag.map V8) := by
  have := hb.reads 36 32 (by simp [vtc_len h])
  rwa [vtc_tag h] at this
attribute [local irreducible] wpList Code.wp GW Calls
set_option maxRecDepth 100000 in
set_option maxHeartbeats 4000000 in
theorem Clone_any {w0 w : World} {own : Nat → Prop} {L : List Item} {n c : Nat} {A : Option Addr} {l : List (BitVec 8)} (hM : Mem w0 own w L) (hl : l.length = n) (hn : n ≤ 1000000000000) (HX : ∀ w', Mem w0 own w' L → Reads w' w'.heap.size 1 A n (l.map V8)) :
    Calls Try.prog 47 #[.slice A n c] w fun e w' => ∃ A' c', e = .returned (.slice A' n c') ∧ Mem w0 own w' (.row (.slice A' n c') 5 1 n (l.map V8) :: L) := by
  have HL := hide hl
  have hnil := fun (w : World) (a : Option Addr) (n c : Nat) => Lib.run_eql_slice_nil (P := Try.prog) w 22 5 a n c 0 0 Try.underlying22
  cases A with
  | none =>
    have h0 : n = 0 := by
      have := (HX w hM).2
      rcases Nat.eq_zero_or_pos n with h | h
      · exact h
      · obtain ⟨ad, e, _⟩ := this h
        cases e
    subst h0
    have e : l = [] := List.length_eq_zero_iff.1 (unhide HL)
    subst e
    go_enter Try.func47, Try.ntmps47
    go_wp2_with (first | ((with_reducible refine wl_shape ?_); first | (apply wl_boxa; exact rfl; exact hM; exact rfl; exact rfl; clear hM; intro gg ww hM; simp only [putT, List.set_cons_succ, List.set_cons_zero]) | (apply wl_box1; exact rfl; exact hM; exact rfl; exact rfl; exact rfl; clear hM; intro gg ww hM; simp only [putT, List.set_cons_succ, List.set_cons_zero]) | (apply wl_alloc; exact rfl; exact hM; exact rfl; exact inferInstance; clear hM; intro gg ww hM; simp only [putT, List.set_cons_succ, List.set_cons_zero]) | (apply wl_ld; exact rfl; exact hM; exact rfl; exact rfl; exact inferInstance; exact inferInstance; simp only [putT, List.set_cons_succ, List.set_cons_zero]) | (apply wl_lda; exact rfl; exact hM; exact rfl; exact rfl; exact inferInstance; exact inferInstance; exact inferInstance; exact inferInstance; simp only [putT, List.set_cons_succ, List.set_cons_zero]) | (apply wl_ldr; exact rfl; exact hM; exact rfl; exact rfl; exact inferInstance; exact inferInstance; exact inferInstance; exact inferInstance; simp only [putT, List.set_cons_succ, List.set_cons_zero]) | (apply wl_st; exact rfl; exact hM; exact rfl; exact rfl; exact rfl; exact rfl; exact inferInstance; exact inferInstance; clear hM; intro ww hM; simp only [putT, List.set_cons_succ, List.set_cons_zero]) | (apply wl_sta; exact rfl; exact hM; exact rfl; exact rfl; exact rfl; exact all_oneCell_toArray One.out; exact inferInstance; exact inferInstance; exact inferInstance; clear hM; intro ww hM; simp only [putT, List.set_cons_succ, List.set_cons_zero]) | (apply wl_bs0; exact rfl; exact hM; exact rfl; exact inferInstance; clear hM; intro gg ww hM; simp only [putT, List.set_cons_succ, List.set_cons_zero]) | (apply wl_bs1a; exact rfl; exact hM; exact rfl; exact inferInstance; exact rfl; exact inferInstance; clear hM; intro gg ww hM; simp only [putT, List.set_cons_succ, List.set_cons_zero]) | (apply wl_bs11; exact rfl; exact hM; exact rfl; exact inferInstance; exact rfl; exact rfl; clear hM; intro gg ww hM; simp only [putT, List.set_cons_succ, List.set_cons_zero]) | (apply wl_conv; exact rfl; exact hM; exact rfl; exact rfl; exact inferInstance; exact inferInstance; simp only [putT, List.set_cons_succ, List.set_cons_zero])))
    go_ret
    exact ⟨none, 0, rfl, hM.pushNil _ _⟩
  | some ad =>
    have hcel : ([] : List Value) ++ l.map V8 = l.map V8 := rfl
    have HC := hide hcel
    clear hcel
    go_enter Try.func47, Try.ntmps47
    go_wp2_with (first | ((with_reducible refine wl_shape ?_); first | (apply wl_boxa; exact rfl; exact hM; exact rfl; exact rfl; clear hM; intro gg ww hM; simp only [putT, List.set_cons_succ, List.set_cons_zero]) | (apply wl_box1; exact rfl; exact hM; exact rfl; exact rfl; exact rfl; clear hM; intro gg ww hM; simp only [putT, List.set_cons_succ, List.set_cons_zero]) | (apply wl_alloc; exact rfl; exact hM; exact rfl; exact inferInstance; clear hM; intro gg ww hM; simp only [putT, List.set_cons_succ, List.set_cons_zero]) | (apply wl_ld; exact rfl; exact hM; exact rfl; exact rfl; exact inferInstance; exact inferInstance; simp only [putT, List.set_cons_succ, List.set_cons_zero]) | (apply wl_lda; exact rfl; exact hM; exact rfl; exact rfl; exact inferInstance; exact inferInstance; exact inferInstance; exact inferInstance; simp only [putT, List.set_cons_succ, List.set_cons_zero]) | (apply wl_ldr; exact rfl; exact hM; exact rfl; exact rfl; exact inferInstance; exact inferInstance; exact inferInstance; exact inferInstance; simp only [putT, List.set_cons_succ, List.set_cons_zero]) | (apply wl_st; exact rfl; exact hM; exact rfl; exact rfl; exact rfl; exact rfl; exact inferInstance; exact inferInstance; clear hM; intro ww hM; simp only [putT, List.set_cons_succ, List.set_cons_zero]) | (apply wl_sta; exact rfl; exact hM; exact rfl; exact rfl; exact rfl; exact all_oneCell_toArray One.out; exact inferInstance; exact inferInstance; exact inferInstance; clear hM; intro ww hM; simp only [putT, List.set_cons_succ, List.set_cons_zero]) | (apply wl_bs0; exact rfl; exact hM; exact rfl; exact inferInstance; clear hM; intro gg ww hM; simp only [putT, List.set_cons_succ, List.set_cons_zero]) | (apply wl_bs1a; exact rfl; exact hM; exact rfl; exact inferInstance; exact rfl; exact inferInstance; clear hM; intro gg ww hM; simp only [putT, List.set_cons_succ, List.set_cons_zero]) | (apply wl_bs11; exact rfl; exact hM; exact rfl; exact inferInstance; exact rfl; exact rfl; clear hM; intro gg ww hM; simp only [putT, List.set_cons_succ, List.set_cons_zero]) | (apply wl_conv; exact rfl; exact hM; exact rfl; exact rfl; exact inferInstance; exact inferInstance; simp only [putT, List.set_cons_succ, List.set_cons_zero])) | (apply wl_appr; exact rfl; exact hM; exact rfl; exact inferInstance; exact rfl; exact rfl; exact ((HX _ hM.tail) : _); exact One.out; exact inferInstance; (unfold maxLen; omega); omega; exact Nat.zero_add n; exact unhide HC; clear hM; intro A4 c4 ww hM; simp only [List.set_cons_succ, List.set_cons_zero] at hM; simp only [putT, List.set_cons_succ, List.set_cons_zero]))
    go_ret
    exact ⟨A4, c4, rfl, hM⟩
theorem Out_any {w0 w : World} {own : Nat → Prop} {L : List Item} {g c : Nat} {A : Option Addr} {l : List (BitVec 8)}
    (hM : Mem w0 own w (.row (.slice A l.length c) 5 1 l.length (l.map V8) :: .blk g 116 #[.slice A l.length c] :: L)) (hn : l.length ≤ 1000000000000) :
    Calls Try.prog 86 #[.pointer (some ⟨g, 0, none⟩)] w fun e w' => ∃ A' c', e = .returned (.slice A' l.length c') ∧ Mem w0 own w' (.row (.slice A' l.length c') 5 1 l.length (l.map V8) :: L) := by
  go_enter Try.func86, Try.ntmps86
  go_wp2_with (first | ((with_reducible refine wl_shape ?_); first | (apply wl_boxa; exact rfl; exact hM; exact rfl; exact rfl; clear hM; intro gg ww hM; simp only [putT, List.set_cons_succ, List.set_cons_zero]) | (apply wl_box1; exact rfl; exact hM; exact rfl; exact rfl; exact rfl; clear hM; intro gg ww hM; simp only [putT, List.set_cons_succ, List.set_cons_zero]) | (apply wl_alloc; exact rfl; exact hM; exact rfl; exact inferInstance; clear hM; intro gg ww hM; simp only [putT, List.set_cons_succ, List.set_cons_zero]) | (apply wl_ld; exact rfl; exact hM; exact rfl; exact rfl; exact inferInstance; exact inferInstance; simp only [putT, List.set_cons_succ, List.set_cons_zero]) | (apply wl_lda; exact rfl; exact hM; exact rfl; exact rfl; exact inferInstance; exact inferInstance; exact inferInstance; exact inferInstance; simp only [putT, List.set_cons_succ, List.set_cons_zero]) | (apply wl_ldr; exact rfl; exact hM; exact rfl; exact rfl; exact inferInstance; exact inferInstance; exact inferInstance; exact inferInstance; simp only [putT, List.set_cons_succ, List.set_cons_zero]) | (apply wl_st; exact rfl; exact hM; exact rfl; exact rfl; exact rfl; exact rfl; exact inferInstance; exact inferInstance; clear hM; intro ww hM; simp only [putT, List.set_cons_succ, List.set_cons_zero]) | (apply wl_sta; exact rfl; exact hM; exact rfl; exact rfl; exact rfl; exact all_oneCell_toArray One.out; exact inferInstance; exact inferInstance; exact inferInstance; clear hM; intro ww hM; simp only [putT, List.set_cons_succ, List.set_cons_zero]) | (apply wl_bs0; exact rfl; exact hM; exact rfl; exact inferInstance; clear hM; intro gg ww hM; simp only [putT, List.set_cons_succ, List.set_cons_zero]) | (apply wl_bs1a; exact rfl; exact hM; exact rfl; exact inferInstance; exact rfl; exact inferInstance; clear hM; intro gg ww hM; simp only [putT, List.set_cons_succ, List.set_cons_zero]) | (apply wl_bs11; exact rfl; exact hM; exact rfl; exact inferInstance; exact rfl; exact rfl; clear hM; intro gg ww hM; simp only [putT, List.set_cons_succ, List.set_cons_zero]) | (apply wl_conv; exact rfl; exact hM; exact rfl; exact rfl; exact inferInstance; exact inferInstance; simp only [putT, List.set_cons_succ, List.set_cons_zero])) | (go_at_call 47; refine (Clone_any hM rfl hn (fun w' h => Reads.of_own (h.row 0 rfl))).mono ?_; rintro e1 w1 ⟨A', c', rfl, hM1⟩; clear hM; have hM := hM1; clear hM1))
  go_ret
  exact ⟨A', c', rfl, hM.sub (List.Sublist.cons_cons _ (List.Sublist.cons _ (List.Sublist.cons _ (List.Sublist.refl _))))⟩
set_option maxRecDepth 100000 in
set_option maxHeartbeats 4000000 in
theorem VoteBody_any {w0 w : World} {own : Nat → Prop} {L : List Item} {v : Vt} (hM : Mem w0 own w L) (hv : v.Ok) :
    Calls Try.prog 71 #[.agg (vtc v).toArray] w fun e w' => ∃ A c, e = .returned (.slice A (voteB v).length c) ∧ Mem w0 own w' (.row (.slice A (voteB v).length c) 5 1 (voteB v).length ((voteB v).map V8) :: L) := by
  have a0 : AtA (vtc v).toArray 0 (.int .i64 v.k) := ⟨rfl⟩
  have a1 : AtA (vtc v).toArray 1 (.int .i64 v.s) := ⟨rfl⟩
  have a2 : AtA (vtc v).toArray 2 (.int .i64 v.v) := ⟨rfl⟩
  have a3 : AtA (vtc v).toArray 35 (.int .i64 v.f) := ⟨by simpa using vtc_35 hv⟩
  have z1 : SzA (vtc v).toArray 68 := ⟨by simpa using vtc_len hv⟩
  obtain ⟨vb, hvb⟩ : ∃ vb, vb = voteB v := ⟨_, rfl⟩
  have hn1 : (numsB [5, v.k, v.s, v.v]).length ≤ 36 := numsB_len _
  have hn2 : (numsB [v.f]).length ≤ 9 := numsB_len _
  have hsm := hv.sum
  have hvl : vb.length ≤ 1000 := by rw [hvb]; unfold voteB; simp only [List.length_append]; omega
  have HVB : Hid (numsB [5, v.k, v.s, v.v] ++ v.sum ++ numsB [v.f] = vb) := hide hvb.symm
  have HSM := hide hsm
  have HN1 := hide hn1
  rw [← hvb]
  clear hvb hsm hn1 hn2
  go_enter Try.func71, Try.ntmps71
  go_wp2_with (first
    | ((with_reducible refine wl_shape ?_); first | (apply wl_boxa; exact rfl; exact hM; exact rfl; exact rfl; clear hM; intro gg ww hM; simp only [putT, List.set_cons_succ, List.set_cons_zero]) | (apply wl_box1; exact rfl; exact hM; exact rfl; exact rfl; exact rfl; clear hM; intro gg ww hM; simp only [putT, List.set_cons_succ, List.set_cons_zero]) | (apply wl_alloc; exact rfl; exact hM; exact rfl; exact inferInstance; clear hM; intro gg ww hM; simp only [putT, List.set_cons_succ, List.set_cons_zero]) | (apply wl_ld; exact rfl; exact hM; exact rfl; exact rfl; exact inferInstance; exact inferInstance; simp only [putT, List.set_cons_succ, List.set_cons_zero]) | (apply wl_lda; exact rfl; exact hM; exact rfl; exact rfl; exact inferInstance; exact inferInstance; exact inferInstance; exact inferInstance; simp only [putT, List.set_cons_succ, List.set_cons_zero]) | (apply wl_ldr; exact rfl; exact hM; exact rfl; exact rfl; exact inferInstance; exact inferInstance; exact inferInstance; exact inferInstance; simp only [putT, List.set_cons_succ, List.set_cons_zero]) | (apply wl_st; exact rfl; exact hM; exact rfl; exact rfl; exact rfl; exact rfl; exact inferInstance; exact inferInstance; clear hM; intro ww hM; simp only [putT, List.set_cons_succ, List.set_cons_zero]) | (apply wl_sta; exact rfl; exact hM; exact rfl; exact rfl; exact rfl; exact all_oneCell_toArray One.out; exact inferInstance; exact inferInstance; exact inferInstance; clear hM; intro ww hM; simp only [putT, List.set_cons_succ, List.set_cons_zero]) | (apply wl_bs0; exact rfl; exact hM; exact rfl; exact inferInstance; clear hM; intro gg ww hM; simp only [putT, List.set_cons_succ, List.set_cons_zero]) | (apply wl_bs1a; exact rfl; exact hM; exact rfl; exact inferInstance; exact rfl; exact inferInstance; clear hM; intro gg ww hM; simp only [putT, List.set_cons_succ, List.set_cons_zero]) | (apply wl_bs11; exact rfl; exact hM; exact rfl; exact inferInstance; exact rfl; exact rfl; clear hM; intro gg ww hM; simp only [putT, List.set_cons_succ, List.set_cons_zero]) | (apply wl_conv; exact rfl; exact hM; exact rfl; exact rfl; exact inferInstance; exact inferInstance; simp only [putT, List.set_cons_succ, List.set_cons_zero]))
    | (refine wpList_buildSlice_row rfl 83 4 _ rfl hM 3 Try.underlying83 _ 1 8 introw (by decide) (by decide) [.int .i64 5, .int .i64 v.k, .int .i64 v.s, .int .i64 v.v] (by kernel_rfl) rfl ?_; clear hM; intro gg ww hM; simp only [Act.put, List.setIfInBounds_toArray, List.set_cons_succ, List.set_cons_zero])
    | (go_at_call 84; refine (Nums_any (l := []) (xs := [5, v.k, v.s, v.v]) ((hM.pushNil 5 1).perm (List.Perm.cons _ (List.Perm.swap _ _ _))) rfl (fun w' h => Reads.of_own (h.row 0 rfl)) (by simp)).mono ?_; rintro e1 w1 ⟨⟨v1, rfl⟩, A1, c1, hM1⟩; simp only [List.nil_append] at hM1; clear hM; have hM := hM1; clear hM1; (try simp only [List.set_cons_succ, List.set_cons_zero] at hM))
    | (go_at_call 85; refine (Raw_any (p := v.sum) hM (unhide HSM) (vote_sum hv (hM.blk 3 rfl)) (by have := unhide HN1; omega)).mono ?_; rintro e1 w1 ⟨⟨v2, rfl⟩, A2, c2, hM1⟩; clear hM; have hM := hM1; clear hM1; (try simp only [List.set_cons_succ, List.set_cons_zero] at hM))
    | (go_at_call 84; refine (Nums_any (l := numsB [5, v.k, v.s, v.v] ++ v.sum) (xs := [v.f]) (hM.perm (List.perm_middle (l₁ := [_, _])).symm) rfl (fun w' h => Reads.of_own (h.row 0 rfl)) (by have := unhide HN1; have := unhide HSM; simp only [List.length_append, List.length_cons, List.length_nil]; omega)).mono ?_; rintro e1 w1 ⟨⟨v3, rfl⟩, A3, c3, hM1⟩; rw [unhide HVB] at hM1; clear hM; have hM := hM1; clear hM1; (try simp only [List.set_cons_succ, List.set_cons_zero] at hM))
    | (go_at_call 86; refine (Out_any (l := vb) hM (by omega)).mono ?_; rintro e1 w1 ⟨A4, c4, rfl, hM1⟩; clear hM; have hM := hM1; clear hM1; (try simp only [List.set_cons_succ, List.set_cons_zero] at hM)))
  go_ret
  exact ⟨A4, c4, rfl, hM.sub (List.Sublist.cons_cons _ (List.Sublist.cons _ (List.Sublist.cons _ (List.Sublist.cons _ (List.Sublist.refl _)))))⟩
end Go.Proofs.Ytkcmnhmbpamehaa
