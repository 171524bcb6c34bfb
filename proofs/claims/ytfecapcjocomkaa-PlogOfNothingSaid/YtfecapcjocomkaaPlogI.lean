/- plog: told, over any iterator that tells records from a place on. -/
import Derived.Test.YtfecapcjocomkaaPlogS
import Derived.Test.YtfecapcjocomkaaRange
namespace Go.Proofs.Ytfecapcjocomkaa
open Go.RowKit Go.MapKept
set_option linter.unusedSimpArgs false
set_option linter.unusedVariables false
attribute [local irreducible] wpList Code.wp GW Calls
attribute [local go_sem] Oper.semAt_some

/-- The bytes of the records' values, each in a row of its own. -/
def TR (rs : List Rec) (vs : List Value) (Vs : List Item) : Prop := ∀ (i : Nat) (r : Rec) (v : Value), rs[i]? = some r → vs[i]? = some v → Item.row v 5 1 r.v.length (r.v.map V8) ∈ Vs
/-- What told has when j records have come. -/
def tolds (x y : Item) (b3 b4 b5 b6 f : Nat) (rs : List Rec) (j : Nat) (T : List Item) : Prop := ∃ A c vs Vs, vs.length = j ∧ TR rs vs Vs ∧
  T = .row (.slice A j c) 35 5 j (recCells (rs.take j) vs) :: x :: y :: .blk b6 43 #[.slice A j c] :: .blk b5 4 #[.bool false] :: .blk b4 43 #[.slice none 0 0] :: .blk b3 3 #[.int .i64 f] :: Vs
/-- An iterator that tells the records rs, from f on. -/
def Iter (P : Program) (gf : Nat) (lb : Array Value) (f : Nat) (rs : List Rec) (w0 : World) (own : Nat → Prop) (L : List Item) : Prop :=
  ∀ (l : Nat) (TT : Nat → List Item → Prop) (W : World) (T : List Item), TT 0 T → Mem w0 own W (T ++ L) →
    (∀ (j k : Nat) (r : Rec) (T L' : List Item) (W : World) (D : Option Addr) (c : Nat), rs[j]? = some r → k = f + j → TT j T → Mem w0 own W (.row (.slice D r.v.length c) 5 1 r.v.length (r.v.map V8) :: (T ++ L')) →
      YieldAt Fence.wide 0 P l #[.int .i64 (k : Nat), .agg (recVals r (.slice D r.v.length c)).toArray] W fun e W' => e = .returned (.bool true) ∧ ∃ T', TT (j + 1) T' ∧ Mem w0 own W' (T' ++ L')) →
    Calls P gf (#[.func (.yield l) #[] #[]] ++ lb) W fun e W' => (∃ v, e = .returned v) ∧ ∃ T', TT rs.length T' ∧ Mem w0 own W' (T' ++ L)
theorem fold2 (p q : Nat) (v u : Value) (t : Array Value) : ((#[p, q] : Array Tmp).zip #[v, u]).foldl (fun t (x : Tmp × Value) => t.setIfInBounds x.1 x.2) t = (t.setIfInBounds p v).setIfInBounds q u := by simp

theorem tr_more {rs : List Rec} {vs : List Value} {Vs : List Item} {j : Nat} {r : Rec} {D : Option Addr} {c : Nat} (h : TR rs vs Vs) (hv : vs.length = j) (hr : rs[j]? = some r) :
    TR rs (vs ++ [.slice D r.v.length c]) (.row (.slice D r.v.length c) 5 1 r.v.length (r.v.map V8) :: Vs) := by
  intro i r' v hi hvi
  rw [List.getElem?_append] at hvi
  split at hvi
  · exact List.mem_cons_of_mem _ (h i r' v hi hvi)
  · have e : i = j := by
      have := (List.getElem?_eq_some_iff.1 hvi).1
      simp at this
      omega
    subst e
    rw [hr] at hi
    injection hi with hi
    subst hi
    subst hv
    simp at hvi
    subst hvi
    exact List.mem_cons_self ..
theorem take_more {rs : List Rec} {vs : List Value} {j : Nat} {r : Rec} {v : Value} (hv : vs.length = j) (hr : rs[j]? = some r) : recCells (rs.take (j + 1)) (vs ++ [v]) = recCells (rs.take j) vs ++ recVals r v := by
  obtain ⟨hj, rfl⟩ := List.getElem?_eq_some_iff.1 hr
  rw [List.take_succ_eq_append_getElem hj, recCells_append _ _ _ _ (by rw [List.length_take, hv]; omega)]
  simp [recCells]
theorem iter_use {P : Program} {gf : Nat} {lb : Array Value} {w0 W1 : World} {own : Nat → Prop} {L : List Item} {x y : Item} {b3 b4 b5 b6 f l : Nat} {rs : List Rec} (hI : Iter P gf lb f rs w0 own L)
    (hM : Mem w0 own W1 (x :: y :: .blk b6 43 #[.slice none 0 0] :: .blk b5 4 #[.bool false] :: .blk b4 43 #[.slice none 0 0] :: .blk b3 3 #[.int .i64 f] :: L)) {R : Ending → World → Prop}
    (hY : ∀ (j k : Nat) (r : Rec) (L' : List Item) (W : World) (D : Option Addr) (c : Nat) (A : Option Addr) (c0 : Nat) (vs : List Value), rs[j]? = some r → k = f + j → 
      Mem w0 own W (.row (.slice D r.v.length c) 5 1 r.v.length (r.v.map V8) :: .row (.slice A j c0) 35 5 j (recCells (rs.take j) vs) :: x :: y :: .blk b6 43 #[.slice A j c0] :: .blk b5 4 #[.bool false] :: .blk b4 43 #[.slice none 0 0] :: .blk b3 3 #[.int .i64 f] :: L') →
      YieldAt Fence.wide 0 P l #[.int .i64 (k : Nat), .agg (recVals r (.slice D r.v.length c)).toArray] W fun e W' => e = .returned (.bool true) ∧ ∃ A' c', Mem w0 own W' (.row (.slice D r.v.length c) 5 1 r.v.length (r.v.map V8) :: .row (.slice A' (j + 1) c') 35 5 (j + 1) (recCells (rs.take j) vs ++ recVals r (.slice D r.v.length c)) :: x :: y ::
        .blk b6 43 #[.slice A' (j + 1) c'] :: .blk b5 4 #[.bool false] :: .blk b4 43 #[.slice none 0 0] :: .blk b3 3 #[.int .i64 f] :: L'))
    (hR : ∀ v A c vs Vs W2, vs.length = rs.length → TR rs vs Vs → Mem w0 own W2 (.row (.slice A rs.length c) 35 5 rs.length (recCells rs vs) :: x :: y :: .blk b6 43 #[.slice A rs.length c] :: .blk b5 4 #[.bool false] :: .blk b4 43 #[.slice none 0 0] :: .blk b3 3 #[.int .i64 f] :: (Vs ++ L)) → R (.returned v) W2) :
    Calls P gf (#[.func (.yield l) #[] #[]] ++ lb) W1 R := by
  refine (hI l (tolds x y b3 b4 b5 b6 f rs) W1 _ ⟨none, 0, [], [], rfl, (fun i r v _ h => by simp at h), rfl⟩ (hM.pushNil _ 5) ?_).mono ?_
  · rintro j k r T L' W D c hr hk ⟨A, c0, vs, Vs, hv, hT, rfl⟩ hMW
    obtain ⟨fn, tmps, asg, bd, h1, h2⟩ := hY j k r (Vs ++ L') W D c A c0 vs hr hk hMW
    refine ⟨fn, tmps, asg, bd, h1, h2.mono ?_⟩
    rintro e W' ⟨rfl, A', c', hM'⟩
    refine ⟨rfl, _, ⟨A', c', vs ++ [.slice D r.v.length c], _, by simp [hv], tr_more hT hv hr, rfl⟩, ?_⟩
    rw [take_more hv hr]
    exact hM'.perm (List.perm_middle (l₁ := [_, _, _, _, _, _, _])).symm
  · rintro e W2 ⟨⟨v, rfl⟩, T, ⟨A, c, vs, Vs, hv, hT, rfl⟩, hM2⟩
    rw [List.take_length] at hM2
    exact hR v A c vs Vs W2 hv hT hM2

set_option maxRecDepth 100000 in
set_option maxHeartbeats 4000000 in
theorem told_any {w0 w : World} {own : Nat → Prop} {L : List Item} (hM : Mem w0 own w L) (gf : Nat) (lb : Array Value) (f : Nat) (rs : List Rec) (hf : f ≤ 1000000) (hrs : rs.length ≤ 128)
    (eg : ∀ args w, (callFunc gf args).run Try.prog w = .ok (.enter gf args) w) (hI : Iter Try.prog gf lb f rs w0 own L) :
    Calls Try.prog 26 #[.func (.func gf) #[] lb, .int .i64 f] w fun e w' => ∃ A c vs Vs, e = .returned (.tuple #[.slice A rs.length c, .bool true]) ∧ vs.length = rs.length ∧ TR rs vs Vs ∧
      Mem w0 own w' (.row (.slice A rs.length c) 35 5 rs.length (recCells rs vs) :: (Vs ++ L)) := by
  refine (callsIn_wide (n := 0)).1 ?_
  refine callsIn_of_wp_marks Try.func26 rfl trivial ?_
  simp only [Try.ntmps26, List.size_toArray, List.length_cons, List.length_nil, Nat.reduceAdd, Nat.reduceSub, Array.replicate_succ, Array.replicate_zero, List.push_toArray, List.append_toArray, List.nil_append, List.cons_append]
  have hnil := fun w => run_eql_func_nil (P := Try.prog) w (t := 61) (by kernel_rfl) (.func gf) #[] lb
  gi_wp2_with (first | (refine wpListIn_of1 (fun _ e => by cases e) ?_; ((with_reducible refine wl_shape ?_); first | (apply wl_boxa; exact rfl; exact hM; exact rfl; exact rfl; clear hM; intro gg ww hM; simp only [putT, List.set_cons_succ, List.set_cons_zero]) | (apply wl_box1; exact rfl; exact hM; exact rfl; exact rfl; exact rfl; clear hM; intro gg ww hM; simp only [putT, List.set_cons_succ, List.set_cons_zero]) | (apply wl_alloc; exact rfl; exact hM; exact rfl; exact inferInstance; clear hM; intro gg ww hM; simp only [putT, List.set_cons_succ, List.set_cons_zero]) | (apply wl_ld; exact rfl; exact hM; exact rfl; exact rfl; exact inferInstance; exact inferInstance; simp only [putT, List.set_cons_succ, List.set_cons_zero]) | (apply wl_lda; exact rfl; exact hM; exact rfl; exact rfl; exact inferInstance; exact inferInstance; exact inferInstance; exact inferInstance; simp only [putT, List.set_cons_succ, List.set_cons_zero]) | (apply wl_ldr; exact rfl; exact hM; exact rfl; exact rfl; exact inferInstance; exact inferInstance; exact inferInstance; exact inferInstance; simp only [putT, List.set_cons_succ, List.set_cons_zero]) | (apply wl_st; exact rfl; exact hM; exact rfl; exact rfl; exact rfl; exact rfl; exact inferInstance; exact inferInstance; clear hM; intro ww hM; simp only [putT, List.set_cons_succ, List.set_cons_zero]) | (apply wl_sta; exact rfl; exact hM; exact rfl; exact rfl; exact rfl; exact all_oneCell_toArray One.out; exact inferInstance; exact inferInstance; exact inferInstance; clear hM; intro ww hM; simp only [putT, List.set_cons_succ, List.set_cons_zero]) | (apply wl_bs0; exact rfl; exact hM; exact rfl; exact inferInstance; clear hM; intro gg ww hM; simp only [putT, List.set_cons_succ, List.set_cons_zero]) | (apply wl_bs1a; exact rfl; exact hM; exact rfl; exact inferInstance; exact rfl; exact inferInstance; clear hM; intro gg ww hM; simp only [putT, List.set_cons_succ, List.set_cons_zero]) | (apply wl_bs11; exact rfl; exact hM; exact rfl; exact inferInstance; exact rfl; exact rfl; clear hM; intro gg ww hM; simp only [putT, List.set_cons_succ, List.set_cons_zero]) | (apply wl_conv; exact rfl; exact hM; exact rfl; exact rfl; exact inferInstance; exact inferInstance; simp only [putT, List.set_cons_succ, List.set_cons_zero])); refine wpListIn_end ?_))
  refine wpIn_range (gf := gf) (lb := lb) rfl eg hM ?_
  intro fn l D W1 hM1
  clear hM
  refine iter_use hI hM1 ?_ ?_
  · clear hM1 hI hnil
    intro j k r L' W D' c A c0 vs hr hk hM
    have hj : j < rs.length := (List.getElem?_eq_some_iff.1 hr).1
    have hk' : (k : Int) = f + j := by omega
    clear hr hk
    refine yield_round hM 2 rfl rfl ?_
    simp only [fold2, List.setIfInBounds_toArray, List.set_cons_succ, List.set_cons_zero]
    gi_wp2_with (first | (refine wpListIn_of1 (fun _ e => by cases e) ?_; ((with_reducible refine wl_shape ?_); first | (apply wl_boxa; exact rfl; exact hM; exact rfl; exact rfl; clear hM; intro gg ww hM; simp only [putT, List.set_cons_succ, List.set_cons_zero]) | (apply wl_box1; exact rfl; exact hM; exact rfl; exact rfl; exact rfl; clear hM; intro gg ww hM; simp only [putT, List.set_cons_succ, List.set_cons_zero]) | (apply wl_alloc; exact rfl; exact hM; exact rfl; exact inferInstance; clear hM; intro gg ww hM; simp only [putT, List.set_cons_succ, List.set_cons_zero]) | (apply wl_ld; exact rfl; exact hM; exact rfl; exact rfl; exact inferInstance; exact inferInstance; simp only [putT, List.set_cons_succ, List.set_cons_zero]) | (apply wl_lda; exact rfl; exact hM; exact rfl; exact rfl; exact inferInstance; exact inferInstance; exact inferInstance; exact inferInstance; simp only [putT, List.set_cons_succ, List.set_cons_zero]) | (apply wl_ldr; exact rfl; exact hM; exact rfl; exact rfl; exact inferInstance; exact inferInstance; exact inferInstance; exact inferInstance; simp only [putT, List.set_cons_succ, List.set_cons_zero]) | (apply wl_st; exact rfl; exact hM; exact rfl; exact rfl; exact rfl; exact rfl; exact inferInstance; exact inferInstance; clear hM; intro ww hM; simp only [putT, List.set_cons_succ, List.set_cons_zero]) | (apply wl_sta; exact rfl; exact hM; exact rfl; exact rfl; exact rfl; exact all_oneCell_toArray One.out; exact inferInstance; exact inferInstance; exact inferInstance; clear hM; intro ww hM; simp only [putT, List.set_cons_succ, List.set_cons_zero]) | (apply wl_bs0; exact rfl; exact hM; exact rfl; exact inferInstance; clear hM; intro gg ww hM; simp only [putT, List.set_cons_succ, List.set_cons_zero]) | (apply wl_bs1a; exact rfl; exact hM; exact rfl; exact inferInstance; exact rfl; exact inferInstance; clear hM; intro gg ww hM; simp only [putT, List.set_cons_succ, List.set_cons_zero]) | (apply wl_bs11; exact rfl; exact hM; exact rfl; exact inferInstance; exact rfl; exact rfl; clear hM; intro gg ww hM; simp only [putT, List.set_cons_succ, List.set_cons_zero]) | (apply wl_conv; exact rfl; exact hM; exact rfl; exact rfl; exact inferInstance; exact inferInstance; simp only [putT, List.set_cons_succ, List.set_cons_zero])); refine wpListIn_end ?_))
    obtain ⟨wb, hb, hM2⟩ := begin_mem (P := Try.prog) hM 3 rfl
    refine ⟨wb, hb, ?_⟩
    clear hM hb
    have hM := hM2
    clear hM2
    simp only [List.set_cons_succ, List.set_cons_zero] at hM
    gi_wp2_with (first | (refine wpListIn_of1 (fun _ e => by cases e) ?_; ((with_reducible refine wl_shape ?_); first | (apply wl_boxa; exact rfl; exact hM; exact rfl; exact rfl; clear hM; intro gg ww hM; simp only [putT, List.set_cons_succ, List.set_cons_zero]) | (apply wl_box1; exact rfl; exact hM; exact rfl; exact rfl; exact rfl; clear hM; intro gg ww hM; simp only [putT, List.set_cons_succ, List.set_cons_zero]) | (apply wl_alloc; exact rfl; exact hM; exact rfl; exact inferInstance; clear hM; intro gg ww hM; simp only [putT, List.set_cons_succ, List.set_cons_zero]) | (apply wl_ld; exact rfl; exact hM; exact rfl; exact rfl; exact inferInstance; exact inferInstance; simp only [putT, List.set_cons_succ, List.set_cons_zero]) | (apply wl_lda; exact rfl; exact hM; exact rfl; exact rfl; exact inferInstance; exact inferInstance; exact inferInstance; exact inferInstance; simp only [putT, List.set_cons_succ, List.set_cons_zero]) | (apply wl_ldr; exact rfl; exact hM; exact rfl; exact rfl; exact inferInstance; exact inferInstance; exact inferInstance; exact inferInstance; simp only [putT, List.set_cons_succ, List.set_cons_zero]) | (apply wl_st; exact rfl; exact hM; exact rfl; exact rfl; exact rfl; exact rfl; exact inferInstance; exact inferInstance; clear hM; intro ww hM; simp only [putT, List.set_cons_succ, List.set_cons_zero]) | (apply wl_sta; exact rfl; exact hM; exact rfl; exact rfl; exact rfl; exact all_oneCell_toArray One.out; exact inferInstance; exact inferInstance; exact inferInstance; clear hM; intro ww hM; simp only [putT, List.set_cons_succ, List.set_cons_zero]) | (apply wl_bs0; exact rfl; exact hM; exact rfl; exact inferInstance; clear hM; intro gg ww hM; simp only [putT, List.set_cons_succ, List.set_cons_zero]) | (apply wl_bs1a; exact rfl; exact hM; exact rfl; exact inferInstance; exact rfl; exact inferInstance; clear hM; intro gg ww hM; simp only [putT, List.set_cons_succ, List.set_cons_zero]) | (apply wl_bs11; exact rfl; exact hM; exact rfl; exact inferInstance; exact rfl; exact rfl; clear hM; intro gg ww hM; simp only [putT, List.set_cons_succ, List.set_cons_zero]) | (apply wl_conv; exact rfl; exact hM; exact rfl; exact rfl; exact inferInstance; exact inferInstance; simp only [putT, List.set_cons_succ, List.set_cons_zero])); refine wpListIn_end ?_) | (refine wpListIn_of1 (fun _ e => by cases e) ?_; (apply wl_app; exact rfl; exact hM; exact rfl; exact inferInstance; exact rfl; exact rfl; exact inferInstance; exact One.out; exact inferInstance; (unfold maxLen; omega); omega; exact rfl; exact rfl; clear hM; intro A4 c4 ww hM; simp only [List.set_cons_succ, List.set_cons_zero] at hM; simp only [putT, List.set_cons_succ, List.set_cons_zero]); refine wpListIn_end ?_))
    obtain ⟨w3, he, hM3⟩ := end_mem (P := Try.prog) hM 4 rfl
    exact ⟨_, w3, he, rfl, A4, c4, hM3.tail.tail⟩
  · rintro v A c vs Vs W2 hv hT hM2
    refine ⟨⟨v, rfl⟩, _, hM2.perm (List.Perm.swap _ _ _), fun W3 hM3 => ?_⟩
    clear hM1 hI hnil hM2
    have hM := hM3
    clear hM3
    gi_wp2_with (first | (refine wpListIn_of1 (fun _ e => by cases e) ?_; ((with_reducible refine wl_shape ?_); first | (apply wl_boxa; exact rfl; exact hM; exact rfl; exact rfl; clear hM; intro gg ww hM; simp only [putT, List.set_cons_succ, List.set_cons_zero]) | (apply wl_box1; exact rfl; exact hM; exact rfl; exact rfl; exact rfl; clear hM; intro gg ww hM; simp only [putT, List.set_cons_succ, List.set_cons_zero]) | (apply wl_alloc; exact rfl; exact hM; exact rfl; exact inferInstance; clear hM; intro gg ww hM; simp only [putT, List.set_cons_succ, List.set_cons_zero]) | (apply wl_ld; exact rfl; exact hM; exact rfl; exact rfl; exact inferInstance; exact inferInstance; simp only [putT, List.set_cons_succ, List.set_cons_zero]) | (apply wl_lda; exact rfl; exact hM; exact rfl; exact rfl; exact inferInstance; exact inferInstance; exact inferInstance; exact inferInstance; simp only [putT, List.set_cons_succ, List.set_cons_zero]) | (apply wl_ldr; exact rfl; exact hM; exact rfl; exact rfl; exact inferInstance; exact inferInstance; exact inferInstance; exact inferInstance; simp only [putT, List.set_cons_succ, List.set_cons_zero]) | (apply wl_st; exact rfl; exact hM; exact rfl; exact rfl; exact rfl; exact rfl; exact inferInstance; exact inferInstance; clear hM; intro ww hM; simp only [putT, List.set_cons_succ, List.set_cons_zero]) | (apply wl_sta; exact rfl; exact hM; exact rfl; exact rfl; exact rfl; exact all_oneCell_toArray One.out; exact inferInstance; exact inferInstance; exact inferInstance; clear hM; intro ww hM; simp only [putT, List.set_cons_succ, List.set_cons_zero]) | (apply wl_bs0; exact rfl; exact hM; exact rfl; exact inferInstance; clear hM; intro gg ww hM; simp only [putT, List.set_cons_succ, List.set_cons_zero]) | (apply wl_bs1a; exact rfl; exact hM; exact rfl; exact inferInstance; exact rfl; exact inferInstance; clear hM; intro gg ww hM; simp only [putT, List.set_cons_succ, List.set_cons_zero]) | (apply wl_bs11; exact rfl; exact hM; exact rfl; exact inferInstance; exact rfl; exact rfl; clear hM; intro gg ww hM; simp only [putT, List.set_cons_succ, List.set_cons_zero]) | (apply wl_conv; exact rfl; exact hM; exact rfl; exact rfl; exact inferInstance; exact inferInstance; simp only [putT, List.set_cons_succ, List.set_cons_zero])); refine wpListIn_end ?_))
    refine leave_marked2 rfl rfl (hM.perm (List.Perm.swap _ _ _)) rfl rfl (fun w' hM' => ⟨A, c, vs, Vs, rfl, hv, hT, ?_⟩)
    have e : ∀ (x y1 y2 y3 y4 : Item) (L : List Item), (x :: L).Sublist (x :: y1 :: y2 :: y3 :: y4 :: L) := fun x y1 y2 y3 y4 L => ((List.sublist_cons_self ..).trans ((List.sublist_cons_self ..).trans ((List.sublist_cons_self ..).trans (List.sublist_cons_self ..)))).cons_cons x
    exact hM'.sub (e _ _ _ _ _ _)
end Go.Proofs.Ytfecapcjocomkaa
