/- hold: a table's keys; the example that every law runs. -/
import Derived.Test.YtnmnknjgibkkaaaHold1
import Derived.Test.YtnmnknjgibkkaaaKeyI
namespace Go.Proofs.Ytnmnknjgibkkaaa
open Go.RowKit Go.MapKept
set_option linter.unusedSimpArgs false
set_option linter.unusedVariables false
/-- A row's cell at its start's block. -/
theorem row_cell {w0 : World} {own : Nat → Prop} {L : List Item} {g j n c m : Nat} {e : TypeId} {xs : List Value} {v : Value} [h : HasRow L (.slice (some ⟨g, 0, none⟩) n c) e 1 m xs] [h2 : AtL xs j v] : Cell w0 own L ⟨g, j, none⟩ v := ⟨fun w hM => by
  have hrow : w.ownsRow 0 e 1 (.slice (some ⟨g, 0, none⟩) n c) m xs := hM.has _ h.out
  have hl := hrow.1
  have hj : j < xs.length := (List.getElem?_eq_some_iff.1 h2.out).1
  rcases hrow.2 with ⟨e1, _⟩ | ⟨g', cap, cur, e1, _, hg, _, _, h3, h4⟩
  · cases e1
  · injection e1 with e2 e3 e4
    injection e2 with e2
    injection e2 with e2
    subst e2
    have hblk : Blk w g e cur := hg
    rw [hblk.cell]
    have h5 := h2.out
    rw [← h4, List.getElem?_take, if_pos (by omega)] at h5
    simpa using h5⟩
attribute [local irreducible] wpList Code.wp GW Calls
set_option maxRecDepth 100000 in
theorem MapsKeys_any {w0 w : World} {own : Nat → Prop} {L : List Item} (hM : Mem w0 own w L) (m : Option Nat) :
    Calls Try.prog 30 #[.map m] w fun e w' => ∃ b, e = .returned (.func (.func 39) #[] #[.pointer (some ⟨b, 0, none⟩)]) ∧ Mem w0 own w' (.blk b 36 #[.map m] :: L) := by
  go_enter Try.func30, Try.ntmps30
  go_wp2_with (first | ((with_reducible refine wl_shape ?_); first | (apply wl_boxa; exact rfl; exact hM; exact rfl; exact rfl; clear hM; intro gg ww hM; simp only [putT, List.set_cons_succ, List.set_cons_zero]) | (apply wl_box1; exact rfl; exact hM; exact rfl; exact rfl; exact rfl; clear hM; intro gg ww hM; simp only [putT, List.set_cons_succ, List.set_cons_zero]) | (apply wl_alloc; exact rfl; exact hM; exact rfl; exact inferInstance; clear hM; intro gg ww hM; simp only [putT, List.set_cons_succ, List.set_cons_zero]) | (apply wl_ld; exact rfl; exact hM; exact rfl; exact rfl; exact inferInstance; exact inferInstance; simp only [putT, List.set_cons_succ, List.set_cons_zero]) | (apply wl_lda; exact rfl; exact hM; exact rfl; exact rfl; exact inferInstance; exact inferInstance; exact inferInstance; exact inferInstance; simp only [putT, List.set_cons_succ, List.set_cons_zero]) | (apply wl_ldr; exact rfl; exact hM; exact rfl; exact rfl; exact inferInstance; exact inferInstance; exact inferInstance; exact inferInstance; simp only [putT, List.set_cons_succ, List.set_cons_zero]) | (apply wl_st; exact rfl; exact hM; exact rfl; exact rfl; exact rfl; exact rfl; exact inferInstance; exact inferInstance; clear hM; intro ww hM; simp only [putT, List.set_cons_succ, List.set_cons_zero]) | (apply wl_sta; exact rfl; exact hM; exact rfl; exact rfl; exact rfl; exact all_oneCell_toArray One.out; exact inferInstance; exact inferInstance; exact inferInstance; clear hM; intro ww hM; simp only [putT, List.set_cons_succ, List.set_cons_zero]) | (apply wl_bs0; exact rfl; exact hM; exact rfl; exact inferInstance; clear hM; intro gg ww hM; simp only [putT, List.set_cons_succ, List.set_cons_zero]) | (apply wl_bs1a; exact rfl; exact hM; exact rfl; exact inferInstance; exact rfl; exact inferInstance; clear hM; intro gg ww hM; simp only [putT, List.set_cons_succ, List.set_cons_zero]) | (apply wl_bs11; exact rfl; exact hM; exact rfl; exact inferInstance; exact rfl; exact rfl; clear hM; intro gg ww hM; simp only [putT, List.set_cons_succ, List.set_cons_zero]) | (apply wl_conv; exact rfl; exact hM; exact rfl; exact rfl; exact inferInstance; exact inferInstance; simp only [putT, List.set_cons_succ, List.set_cons_zero])))
  go_ret
  exact ⟨gg, rfl, hM⟩
set_option maxRecDepth 100000 in
theorem Keys_int {w0 w : World} {own : Nat → Prop} {L : List Item} (hM : Mem w0 own w L) {b g : Nat} {tb : List (Int × Value)} (hb : HasBlk L b 67 #[.map (some g)]) (ht : HasTab L g tb) (hr : Rise tb) (hk : In64 tb) (hl : tb.length ≤ 1000000) :
    Calls Try.prog 18 #[.pointer (some ⟨b, 0, none⟩)] w fun e w' => ∃ A c, e = .returned (.slice A tb.length c) ∧ Mem w0 own w' (.row (.slice A tb.length c) 3 1 tb.length ((tb.map (·.1)).map (Value.int .i64)) :: L) := by
  go_enter Try.func18, Try.ntmps18
  go_wp2_with (first
    | ((with_reducible refine wl_shape ?_); first | (apply wl_boxa; exact rfl; exact hM; exact rfl; exact rfl; clear hM; intro gg ww hM; simp only [putT, List.set_cons_succ, List.set_cons_zero]) | (apply wl_box1; exact rfl; exact hM; exact rfl; exact rfl; exact rfl; clear hM; intro gg ww hM; simp only [putT, List.set_cons_succ, List.set_cons_zero]) | (apply wl_alloc; exact rfl; exact hM; exact rfl; exact inferInstance; clear hM; intro gg ww hM; simp only [putT, List.set_cons_succ, List.set_cons_zero]) | (apply wl_ld; exact rfl; exact hM; exact rfl; exact rfl; exact inferInstance; exact inferInstance; simp only [putT, List.set_cons_succ, List.set_cons_zero]) | (apply wl_lda; exact rfl; exact hM; exact rfl; exact rfl; exact inferInstance; exact inferInstance; exact inferInstance; exact inferInstance; simp only [putT, List.set_cons_succ, List.set_cons_zero]) | (apply wl_ldr; exact rfl; exact hM; exact rfl; exact rfl; exact inferInstance; exact inferInstance; exact inferInstance; exact inferInstance; simp only [putT, List.set_cons_succ, List.set_cons_zero]) | (apply wl_st; exact rfl; exact hM; exact rfl; exact rfl; exact rfl; exact rfl; exact inferInstance; exact inferInstance; clear hM; intro ww hM; simp only [putT, List.set_cons_succ, List.set_cons_zero]) | (apply wl_sta; exact rfl; exact hM; exact rfl; exact rfl; exact rfl; exact all_oneCell_toArray One.out; exact inferInstance; exact inferInstance; exact inferInstance; clear hM; intro ww hM; simp only [putT, List.set_cons_succ, List.set_cons_zero]) | (apply wl_bs0; exact rfl; exact hM; exact rfl; exact inferInstance; clear hM; intro gg ww hM; simp only [putT, List.set_cons_succ, List.set_cons_zero]) | (apply wl_bs1a; exact rfl; exact hM; exact rfl; exact inferInstance; exact rfl; exact inferInstance; clear hM; intro gg ww hM; simp only [putT, List.set_cons_succ, List.set_cons_zero]) | (apply wl_bs11; exact rfl; exact hM; exact rfl; exact inferInstance; exact rfl; exact rfl; clear hM; intro gg ww hM; simp only [putT, List.set_cons_succ, List.set_cons_zero]) | (apply wl_conv; exact rfl; exact hM; exact rfl; exact rfl; exact inferInstance; exact inferInstance; simp only [putT, List.set_cons_succ, List.set_cons_zero]))
    | (go_at_call 30; refine (MapsKeys_any hM (some g)).mono ?_; rintro e1 w1 ⟨b1, rfl, hM1⟩; clear hM; have hM := hM1; clear hM1)
    | (go_at_call 29; refine (sorted_mem hM (b := b1) (g := g) inferInstance inferInstance hr hk hl).mono ?_; rintro e1 w1 ⟨A1, c1, rfl, hM1⟩; clear hM; have hM := hM1; clear hM1))
  go_ret
  exact ⟨A1, c1, rfl, hM.sub (List.Sublist.cons_cons _ (List.Sublist.cons _ (List.Sublist.refl _)))⟩
theorem known_tb : tset 2 (Value.int .i64 7) (tset 5 (Value.int .i64 1) []) = [(2, Value.int .i64 7), (5, .int .i64 1)] := rfl
set_option maxRecDepth 100000 in
set_option maxHeartbeats 4000000 in
theorem known3_any (w : World) : Calls Try.prog 14 #[] w fun e w' => e = .returned (.bool true) ∧ Grow w noOwn w' := by
  have hM := Mem.nil w noOwn
  have tok : True := trivial
  have HR := hide (show Rise [((2 : Int), Value.int .i64 7), (5, .int .i64 1)] by simp [Rise])
  have HI := hide (show In64 [((2 : Int), Value.int .i64 7), (5, .int .i64 1)] by intro p hp; simp at hp; rcases hp with rfl | rfl <;> simp)
  go_enter Try.func14, Try.ntmps14
  go_wp2_with (first
    | ((with_reducible refine wl_shape ?_); first | (apply wl_boxa; exact rfl; exact hM; exact rfl; exact rfl; clear hM; intro gg ww hM; simp only [putT, List.set_cons_succ, List.set_cons_zero]) | (apply wl_box1; exact rfl; exact hM; exact rfl; exact rfl; exact rfl; clear hM; intro gg ww hM; simp only [putT, List.set_cons_succ, List.set_cons_zero]) | (apply wl_alloc; exact rfl; exact hM; exact rfl; exact inferInstance; clear hM; intro gg ww hM; simp only [putT, List.set_cons_succ, List.set_cons_zero]) | (apply wl_ld; exact rfl; exact hM; exact rfl; exact rfl; exact inferInstance; exact inferInstance; simp only [putT, List.set_cons_succ, List.set_cons_zero]) | (apply wl_lda; exact rfl; exact hM; exact rfl; exact rfl; exact inferInstance; exact inferInstance; exact inferInstance; exact inferInstance; simp only [putT, List.set_cons_succ, List.set_cons_zero]) | (apply wl_ldr; exact rfl; exact hM; exact rfl; exact rfl; exact inferInstance; exact inferInstance; exact inferInstance; exact inferInstance; simp only [putT, List.set_cons_succ, List.set_cons_zero]) | (apply wl_st; exact rfl; exact hM; exact rfl; exact rfl; exact rfl; exact rfl; exact inferInstance; exact inferInstance; clear hM; intro ww hM; simp only [putT, List.set_cons_succ, List.set_cons_zero]) | (apply wl_sta; exact rfl; exact hM; exact rfl; exact rfl; exact rfl; exact all_oneCell_toArray One.out; exact inferInstance; exact inferInstance; exact inferInstance; clear hM; intro ww hM; simp only [putT, List.set_cons_succ, List.set_cons_zero]) | (apply wl_bs0; exact rfl; exact hM; exact rfl; exact inferInstance; clear hM; intro gg ww hM; simp only [putT, List.set_cons_succ, List.set_cons_zero]) | (apply wl_bs1a; exact rfl; exact hM; exact rfl; exact inferInstance; exact rfl; exact inferInstance; clear hM; intro gg ww hM; simp only [putT, List.set_cons_succ, List.set_cons_zero]) | (apply wl_bs11; exact rfl; exact hM; exact rfl; exact inferInstance; exact rfl; exact rfl; clear hM; intro gg ww hM; simp only [putT, List.set_cons_succ, List.set_cons_zero]) | (apply wl_conv; exact rfl; exact hM; exact rfl; exact rfl; exact inferInstance; exact inferInstance; simp only [putT, List.set_cons_succ, List.set_cons_zero]))
    | (go_at_call 15; refine (New_int hM).mono ?_; rintro e1 w1 ⟨b, g, rfl, hM1⟩; clear hM; have hM := hM1; clear hM1; (try simp only [List.cons_append, List.nil_append, List.set_cons_succ, List.set_cons_zero] at hM))
    | (have _t := tok; go_at_call 17; refine (Set_int hM 5 (.int .i64 1) (b := b) (g := g) inferInstance inferInstance).mono ?_; clear tok; rintro e1 w1 ⟨⟨r1, rfl⟩, hM1⟩; clear hM; have hM := hM1; clear hM1; (try simp only [List.cons_append, List.nil_append, List.set_cons_succ, List.set_cons_zero] at hM))
    | (go_at_call 17; refine (Set_int hM 2 (.int .i64 7) (b := b) (g := g) inferInstance inferInstance).mono ?_; rintro e1 w1 ⟨⟨r2, rfl⟩, hM1⟩; clear hM; have hM := hM1; clear hM1; (try simp only [List.cons_append, List.nil_append, List.set_cons_succ, List.set_cons_zero] at hM); rw [known_tb] at hM)
    | (go_at_call 18; refine (Keys_int hM (b := b) (g := g) inferInstance inferInstance (unhide HR) (unhide HI) (by simp)).mono ?_; rintro e1 w1 ⟨A1, cq, rfl, hM1⟩; clear hM; have hM := hM1; clear hM1; (try simp only [List.cons_append, List.nil_append, List.set_cons_succ, List.set_cons_zero] at hM); simp only [List.length_cons, List.length_nil, Nat.zero_add, Nat.reduceAdd, List.map_cons, List.map_nil] at hM ⊢; obtain ⟨ga, rfl, -⟩ := row_some (hM.row 0 rfl) (by decide); have cq1 : ∀ (w0 : World) (L' : List Item) [HasRow L' (.slice (some ⟨ga, 0, none⟩) 2 cq) 3 1 2 [.int .i64 2, .int .i64 5]], Cell w0 noOwn L' ⟨ga, 0, none⟩ (.int .i64 2) := fun w0 L' _ => row_cell (n := 2) (c := cq) (m := 2) (e := 3) (xs := [.int .i64 2, .int .i64 5]); have cq2 : ∀ (w0 : World) (L' : List Item) [HasRow L' (.slice (some ⟨ga, 0, none⟩) 2 cq) 3 1 2 [.int .i64 2, .int .i64 5]], Cell w0 noOwn L' ⟨ga, 1, none⟩ (.int .i64 5) := fun w0 L' _ => row_cell (n := 2) (c := cq) (m := 2) (e := 3) (xs := [.int .i64 2, .int .i64 5])))
  go_ret
  exact ⟨rfl, hM.grow⟩
end Go.Proofs.Ytnmnknjgibkkaaa
