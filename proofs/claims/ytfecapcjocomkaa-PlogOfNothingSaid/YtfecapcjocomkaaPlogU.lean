/- plog's laws: act. -/
import Derived.Test.YtfecapcjocomkaaPlogT
namespace Go.Proofs.Ytfecapcjocomkaa
open Go.RowKit Go.MapKept
set_option linter.unusedSimpArgs false
attribute [local irreducible] wpList Code.wp GW Calls

def PL.doing (m : PL) (a : Doing) : PL × Int := if a.k = 1 then m.learn a.r.p a.r.e else if a.k = 2 then ((m.append a.r).1, (m.append a.r).2.2) else m.endd a.r.p a.r.e a.r.t a.c
theorem ok_doing {m : PL} (h : m.Ok) (a : Doing) : (m.doing a).1.Ok := by
  unfold PL.doing
  split
  · exact ok_learn h _ _
  · split
    · exact ok_append h _
    · exact ok_endd h _ _ _ _
theorem spans_doing (m : PL) (a : Doing) : (m.doing a).1.spans.length ≤ m.spans.length + 1 := by
  unfold PL.doing
  split
  · rw [spans_learn]; omega
  · split
    · exact spans_append m _
    · exact spans_endd m _ _ _ _
instance (a : Doing) (v : Value) : AtA (doVals a v).toArray 0 (.int .i64 a.k) := ⟨rfl⟩
instance (a : Doing) (v : Value) : AtA (doVals a v).toArray 6 (.bool a.c) := ⟨rfl⟩
instance {w0 : World} {own : Nat → Prop} {L : List Item} {g : Nat} {t : TypeId} {a : Doing} {v : Value} [h : HasBlk L g t (doVals a v).toArray] : Rng w0 own L g 1 (recVals a.r v) :=
  ⟨fun w hM j u hj => by
    have hb : Blk w g t (doVals a v).toArray := hM.has _ h.out
    rw [hb.cell (1 + j), Nat.add_comm 1 j]
    have hj5 : j < (recVals a.r v).length := (List.getElem?_eq_some_iff.1 hj).1
    have e1 : (doVals a v).toArray[j + 1]? = (recVals a.r v ++ [.bool a.c])[j]? := by rw [List.getElem?_toArray]; rfl
    rw [e1, List.getElem?_append_left hj5]
    exact hj⟩
theorem arg_far {w0 w : World} {own : Nat → Prop} {L : List Item} (hM : Mem w0 own w L) (i : Nat) {x : Item} (hi : L[i]? = some x) {D : Option Addr} {k : Nat} {v : List (BitVec 8)} (hb : Bytes w0 w0.heap.size D k v) (hfar : 0 < k → ∀ ad, D = some ad → ¬ own ad.block) :
    0 < k → ∀ ad, D = some ad → ¬ x.foot ad.block := fun hk ad e hf => by
  obtain ⟨ad', e1, hlt, _⟩ := hb.2 hk
  rw [e] at e1
  injection e1 with e1
  subst e1
  rcases hM.own_ i hi hf with h | h
  · exact hfar hk ad e h
  · omega
set_option maxRecDepth 100000 in
set_option maxHeartbeats 4000000 in
theorem act_any (w0 w : World) (own : Nat → Prop) (L : List Item) (F F2 : Nat → Prop) (g g2 : Nat) (m : PL) (hM : Mem w0 own w (.res F (LogP F g m) :: .res F2 (RefP F2 g2 m) :: L)) (ok : m.Ok) (hsl : m.spans.length ≤ 1000) (a : Doing) (D : Option Addr) (k c : Nat) (hkc : k ≤ c) (hb : Bytes w0 w0.heap.size D k a.r.v) (hfar : 0 < k → ∀ ad, D = some ad → ¬ own ad.block) :
    Calls Try.prog 19 #[.pointer (some ⟨g, 0, none⟩), .pointer (some ⟨g2, 0, none⟩), .agg (doVals a (.slice D k c)).toArray] w fun x w' => x = .returned (.tuple #[.int .i64 (m.doing a).2, .bool true]) ∧
      ∃ F' F2', Mem w0 own w' (.res F' (LogP F' g (m.doing a).1) :: .res F2' (RefP F2' g2 (m.doing a).1) :: L) := by
  have hB := rdsB_far hb hfar
  have hsl' : m.spans.length ≤ 1000000 := by omega
  by_cases k1 : a.k = 1
  · have hd : m.doing a = m.learn a.r.p a.r.e := if_pos k1
    rw [hd]
    have K1 := hide k1
    clear hd k1
    go_enter Try.func19, Try.ntmps19
    go_wp2_with (first
      | ((with_reducible refine wl_shape ?_); first | (apply wl_boxa; exact rfl; exact hM; exact rfl; exact rfl; clear hM; intro gg ww hM; simp only [putT, List.set_cons_succ, List.set_cons_zero]) | (apply wl_box1; exact rfl; exact hM; exact rfl; exact rfl; exact rfl; clear hM; intro gg ww hM; simp only [putT, List.set_cons_succ, List.set_cons_zero]) | (apply wl_alloc; exact rfl; exact hM; exact rfl; exact inferInstance; clear hM; intro gg ww hM; simp only [putT, List.set_cons_succ, List.set_cons_zero]) | (apply wl_ld; exact rfl; exact hM; exact rfl; exact rfl; exact inferInstance; exact inferInstance; simp only [putT, List.set_cons_succ, List.set_cons_zero]) | (apply wl_lda; exact rfl; exact hM; exact rfl; exact rfl; exact inferInstance; exact inferInstance; exact inferInstance; exact inferInstance; simp only [putT, List.set_cons_succ, List.set_cons_zero]) | (apply wl_ldr; exact rfl; exact hM; exact rfl; exact rfl; exact inferInstance; exact inferInstance; exact inferInstance; exact inferInstance; simp only [putT, List.set_cons_succ, List.set_cons_zero]) | (apply wl_st; exact rfl; exact hM; exact rfl; exact rfl; exact rfl; exact rfl; exact inferInstance; exact inferInstance; clear hM; intro ww hM; simp only [putT, List.set_cons_succ, List.set_cons_zero]) | (apply wl_sta; exact rfl; exact hM; exact rfl; exact rfl; exact rfl; exact all_oneCell_toArray One.out; exact inferInstance; exact inferInstance; exact inferInstance; clear hM; intro ww hM; simp only [putT, List.set_cons_succ, List.set_cons_zero]) | (apply wl_bs0; exact rfl; exact hM; exact rfl; exact inferInstance; clear hM; intro gg ww hM; simp only [putT, List.set_cons_succ, List.set_cons_zero]) | (apply wl_bs1a; exact rfl; exact hM; exact rfl; exact inferInstance; exact rfl; exact inferInstance; clear hM; intro gg ww hM; simp only [putT, List.set_cons_succ, List.set_cons_zero]) | (apply wl_bs11; exact rfl; exact hM; exact rfl; exact inferInstance; exact rfl; exact rfl; clear hM; intro gg ww hM; simp only [putT, List.set_cons_succ, List.set_cons_zero]) | (apply wl_conv; exact rfl; exact hM; exact rfl; exact rfl; exact inferInstance; exact inferInstance; simp only [putT, List.set_cons_succ, List.set_cons_zero]))
      | (go_at_call 31; refine (LearnR_mem 3 hM rfl _ _).mono ?_; rintro e1 w1 ⟨rfl, F3, hM1⟩; clear hM; have hM := hM1; clear hM1; simp only [List.set_cons_succ, List.set_cons_zero] at hM)
      | (go_at_call 24; refine (Learn_mem 2 hM rfl ok _ _).mono ?_; rintro e1 w1 ⟨rfl, F4, hM1⟩; clear hM; have hM := hM1; clear hM1; simp only [List.set_cons_succ, List.set_cons_zero] at hM)
      | (rw [unhide K1]))
    go_ret2
    exact ⟨rfl, F4, F3, hM.tail.tail⟩
  · by_cases k2 : a.k = 2
    · have hd : m.doing a = ((m.append a.r).1, (m.append a.r).2.2) := by unfold PL.doing; rw [if_neg k1, if_pos k2]
      rw [hd]
      have K2 := hide k2
      clear hd k1 k2
      go_enter Try.func19, Try.ntmps19
      go_wp2_with (first
        | ((with_reducible refine wl_shape ?_); first | (apply wl_boxa; exact rfl; exact hM; exact rfl; exact rfl; clear hM; intro gg ww hM; simp only [putT, List.set_cons_succ, List.set_cons_zero]) | (apply wl_box1; exact rfl; exact hM; exact rfl; exact rfl; exact rfl; clear hM; intro gg ww hM; simp only [putT, List.set_cons_succ, List.set_cons_zero]) | (apply wl_alloc; exact rfl; exact hM; exact rfl; exact inferInstance; clear hM; intro gg ww hM; simp only [putT, List.set_cons_succ, List.set_cons_zero]) | (apply wl_ld; exact rfl; exact hM; exact rfl; exact rfl; exact inferInstance; exact inferInstance; simp only [putT, List.set_cons_succ, List.set_cons_zero]) | (apply wl_lda; exact rfl; exact hM; exact rfl; exact rfl; exact inferInstance; exact inferInstance; exact inferInstance; exact inferInstance; simp only [putT, List.set_cons_succ, List.set_cons_zero]) | (apply wl_ldr; exact rfl; exact hM; exact rfl; exact rfl; exact inferInstance; exact inferInstance; exact inferInstance; exact inferInstance; simp only [putT, List.set_cons_succ, List.set_cons_zero]) | (apply wl_st; exact rfl; exact hM; exact rfl; exact rfl; exact rfl; exact rfl; exact inferInstance; exact inferInstance; clear hM; intro ww hM; simp only [putT, List.set_cons_succ, List.set_cons_zero]) | (apply wl_sta; exact rfl; exact hM; exact rfl; exact rfl; exact rfl; exact all_oneCell_toArray One.out; exact inferInstance; exact inferInstance; exact inferInstance; clear hM; intro ww hM; simp only [putT, List.set_cons_succ, List.set_cons_zero]) | (apply wl_bs0; exact rfl; exact hM; exact rfl; exact inferInstance; clear hM; intro gg ww hM; simp only [putT, List.set_cons_succ, List.set_cons_zero]) | (apply wl_bs1a; exact rfl; exact hM; exact rfl; exact inferInstance; exact rfl; exact inferInstance; clear hM; intro gg ww hM; simp only [putT, List.set_cons_succ, List.set_cons_zero]) | (apply wl_bs11; exact rfl; exact hM; exact rfl; exact inferInstance; exact rfl; exact rfl; clear hM; intro gg ww hM; simp only [putT, List.set_cons_succ, List.set_cons_zero]) | (apply wl_conv; exact rfl; exact hM; exact rfl; exact rfl; exact inferInstance; exact inferInstance; simp only [putT, List.set_cons_succ, List.set_cons_zero]))
        | (go_at_call 32; refine (AppendR_mem 3 hM rfl ok hsl' a.r k c D (hB.out _ hM.grow) (arg_far hM 3 rfl hb hfar)).mono ?_; rintro e1 w1 ⟨rfl, F3, hM1⟩; clear hM; have hM := hM1; clear hM1; simp only [List.set_cons_succ, List.set_cons_zero] at hM)
        | (go_at_call 22; refine (Append_mem 2 hM rfl ok hsl' a.r k c D (hB.out _ hM.grow) hkc (arg_far hM 2 rfl hb hfar)).mono ?_; rintro e1 w1 ⟨rfl, F4, hM1⟩; clear hM; have hM := hM1; clear hM1; simp only [List.set_cons_succ, List.set_cons_zero] at hM)
        | (rw [unhide K2]))
      go_ret2
      exact ⟨rfl, F4, F3, hM.tail.tail⟩
    · have hd : m.doing a = m.endd a.r.p a.r.e a.r.t a.c := by unfold PL.doing; rw [if_neg k1, if_neg k2]
      rw [hd]
      clear hd
      go_enter Try.func19, Try.ntmps19
      go_wp2_with (first
        | ((with_reducible refine wl_shape ?_); first | (apply wl_boxa; exact rfl; exact hM; exact rfl; exact rfl; clear hM; intro gg ww hM; simp only [putT, List.set_cons_succ, List.set_cons_zero]) | (apply wl_box1; exact rfl; exact hM; exact rfl; exact rfl; exact rfl; clear hM; intro gg ww hM; simp only [putT, List.set_cons_succ, List.set_cons_zero]) | (apply wl_alloc; exact rfl; exact hM; exact rfl; exact inferInstance; clear hM; intro gg ww hM; simp only [putT, List.set_cons_succ, List.set_cons_zero]) | (apply wl_ld; exact rfl; exact hM; exact rfl; exact rfl; exact inferInstance; exact inferInstance; simp only [putT, List.set_cons_succ, List.set_cons_zero]) | (apply wl_lda; exact rfl; exact hM; exact rfl; exact rfl; exact inferInstance; exact inferInstance; exact inferInstance; exact inferInstance; simp only [putT, List.set_cons_succ, List.set_cons_zero]) | (apply wl_ldr; exact rfl; exact hM; exact rfl; exact rfl; exact inferInstance; exact inferInstance; exact inferInstance; exact inferInstance; simp only [putT, List.set_cons_succ, List.set_cons_zero]) | (apply wl_st; exact rfl; exact hM; exact rfl; exact rfl; exact rfl; exact rfl; exact inferInstance; exact inferInstance; clear hM; intro ww hM; simp only [putT, List.set_cons_succ, List.set_cons_zero]) | (apply wl_sta; exact rfl; exact hM; exact rfl; exact rfl; exact rfl; exact all_oneCell_toArray One.out; exact inferInstance; exact inferInstance; exact inferInstance; clear hM; intro ww hM; simp only [putT, List.set_cons_succ, List.set_cons_zero]) | (apply wl_bs0; exact rfl; exact hM; exact rfl; exact inferInstance; clear hM; intro gg ww hM; simp only [putT, List.set_cons_succ, List.set_cons_zero]) | (apply wl_bs1a; exact rfl; exact hM; exact rfl; exact inferInstance; exact rfl; exact inferInstance; clear hM; intro gg ww hM; simp only [putT, List.set_cons_succ, List.set_cons_zero]) | (apply wl_bs11; exact rfl; exact hM; exact rfl; exact inferInstance; exact rfl; exact rfl; clear hM; intro gg ww hM; simp only [putT, List.set_cons_succ, List.set_cons_zero]) | (apply wl_conv; exact rfl; exact hM; exact rfl; exact rfl; exact inferInstance; exact inferInstance; simp only [putT, List.set_cons_succ, List.set_cons_zero]))
        | (go_at_call 33; refine (EndR_mem 3 hM rfl hsl' _ _ _ _).mono ?_; rintro e1 w1 ⟨rfl, F3, hM1⟩; clear hM; have hM := hM1; clear hM1; simp only [List.set_cons_succ, List.set_cons_zero] at hM)
        | (go_at_call 21; refine (End_mem 2 hM rfl hsl' _ _ _ _).mono ?_; rintro e1 w1 ⟨rfl, F4, hM1⟩; clear hM; have hM := hM1; clear hM1; simp only [List.set_cons_succ, List.set_cons_zero] at hM))
      go_ret2
      exact ⟨rfl, F4, F3, hM.tail.tail⟩
end Go.Proofs.Ytfecapcjocomkaa
