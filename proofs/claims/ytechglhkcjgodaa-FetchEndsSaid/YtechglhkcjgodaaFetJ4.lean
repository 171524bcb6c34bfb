/- fetch's laws: scripts as they come in; long. fetch's laws: laid. -/
import Derived.Test.YtechglhkcjgodaaPlogS
import Derived.Test.YtechglhkcjgodaaReadX
namespace Go.Proofs.Ytechglhkcjgodaa
section
open Go.RowKit Go.MapKept
set_option linter.unusedSimpArgs false
set_option linter.unusedVariables false
attribute [local irreducible] wpList Code.wp GW Calls

/-- One act of a script. -/
structure Doing where
  k : Int
  r : Rec
  c : Bool
def doVals (a : Doing) (v : Value) : List Value := [.int .i64 a.k, .int .i64 a.r.p, .int .i64 a.r.e, .int .i64 a.r.t, .int .i64 a.r.s, v, .bool a.c]
instance (a : Doing) (v : Value) : SzL (doVals a v) 7 := ⟨rfl⟩
/-- A script, as it is read. -/
structure DoR (w : World) (A : Option Addr) (n : Nat) (l : List Doing) (vs : List Value) : Prop where
  len : l.length = n
  vl : vs.length = l.length
  at_ : ∀ i (h : i < l.length), ∃ b off, A = some ⟨b, off, none⟩ ∧ b < w.heap.size ∧ w.rangeAt b (off + i * 7) (doVals l[i] (vs[i]'(by rw [vl]; exact h)))
  vals : ∀ i (h : i < l.length), ∃ D k c, vs[i]'(by rw [vl]; exact h) = .slice D k c ∧ k ≤ c ∧ k ≤ 140737488351232 ∧ Bytes w w.heap.size D k l[i].r.v
set_option maxRecDepth 100000 in
theorem rdw_doing {w : World} {B n : Nat} {cs : List Value} (h : Rdw Try.prog w B n 66 cs) (hB : B ≤ 140737488351232) : ∃ (a : Doing) (D : Option Addr) (k c : Nat), cs = doVals a (.slice D k c) ∧ k ≤ c ∧ k ≤ 140737488351232 ∧ Bytes w w.heap.size D k a.r.v := by
  obtain ⟨hl, m, hf⟩ := rdw_struct h Try.underlying66
  have hc : Try.prog.cellsOf 66 = 7 := by kernel_rfl
  have c1 : Try.prog.cellsOf 3 = 1 := by kernel_rfl
  have c2 : Try.prog.cellsOf 4 = 1 := by kernel_rfl
  have c3 : Try.prog.cellsOf 42 = 5 := by kernel_rfl
  have c4 : Try.prog.cellsOf 40 = 1 := by kernel_rfl
  rw [hc] at hl
  match cs, hl with
  | [x0, x1, x2, x3, x4, x5, x6], _ =>
    have f0 : Rdw Try.prog w B m 3 (([x0, x1, x2, x3, x4, x5, x6].drop 0).take (Try.prog.cellsOf 3)) := hf 0 _ rfl
    have f1 : Rdw Try.prog w B m 42 (([x0, x1, x2, x3, x4, x5, x6].drop 1).take (Try.prog.cellsOf 42)) := hf 1 _ rfl
    have f2 : Rdw Try.prog w B m 4 (([x0, x1, x2, x3, x4, x5, x6].drop 6).take (Try.prog.cellsOf 4)) := hf 2 _ rfl
    simp only [c1, c2, c3, List.drop_zero, List.drop_succ_cons, List.take_succ_cons, List.take_zero] at f0 f1 f2
    obtain ⟨z0, e0, _⟩ := rdw_i64 f0 Try.underlying3
    obtain ⟨b, e6⟩ := rdw_bool f2 Try.underlying4
    obtain ⟨_, m2, hg⟩ := rdw_struct f1 Try.underlying42
    have g0 : Rdw Try.prog w B m2 3 (([x1, x2, x3, x4, x5].drop 0).take (Try.prog.cellsOf 3)) := hg 0 _ rfl
    have g1 : Rdw Try.prog w B m2 3 (([x1, x2, x3, x4, x5].drop 1).take (Try.prog.cellsOf 3)) := hg 1 _ rfl
    have g2 : Rdw Try.prog w B m2 3 (([x1, x2, x3, x4, x5].drop 2).take (Try.prog.cellsOf 3)) := hg 2 _ rfl
    have g3 : Rdw Try.prog w B m2 3 (([x1, x2, x3, x4, x5].drop 3).take (Try.prog.cellsOf 3)) := hg 3 _ rfl
    have g4 : Rdw Try.prog w B m2 40 (([x1, x2, x3, x4, x5].drop 4).take (Try.prog.cellsOf 40)) := hg 4 _ rfl
    simp only [c1, c4, List.drop_zero, List.drop_succ_cons, List.take_succ_cons, List.take_zero] at g0 g1 g2 g3 g4
    obtain ⟨z1, e1, _⟩ := rdw_i64 g0 Try.underlying3
    obtain ⟨z2, e2, _⟩ := rdw_i64 g1 Try.underlying3
    obtain ⟨z3, e3, _⟩ := rdw_i64 g2 Try.underlying3
    obtain ⟨z4, e4, _⟩ := rdw_i64 g3 Try.underlying3
    obtain ⟨D, k, c, l, e5, h1, _, h2, h3⟩ := rdw_bytes g4 Try.underlying40 Try.underlying5 (by kernel_rfl) (by kernel_rfl)
    simp only [List.cons.injEq, and_true] at e0 e1 e2 e3 e4 e5 e6
    subst e0; subst e1; subst e2; subst e3; subst e4; subst e5; subst e6
    exact ⟨⟨z0, ⟨z1, z2, z3, z4, l⟩, b⟩, D, k, c, rfl, h1, by omega, h3⟩
set_option maxRecDepth 100000 in
theorem RdV.doings {w : World} {v : Value} (h : RdV Try.prog w 22 v) : ∃ A n c l vs, v = .slice A n c ∧ n ≤ 2000000000000 ∧ DoR w A n l vs := by
  obtain ⟨A, n, c, rfl, h1, h2, h3, h4, m, h5⟩ := h.slice Try.underlying22
  have hb : Try.prog.bytesOf 66 = 72 := by kernel_rfl
  have hc : Try.prog.cellsOf 66 = 7 := by kernel_rfl
  rw [hb] at h3
  have key : ∀ i, i < n → ∃ p : Doing × Value, (∃ b off, A = some ⟨b, off, none⟩ ∧ b < w.heap.size ∧ w.rangeAt b (off + i * 7) (doVals p.1 p.2)) ∧ ∃ D k c, p.2 = .slice D k c ∧ k ≤ c ∧ k ≤ 140737488351232 ∧ Bytes w w.heap.size D k p.1.r.v := by
    intro i hi
    rcases A with _ | ad
    · have := (h4 rfl).1; omega
    obtain ⟨xs, hx, hr⟩ := h5 ad rfl i hi
    rw [hc] at hx
    obtain ⟨a, D, k, c, rfl, g1, g2, g3⟩ := rdw_doing hr (Nat.le_refl _)
    obtain ⟨b, off, e1, hb, hrg, _⟩ := cells_range hx (by omega)
    have hsp : ad.spot = none := by
      obtain ⟨xs0, hx0, _⟩ := h5 ad rfl 0 (by omega)
      rw [hc] at hx0
      obtain ⟨_, _, e0, _⟩ := cells_range hx0 (by omega)
      have e9 : ad.add (0 * 7) = ad := by simp [Addr.add]
      rw [e9] at e0
      rw [e0]
    obtain ⟨b0, o0, s0⟩ := ad
    simp only at hsp
    subst hsp
    have e2 : (⟨b0, o0, none⟩ : Addr).add (i * 7) = ⟨b0, o0 + i * 7, none⟩ := Addr.add_mid b0 o0 (i * 7)
    rw [e2] at e1
    injection e1 with e3 e4
    subst e3; subst e4
    exact ⟨(a, .slice D k c), ⟨b0, o0, rfl, hb, hrg⟩, D, k, c, rfl, g1, g2, g3⟩
  refine ⟨A, n, c, (List.range n).map (fun i => if hi : i < n then (key i hi).choose.1 else ⟨0, noRec, false⟩), (List.range n).map (fun i => if hi : i < n then (key i hi).choose.2 else undef), rfl, by omega, by simp, by simp, fun i hi => ?_, fun i hi => ?_⟩
  · have hi' : i < n := by simpa using hi
    simp only [List.getElem_map, List.getElem_range, hi', dif_pos]
    exact (key i hi').choose_spec.1
  · have hi' : i < n := by simpa using hi
    simp only [List.getElem_map, List.getElem_range, hi', dif_pos]
    exact (key i hi').choose_spec.2

def SomeB (w : World) (e : Ending) (w' : World) : Prop := ∃ b : Bool, e = .returned (.bool b) ∧ w = w'
set_option maxRecDepth 100000 in
set_option maxHeartbeats 4000000 in
theorem long_any (w : World) (A : Option Addr) (n c : Nat) (l : List Doing) (vs : List Value) (h : DoR w A n l vs) (hn : n ≤ 2000000000000) : Calls Try.prog 10 #[.slice A n c] w (SomeB w) := by
  go_enter Try.func10, Try.ntmps10
  go_wp2
  go_loopw [3, 4] (fun u v wr => ∃ (k : Nat) (z : Int), k ≤ n ∧ 0 ≤ z ∧ z ≤ 6000 ∧ u = .int .i64 z ∧ v = .int .i64 k ∧ w = wr) (fun _ v _ => n - (intOf v).toNat)
  case atStart => exact ⟨0, 0, Nat.zero_le _, by omega, by omega, rfl, rfl, rfl⟩
  case round =>
    obtain ⟨k, z, hk, hz0, hz1, rfl, rfl, rfl⟩ := hrel
    by_cases hlt : k < n
    · have hkl : k < l.length := by rw [h.len]; exact hlt
      obtain ⟨b, off, rfl, hbB, hr⟩ := h.at_ k hkl
      obtain ⟨D, q, c', e1, _, hq, _⟩ := h.vals k hkl
      rw [e1] at hr
      have d5 : w.cell? ⟨b, off + k * 7 + 1 + 4, none⟩ = some (.slice D q c') := hr 5 _ rfl
      have hr2 := hide hr
      clear hr e1
      by_cases h80 : k < 80
      · go_wp2
        · go_ret
          exact ⟨true, rfl, rfl⟩
        · go_roundw
          case rel => exact ⟨k + 1, z + 1 + q, by omega, by omega, by omega, rfl, by go_num, trivial⟩
          case measure => simp [intOf]; omega
      · go_wp2
        go_ret
        exact ⟨false, rfl, rfl⟩
    · go_wp2
      go_ret
      exact ⟨false, rfl, rfl⟩
def PL.doing (m : PL) (a : Doing) : PL × Int := if a.k = 1 then m.learn a.r.p a.r.e else if a.k = 2 then ((m.append a.r).1, (m.append a.r).2.2) else m.endd a.r.p a.r.e a.r.t a.c
theorem ok_doing {m : PL} (h : m.Ok) (a : Doing) : (m.doing a).1.Ok := by
  unfold PL.doing
  split
  · exact ok_learn h _ _
  · split
    · exact ok_append h _
    · exact ok_endd h _ _ _ _
theorem spans_doing (m : PL) (a : Doing) : (m.doing a).1.spans.length ≤ m.spans.length + 1 := by
  unfold PL.doing
  split
  · rw [spans_learn]; omega
  · split
    · exact spans_append m _
    · exact spans_endd m _ _ _ _
instance (a : Doing) (v : Value) : AtA (doVals a v).toArray 0 (.int .i64 a.k) := ⟨rfl⟩
instance (a : Doing) (v : Value) : AtA (doVals a v).toArray 6 (.bool a.c) := ⟨rfl⟩
instance {w0 : World} {own : Nat → Prop} {L : List Item} {g : Nat} {t : TypeId} {a : Doing} {v : Value} [h : HasBlk L g t (doVals a v).toArray] : Rng w0 own L g 1 (recVals a.r v) :=
  ⟨fun w hM j u hj => by
    have hb : Blk w g t (doVals a v).toArray := hM.has _ h.out
    rw [hb.cell (1 + j), Nat.add_comm 1 j]
    have hj5 : j < (recVals a.r v).length := (List.getElem?_eq_some_iff.1 hj).1
    have e1 : (doVals a v).toArray[j + 1]? = (recVals a.r v ++ [.bool a.c])[j]? := by rw [List.getElem?_toArray]; rfl
    rw [e1, List.getElem?_append_left hj5]
    exact hj⟩
theorem arg_far {w0 w : World} {own : Nat → Prop} {L : List Item} (hM : Mem w0 own w L) (i : Nat) {x : Item} (hi : L[i]? = some x) {D : Option Addr} {k : Nat} {v : List (BitVec 8)} (hb : Bytes w0 w0.heap.size D k v) (hfar : 0 < k → ∀ ad, D = some ad → ¬ own ad.block) :
    0 < k → ∀ ad, D = some ad → ¬ x.foot ad.block := fun hk ad e hf => by
  obtain ⟨ad', e1, hlt, _⟩ := hb.2 hk
  rw [e] at e1
  injection e1 with e1
  subst e1
  rcases hM.own_ i hi hf with h | h
  · exact hfar hk ad e h
  · omega
/-- What a script is at one place. -/
theorem DoR.one {w : World} {A : Option Addr} {n : Nat} {l : List Doing} {vs : List Value} (h : DoR w A n l vs) (k : Nat) (hk : k < n) :
    ∃ (a : Doing) (b off : Nat) (D : Option Addr) (q c : Nat), A = some ⟨b, off, none⟩ ∧ OldR w noOwn b (off + k * 7) (doVals a (.slice D q c)) ∧ q ≤ c ∧ Bytes w w.heap.size D q a.r.v ∧ l[k]? = some a := by
  have hkl : k < l.length := by rw [h.len]; exact hk
  obtain ⟨b, off, e, hb, hr⟩ := h.at_ k hkl
  obtain ⟨D, q, c, e1, h1, _, h2⟩ := h.vals k hkl
  rw [e1] at hr
  exact ⟨l[k], b, off, D, q, c, e, oldR_no hr hb, h1, h2, by simp [hkl]⟩
end
section
open Go.RowKit Go.MapKept
set_option linter.unusedSimpArgs false
set_option linter.unusedVariables false
attribute [local irreducible] wpList Code.wp GW Calls
theorem oldR_sub {w0 : World} {own : Nat → Prop} {b o o' j n : Nat} {vs us : List Value} (h : OldR w0 own b o vs) (ho : o' = o + j) (hu : us = (vs.drop j).take n) : OldR w0 own b o' us := by
  subst ho; subst hu
  refine ⟨fun i v hi => ?_, h.lt, h.no⟩
  rw [List.getElem?_take] at hi
  split at hi
  · rw [List.getElem?_drop] at hi
    have := h.out (j + i) v hi
    rwa [← Nat.add_assoc] at this
  · cases hi
theorem old_of_range {w0 : World} {own : Nat → Prop} {b o o' j : Nat} {vs : List Value} {v : Value} (h : OldR w0 own b o vs) (ho : o' = o + j) (hv : vs[j]? = some v) : Old w0 own ⟨b, o', none⟩ v := by
  subst ho
  exact ⟨h.out j v hv, h.no⟩
set_option maxRecDepth 100000 in
set_option maxHeartbeats 8000000 in
theorem laid_any {w w1 : World} {L : List Item} (hM : Mem w noOwn w1 L) (A : Option Addr) (n c : Nat) (l : List Doing) (vs : List Value) (h : DoR w A n l vs) (hn : n ≤ 2000000000000) :
    Calls Try.prog 11 #[.slice A n c] w1 fun e w' => ∃ g g2 m F F2, e = .returned (.tuple #[.pointer (some ⟨g, 0, none⟩), .pointer (some ⟨g2, 0, none⟩)]) ∧ m.Ok ∧ m.spans.length ≤ 80 ∧ Mem w noOwn w' (.res F (LogP F g m) :: .res F2 (RefP F2 g2 m) :: L) := by
  go_enter Try.func11, Try.ntmps11
  go_wp2_with (first
    | (go_at_call 26; refine (New_mem hM).mono ?_; rintro e1 w1 ⟨g, F, rfl, hM1⟩; clear hM; have hM := hM1; clear hM1; (try simp only [List.set_cons_succ, List.set_cons_zero] at hM))
    | (go_at_call 31; refine (NewR_mem hM).mono ?_; rintro e1 w1 ⟨g2, F2, rfl, hM1⟩; clear hM; have hM := hM1; clear hM1; (try simp only [List.set_cons_succ, List.set_cons_zero] at hM)))
  have HM := hide hM
  go_loopw [6] (fun v wr => ∃ (k : Nat) (m : PL) (F F2 : Nat → Prop), k ≤ n ∧ k ≤ 80 ∧ v = .int .i64 k ∧ Mem w noOwn wr (.res F (LogP F g m) :: .res F2 (RefP F2 g2 m) :: L) ∧ m.Ok ∧ m.spans.length ≤ k) (fun v _ => n - (intOf v).toNat)
  case atStart => exact ⟨0, PL.empty, F, F2, by omega, by omega, rfl, hM.perm (List.Perm.swap _ _ _), ok_empty, by simp [PL.empty]⟩
  case round =>
    obtain ⟨k, m, F, F2, hk, hk80, rfl, hM, ok, hsl⟩ := hrel
    have hsl' : m.spans.length ≤ 1000000 := by omega
    by_cases hlt : k < n ∧ k < 80
    · obtain ⟨hlt, h80⟩ := hlt
      obtain ⟨a, b, off, D, q, cq, rfl, hO, hqc, hbq, _⟩ := h.one k hlt
      have okm := ok_doing ok a
      have hsm := spans_doing m a
      have i1 : OldR w noOwn b (off + k * 7 + 1) (recVals a.r (.slice D q cq)) := oldR_sub (j := 1) (n := 5) hO rfl rfl
      have i0 : Old w noOwn ⟨b, off + k * 7, none⟩ (.int .i64 a.k) := old_of_range (j := 0) hO rfl rfl
      have i6 : Old w noOwn ⟨b, off + k * 7 + 6, none⟩ (.bool a.c) := old_of_range (j := 6) hO rfl rfl
      have hfar : ∀ {wx : World} {X : List Item} (hM : Mem w noOwn wx X) (i : Nat) {x : Item} (hi : X[i]? = some x), 0 < q → ∀ ad, D = some ad → ¬ x.foot ad.block := @fun wx X hM i x hi hq ad e hf => by
        obtain ⟨ad', e1, hlt, _⟩ := hbq.2 hq
        rw [e] at e1
        injection e1 with e1
        subst e1
        rcases hM.own_ i hi hf with h | h
        · exact h
        · omega
      have hB := rdsB_no hbq
      clear hO
      obtain ⟨ak, ar, ac⟩ := a
      simp only at i1 i0 i6 hbq hB
      by_cases k1 : ak = 1
      · subst k1
        have hd : m.doing ⟨1, ar, ac⟩ = m.learn ar.p ar.e := if_pos rfl
        rw [hd] at okm hsm
        clear hd
        go_wp2_with (first
          | ((with_reducible refine wl_shape ?_); first | (apply wl_boxa; exact rfl; exact hM; exact rfl; exact rfl; clear hM; intro gg ww hM; simp only [putT, List.set_cons_succ, List.set_cons_zero]) | (apply wl_box1; exact rfl; exact hM; exact rfl; exact rfl; exact rfl; clear hM; intro gg ww hM; simp only [putT, List.set_cons_succ, List.set_cons_zero]) | (apply wl_alloc; exact rfl; exact hM; exact rfl; exact inferInstance; clear hM; intro gg ww hM; simp only [putT, List.set_cons_succ, List.set_cons_zero]) | (apply wl_ld; exact rfl; exact hM; exact rfl; exact rfl; exact inferInstance; exact inferInstance; simp only [putT, List.set_cons_succ, List.set_cons_zero]) | (apply wl_lda; exact rfl; exact hM; exact rfl; exact rfl; exact inferInstance; exact inferInstance; exact inferInstance; exact inferInstance; simp only [putT, List.set_cons_succ, List.set_cons_zero]) | (apply wl_ldr; exact rfl; exact hM; exact rfl; exact rfl; exact inferInstance; exact inferInstance; exact inferInstance; exact inferInstance; simp only [putT, List.set_cons_succ, List.set_cons_zero]) | (apply wl_st; exact rfl; exact hM; exact rfl; exact rfl; exact rfl; exact rfl; exact inferInstance; exact inferInstance; clear hM; intro ww hM; simp only [putT, List.set_cons_succ, List.set_cons_zero]) | (apply wl_sta; exact rfl; exact hM; exact rfl; exact rfl; exact rfl; exact all_oneCell_toArray One.out; exact inferInstance; exact inferInstance; exact inferInstance; clear hM; intro ww hM; simp only [putT, List.set_cons_succ, List.set_cons_zero]) | (apply wl_bs0; exact rfl; exact hM; exact rfl; exact inferInstance; clear hM; intro gg ww hM; simp only [putT, List.set_cons_succ, List.set_cons_zero]) | (apply wl_bs1a; exact rfl; exact hM; exact rfl; exact inferInstance; exact rfl; exact inferInstance; clear hM; intro gg ww hM; simp only [putT, List.set_cons_succ, List.set_cons_zero]) | (apply wl_bs11; exact rfl; exact hM; exact rfl; exact inferInstance; exact rfl; exact rfl; clear hM; intro gg ww hM; simp only [putT, List.set_cons_succ, List.set_cons_zero]) | (apply wl_conv; exact rfl; exact hM; exact rfl; exact rfl; exact inferInstance; exact inferInstance; simp only [putT, List.set_cons_succ, List.set_cons_zero]))
          | (go_at_call 32; refine (LearnR_mem 2 hM rfl _ _).mono ?_; rintro e1 w1 ⟨rfl, F3, hM1⟩; clear hM; have hM := hM1; clear hM1; (try simp only [List.set_cons_succ, List.set_cons_zero] at hM))
          | (go_at_call 27; refine (Learn_mem 1 hM rfl ok _ _).mono ?_; rintro e1 w1 ⟨rfl, F4, hM1⟩; clear hM; have hM := hM1; clear hM1; (try simp only [List.set_cons_succ, List.set_cons_zero] at hM)))
        go_roundw
        case rel => exact ⟨k + 1, _, F4, F3, by omega, by omega, by go_num, hM.tail, okm, by omega⟩
        case measure => simp [intOf]; omega
      · by_cases k2 : ak = 2
        · subst k2
          have hd : m.doing ⟨2, ar, ac⟩ = ((m.append ar).1, (m.append ar).2.2) := by unfold PL.doing; rw [if_neg (by simp), if_pos rfl]
          rw [hd] at okm hsm
          clear hd k1
          go_wp2_with (first
            | ((with_reducible refine wl_shape ?_); first | (apply wl_boxa; exact rfl; exact hM; exact rfl; exact rfl; clear hM; intro gg ww hM; simp only [putT, List.set_cons_succ, List.set_cons_zero]) | (apply wl_box1; exact rfl; exact hM; exact rfl; exact rfl; exact rfl; clear hM; intro gg ww hM; simp only [putT, List.set_cons_succ, List.set_cons_zero]) | (apply wl_alloc; exact rfl; exact hM; exact rfl; exact inferInstance; clear hM; intro gg ww hM; simp only [putT, List.set_cons_succ, List.set_cons_zero]) | (apply wl_ld; exact rfl; exact hM; exact rfl; exact rfl; exact inferInstance; exact inferInstance; simp only [putT, List.set_cons_succ, List.set_cons_zero]) | (apply wl_lda; exact rfl; exact hM; exact rfl; exact rfl; exact inferInstance; exact inferInstance; exact inferInstance; exact inferInstance; simp only [putT, List.set_cons_succ, List.set_cons_zero]) | (apply wl_ldr; exact rfl; exact hM; exact rfl; exact rfl; exact inferInstance; exact inferInstance; exact inferInstance; exact inferInstance; simp only [putT, List.set_cons_succ, List.set_cons_zero]) | (apply wl_st; exact rfl; exact hM; exact rfl; exact rfl; exact rfl; exact rfl; exact inferInstance; exact inferInstance; clear hM; intro ww hM; simp only [putT, List.set_cons_succ, List.set_cons_zero]) | (apply wl_sta; exact rfl; exact hM; exact rfl; exact rfl; exact rfl; exact all_oneCell_toArray One.out; exact inferInstance; exact inferInstance; exact inferInstance; clear hM; intro ww hM; simp only [putT, List.set_cons_succ, List.set_cons_zero]) | (apply wl_bs0; exact rfl; exact hM; exact rfl; exact inferInstance; clear hM; intro gg ww hM; simp only [putT, List.set_cons_succ, List.set_cons_zero]) | (apply wl_bs1a; exact rfl; exact hM; exact rfl; exact inferInstance; exact rfl; exact inferInstance; clear hM; intro gg ww hM; simp only [putT, List.set_cons_succ, List.set_cons_zero]) | (apply wl_bs11; exact rfl; exact hM; exact rfl; exact inferInstance; exact rfl; exact rfl; clear hM; intro gg ww hM; simp only [putT, List.set_cons_succ, List.set_cons_zero]) | (apply wl_conv; exact rfl; exact hM; exact rfl; exact rfl; exact inferInstance; exact inferInstance; simp only [putT, List.set_cons_succ, List.set_cons_zero]))
            | (go_at_call 33; refine (AppendR_mem 2 hM rfl ok hsl' ar q cq D (hB.out _ hM.grow) (hfar hM 2 rfl)).mono ?_; rintro e1 w1 ⟨rfl, F3, hM1⟩; clear hM; have hM := hM1; clear hM1; (try simp only [List.set_cons_succ, List.set_cons_zero] at hM))
            | (go_at_call 28; refine (Append_mem 1 hM rfl ok hsl' ar q cq D (hB.out _ hM.grow) hqc (hfar hM 1 rfl)).mono ?_; rintro e1 w1 ⟨rfl, F4, hM1⟩; clear hM; have hM := hM1; clear hM1; (try simp only [List.set_cons_succ, List.set_cons_zero] at hM)))
          go_roundw
          case rel => exact ⟨k + 1, _, F4, F3, by omega, by omega, by go_num, hM.tail, okm, by omega⟩
          case measure => simp [intOf]; omega
        · have hd : m.doing ⟨ak, ar, ac⟩ = m.endd ar.p ar.e ar.t ac := by unfold PL.doing; rw [if_neg k1, if_neg k2]
          rw [hd] at okm hsm
          clear hd
          have e1 : (ak == 1) = false := by simpa using k1
          have e2 : (ak == 2) = false := by simpa using k2
          go_wp2_with (first | ((with_reducible refine wl_shape ?_); first | (apply wl_boxa; exact rfl; exact hM; exact rfl; exact rfl; clear hM; intro gg ww hM; simp only [putT, List.set_cons_succ, List.set_cons_zero]) | (apply wl_box1; exact rfl; exact hM; exact rfl; exact rfl; exact rfl; clear hM; intro gg ww hM; simp only [putT, List.set_cons_succ, List.set_cons_zero]) | (apply wl_alloc; exact rfl; exact hM; exact rfl; exact inferInstance; clear hM; intro gg ww hM; simp only [putT, List.set_cons_succ, List.set_cons_zero]) | (apply wl_ld; exact rfl; exact hM; exact rfl; exact rfl; exact inferInstance; exact inferInstance; simp only [putT, List.set_cons_succ, List.set_cons_zero]) | (apply wl_lda; exact rfl; exact hM; exact rfl; exact rfl; exact inferInstance; exact inferInstance; exact inferInstance; exact inferInstance; simp only [putT, List.set_cons_succ, List.set_cons_zero]) | (apply wl_ldr; exact rfl; exact hM; exact rfl; exact rfl; exact inferInstance; exact inferInstance; exact inferInstance; exact inferInstance; simp only [putT, List.set_cons_succ, List.set_cons_zero]) | (apply wl_st; exact rfl; exact hM; exact rfl; exact rfl; exact rfl; exact rfl; exact inferInstance; exact inferInstance; clear hM; intro ww hM; simp only [putT, List.set_cons_succ, List.set_cons_zero]) | (apply wl_sta; exact rfl; exact hM; exact rfl; exact rfl; exact rfl; exact all_oneCell_toArray One.out; exact inferInstance; exact inferInstance; exact inferInstance; clear hM; intro ww hM; simp only [putT, List.set_cons_succ, List.set_cons_zero]) | (apply wl_bs0; exact rfl; exact hM; exact rfl; exact inferInstance; clear hM; intro gg ww hM; simp only [putT, List.set_cons_succ, List.set_cons_zero]) | (apply wl_bs1a; exact rfl; exact hM; exact rfl; exact inferInstance; exact rfl; exact inferInstance; clear hM; intro gg ww hM; simp only [putT, List.set_cons_succ, List.set_cons_zero]) | (apply wl_bs11; exact rfl; exact hM; exact rfl; exact inferInstance; exact rfl; exact rfl; clear hM; intro gg ww hM; simp only [putT, List.set_cons_succ, List.set_cons_zero]) | (apply wl_conv; exact rfl; exact hM; exact rfl; exact rfl; exact inferInstance; exact inferInstance; simp only [putT, List.set_cons_succ, List.set_cons_zero])) | (rw [e1]) | (rw [e2]))
          clear e1 e2
          have c6 : ∀ (X : List Item) (wx : World), Mem w noOwn wx X → wx.cell? ⟨b, off + k * 7 + 6, none⟩ = some (.bool ac) := fun X wx hM => (inferInstance : Cell w noOwn X ⟨b, off + k * 7 + 6, none⟩ (.bool ac)).out wx hM
          have d0 : _ = some (Value.int .i64 ar.p) := hM.cell 0 rfl 0
          have d1 : _ = some (Value.int .i64 ar.e) := hM.cell 0 rfl 1
          have d2 : _ = some (Value.int .i64 ar.t) := hM.cell 0 rfl 2
          have d6 := c6 _ _ hM
          go_still_tail 12, (by kernel_rfl)
          clear d0 d1 d2 d6
          replace hM := hM.drew
          go_wp2_with (go_at_call 29; refine (End_mem 1 hM rfl hsl' _ _ _ _).mono ?_; rintro e1 w1 ⟨rfl, F4, hM1⟩; clear hM; have hM := hM1; clear hM1; (try simp only [List.set_cons_succ, List.set_cons_zero] at hM))
          have d0 : _ = some (Value.int .i64 ar.p) := hM.cell 0 rfl 0
          have d1 : _ = some (Value.int .i64 ar.e) := hM.cell 0 rfl 1
          have d2 : _ = some (Value.int .i64 ar.t) := hM.cell 0 rfl 2
          have d6 := c6 _ _ hM
          go_still_tail 12, (by kernel_rfl)
          clear d0 d1 d2 d6
          replace hM := hM.drew
          go_wp2_with (go_at_call 34; refine (EndR_mem 2 hM rfl hsl' _ _ _ _).mono ?_; rintro e1 w1 ⟨rfl, F3, hM1⟩; clear hM; have hM := hM1; clear hM1; (try simp only [List.set_cons_succ, List.set_cons_zero] at hM))
          go_roundw
          case rel => exact ⟨k + 1, _, F4, F3, by omega, by omega, by go_num, hM.tail, okm, by omega⟩
          case measure => simp [intOf]; omega
    · have hor : n ≤ k ∨ (k < n ∧ 80 ≤ k) := by omega
      clear hlt
      rcases hor with hge | ⟨h1, hge⟩
      all_goals
        go_wp2
        go_ret2
        exact ⟨g, g2, m, F, F2, rfl, ok, by omega, hM⟩
end
end Go.Proofs.Ytechglhkcjgodaa
