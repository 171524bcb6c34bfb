/- plog's laws: PlogLearns. -/
import Derived.Test.YtfecapcjocomkaaPlogV2
namespace Go.Proofs.Ytfecapcjocomkaa
open Go.RowKit Go.MapKept
set_option linter.unusedSimpArgs false
set_option linter.unusedVariables false

theorem pick_list {α : Type} {Q : Nat → α → Prop} : ∀ n, (∀ i, i < n → ∃ z, Q i z) → ∃ l : List α, l.length = n ∧ ∀ i (h : i < l.length), Q i l[i]
  | 0, _ => ⟨[], rfl, fun i h => by simp at h⟩
  | n + 1, h => by
    obtain ⟨l, hl, hq⟩ := pick_list n (fun i hi => h i (by omega))
    obtain ⟨z, hz⟩ := h n (by omega)
    refine ⟨l ++ [z], by simp [hl], fun i hi => ?_⟩
    by_cases hi2 : i < l.length
    · rw [List.getElem_append_left hi2]; exact hq i hi2
    · have e : i = n := by simp at hi; omega
      subst e
      rw [List.getElem_append_right (by omega)]
      simpa [hl] using hz
theorem RdV.ones {P : Program} {w : World} {t e : TypeId} {v : Value} {α : Type} (f : α → Value) (h : RdV P w t v) (ht : P.underlying t = some (.slice e)) (hc : P.cellsOf e = 1) (hb : 0 < P.bytesOf e)
    (hr : ∀ m xs, Rdw P w 140737488351232 m e xs → ∃ z : α, xs = [f z]) : ∃ A n c, ∃ l : List α, v = .slice A n c ∧ n ≤ c ∧ n ≤ 140737488351232 ∧ l.length = n ∧ Reads w w.heap.size 1 A n (l.map f) := by
  obtain ⟨A, n, c, rfl, h1, h2, h3, h4, m, h5⟩ := h.slice ht
  have hn : n ≤ 140737488351232 := Nat.le_trans (Nat.le_mul_of_pos_right n hb) h3
  rw [hc] at h5
  have key : ∀ i, i < n → ∃ z : α, ∃ ad, A = some ad ∧ ad.block < w.heap.size ∧ w.cell? (ad.add i) = some (f z) := by
    intro i hi
    rcases A with _ | ad
    · have := (h4 rfl).1; omega
    obtain ⟨xs, hx, hx2⟩ := h5 ad rfl i hi
    obtain ⟨z, rfl⟩ := hr m xs hx2
    obtain ⟨b, off, e1, hb1, hrg, _⟩ := cells_range hx (by omega)
    rw [Nat.mul_one] at e1
    refine ⟨z, ad, rfl, ?_, ?_⟩
    · have := congrArg Addr.block e1
      rw [block_of_add] at this
      rw [this]; exact hb1
    · rw [e1]
      exact hrg 0 _ rfl
  obtain ⟨l, hl, hq⟩ := pick_list n key
  refine ⟨A, n, c, l, rfl, h1, hn, hl, by simp [hl], fun hn0 => ?_⟩
  obtain ⟨ad, e1, hb1, _⟩ := hq 0 (by omega)
  refine ⟨ad, e1, hb1, fun j u hu => ?_⟩
  have hj : j < l.length := by simpa using (List.getElem?_eq_some_iff.1 hu).1
  obtain ⟨ad', e2, _, hc'⟩ := hq j hj
  rw [e1] at e2
  injection e2 with e2
  subst e2
  rw [hc']
  rw [← hu, List.getElem?_map, List.getElem?_eq_getElem hj]
  rfl
theorem RdV.ints {w : World} {v : Value} (h : RdV Try.prog w 51 v) : ∃ A n c, ∃ l : List Int, v = .slice A n c ∧ n ≤ c ∧ n ≤ 140737488351232 ∧ l.length = n ∧ Reads w w.heap.size 1 A n (l.map (Value.int .i64)) :=
  h.ones _ Try.underlying51 (by kernel_rfl) (Nat.lt_of_lt_of_eq (by decide : 0 < 8) (by kernel_rfl : 8 = Try.prog.bytesOf 3)) (fun m xs hx => by
    obtain ⟨z, e, _⟩ := rdw_i64 hx Try.underlying3
    exact ⟨z, e⟩)
theorem RdV.bools {w : World} {v : Value} (h : RdV Try.prog w 52 v) : ∃ A n c, ∃ l : List Bool, v = .slice A n c ∧ n ≤ c ∧ n ≤ 140737488351232 ∧ l.length = n ∧ Reads w w.heap.size 1 A n (l.map Value.bool) :=
  h.ones _ Try.underlying52 (by kernel_rfl) (Nat.lt_of_lt_of_eq (by decide : 0 < 1) (by kernel_rfl : 1 = Try.prog.bytesOf 4)) (fun m xs hx => by
    obtain ⟨z, e⟩ := rdw_bool hx Try.underlying4
    exact ⟨z, e⟩)
theorem one_cell {w : World} {B n : Nat} {A : Option Addr} {α : Type} {f : α → Value} {l : List α} (h : Reads w B 1 A n (l.map f)) (hl : l.length = n) (k : Nat) (hk : k < l.length) : ∃ b off, A = some ⟨b, off, none⟩ ∧ b < B ∧ w.cell? ⟨b, off + k, none⟩ = some (f l[k]) := by
  obtain ⟨b, off, e, hb, hc⟩ := h.form (by omega) (by decide)
  exact ⟨b, off, e, hb, hc k _ (by simp [hk])⟩

/-- A log of one producer's epoch alone. -/
def vp (p : Int) : Bool := decide (0 ≤ p) && decide (p < 8)
def lrn (p most : Int) : PL := ⟨[], [], if vp p = true then (List.replicate 8 (-1)).set p.toNat most else List.replicate 8 (-1)⟩
theorem lrn_start (p : Int) : lrn p (-1) = PL.empty := by
  unfold lrn PL.empty
  congr 1
  split
  · apply List.ext_getElem (by simp)
    intro i h1 h2
    rw [List.getElem_set]
    split
    · rw [List.getElem_replicate]
    · rfl
  · rfl
theorem lrn_ep {p most : Int} (h : vp p = true) : (lrn p most).ep p = most := by
  unfold lrn PL.ep
  rw [if_pos h]
  simp [vp] at h
  have : p.toNat < 8 := by omega
  simp [this]
theorem lrn_learn {p most e : Int} (h : vp p = true) (h1 : 0 ≤ e) (h2 : e ≤ 100) : (lrn p most).learn p e = (lrn p (max most e), 0) := by
  have he := lrn_ep (most := most) h
  have hp : PL.isProd p e = true := by
    simp [vp] at h
    simp [PL.isProd]
    omega
  unfold PL.learn
  rw [if_pos hp, he]
  unfold lrn
  rw [if_pos h, if_pos h, List.set_set]
theorem lrn_bad {p most e : Int} (h : ¬ (vp p = true ∧ 0 ≤ e ∧ e ≤ 100)) : (lrn p most).learn p e = (lrn p most, 1) := by
  unfold PL.learn
  rw [if_neg (fun hp => h (by simp [PL.isProd] at hp; simp [vp]; omega))]
theorem lrn_epf {p most : Int} (h : vp p = false → most = -1) : epf (lrn p most) p = if 0 ≤ most then some (.int .i64 most) else none := by
  unfold epf
  cases hv : vp p with
  | true =>
    rw [lrn_ep hv]
    have : 0 ≤ p := by simp [vp] at hv; omega
    simp [this]
  | false =>
    rw [h hv, if_neg (fun hh => by
      have h1 := hh.2
      rw [lrn_start] at h1
      unfold PL.ep PL.empty at h1
      simp only at h1
      rw [List.getD_eq_getElem?_getD, List.getElem?_replicate] at h1
      split at h1 <;> simp at h1), if_neg (by omega)]
theorem lrn_ok (p most : Int) : (lrn p most).Ok := ⟨by unfold lrn; simp only; split <;> simp, fun x hx => by simp [lrn] at hx, by simp [lrn], fun p e => by simp [seqsOf, lrn], by simp [lrn]⟩
attribute [local irreducible] wpList Code.wp GW Calls
section
variable {w0 w : World} {own : Nat → Prop} {L : List Item} {g : Nat} {F : Nat → Prop} {m m' : PL}
theorem Learn_to (i : Nat) (hM : Mem w0 own w L) (hi : L[i]? = some (.res F (LogP F g m))) (ok : m.Ok) {p e r : Int} (h : m.learn p e = (m', r)) : Calls Try.prog 24 #[.pointer (some ⟨g, 0, none⟩), .int .i64 p, .int .i64 e] w fun x w' => x = .returned (.int .i64 r) ∧ ∃ F', Mem w0 own w' (L.set i (.res F' (LogP F' g m'))) := by
  have := Learn_mem i hM hi ok p e
  rw [h] at this
  exact this
theorem Len_to (i : Nat) (hM : Mem w0 own w L) (hi : L[i]? = some (.res F (LogP F g m))) {n : Nat} (h : m.recs.length = n) : Calls Try.prog 16 #[.pointer (some ⟨g, 0, none⟩)] w fun x w' => x = .returned (.int .i64 n) ∧ Grow w noOwn w' := by
  have := Len_mem i hM hi
  rw [h] at this
  exact this
end
set_option maxRecDepth 100000 in
set_option maxHeartbeats 8000000 in
theorem PlogLearns_any (w : World) (p : Int) (A : Option Addr) (n c : Nat) (l : List Int) (hn : n ≤ 140737488351232) (hl : l.length = n) (h : Reads w w.heap.size 1 A n (l.map (Value.int .i64))) : Calls Try.prog 8 #[.int .i64 p, .slice A n c] w fun e w' => e = .returned (.bool true) ∧ Grow w noOwn w' := by
  have hM := Mem.nil w noOwn
  by_cases h40 : n > 40
  · go_enter Try.func8, Try.ntmps8
    go_wp2
    go_ret
    exact ⟨rfl, hM.grow⟩
  · go_enter Try.func8, Try.ntmps8
    go_wp2_with (go_at_call 14; refine (New_mem hM).mono ?_; rintro e1 w1 ⟨g, F, rfl, hM1⟩; clear hM; have hM := hM1; clear hM1; (try simp only [List.set_cons_succ, List.set_cons_zero] at hM))
    have HM := hide hM
    go_loopw [6, 7] (fun u v wr => ∃ (k : Nat) (most : Int) (F : Nat → Prop), k ≤ n ∧ (vp p = false → most = -1) ∧ -1 ≤ most ∧ u = .int .i64 most ∧ v = .int .i64 k ∧ Mem w noOwn wr [.res F (LogP F g (lrn p most))]) (fun _ v _ => n - (intOf v).toNat)
    case atStart => exact ⟨0, -1, F, by omega, fun _ => rfl, by omega, rfl, rfl, by rw [lrn_start]; exact hM⟩
    case round =>
      obtain ⟨k, most, F, hk, hv, hm1, rfl, rfl, hM⟩ := hrel
      by_cases hlt : k < n
      · obtain ⟨b, off, rfl, hb, d0⟩ := one_cell h hl k (by omega)
        have d1 := old_no d0
        obtain ⟨e, he⟩ : ∃ e, e = l[k] := ⟨_, rfl⟩
        rw [← he] at d1
        clear he d0
        by_cases hok : vp p = true ∧ 0 ≤ e ∧ e ≤ 100
        · obtain ⟨h1, h2, h3⟩ := hok
          have q1 := lrn_learn (most := most) h1 h2 h3
          have q2 := lrn_epf (p := p) (most := max most e) (by rw [h1]; exact fun h => nomatch h)
          rw [if_pos (by omega)] at q2
          have hmx : 0 ≤ max most e := by omega
          have hp : 0 ≤ p ∧ p < 8 := by simp [vp] at h1; exact h1
          obtain ⟨hp0, hp8⟩ := hp
          go_wp2_with (first | ((with_reducible refine wl_shape ?_); first | (apply wl_boxa; exact rfl; exact hM; exact rfl; exact rfl; clear hM; intro gg ww hM; simp only [putT, List.set_cons_succ, List.set_cons_zero]) | (apply wl_box1; exact rfl; exact hM; exact rfl; exact rfl; exact rfl; clear hM; intro gg ww hM; simp only [putT, List.set_cons_succ, List.set_cons_zero]) | (apply wl_alloc; exact rfl; exact hM; exact rfl; exact inferInstance; clear hM; intro gg ww hM; simp only [putT, List.set_cons_succ, List.set_cons_zero]) | (apply wl_ld; exact rfl; exact hM; exact rfl; exact rfl; exact inferInstance; exact inferInstance; simp only [putT, List.set_cons_succ, List.set_cons_zero]) | (apply wl_lda; exact rfl; exact hM; exact rfl; exact rfl; exact inferInstance; exact inferInstance; exact inferInstance; exact inferInstance; simp only [putT, List.set_cons_succ, List.set_cons_zero]) | (apply wl_ldr; exact rfl; exact hM; exact rfl; exact rfl; exact inferInstance; exact inferInstance; exact inferInstance; exact inferInstance; simp only [putT, List.set_cons_succ, List.set_cons_zero]) | (apply wl_st; exact rfl; exact hM; exact rfl; exact rfl; exact rfl; exact rfl; exact inferInstance; exact inferInstance; clear hM; intro ww hM; simp only [putT, List.set_cons_succ, List.set_cons_zero]) | (apply wl_sta; exact rfl; exact hM; exact rfl; exact rfl; exact rfl; exact all_oneCell_toArray One.out; exact inferInstance; exact inferInstance; exact inferInstance; clear hM; intro ww hM; simp only [putT, List.set_cons_succ, List.set_cons_zero]) | (apply wl_bs0; exact rfl; exact hM; exact rfl; exact inferInstance; clear hM; intro gg ww hM; simp only [putT, List.set_cons_succ, List.set_cons_zero]) | (apply wl_bs1a; exact rfl; exact hM; exact rfl; exact inferInstance; exact rfl; exact inferInstance; clear hM; intro gg ww hM; simp only [putT, List.set_cons_succ, List.set_cons_zero]) | (apply wl_bs11; exact rfl; exact hM; exact rfl; exact inferInstance; exact rfl; exact rfl; clear hM; intro gg ww hM; simp only [putT, List.set_cons_succ, List.set_cons_zero]) | (apply wl_conv; exact rfl; exact hM; exact rfl; exact rfl; exact inferInstance; exact inferInstance; simp only [putT, List.set_cons_succ, List.set_cons_zero])) | (go_at_call 24; refine (Learn_to 0 hM rfl (lrn_ok _ _) q1).mono ?_; rintro e1 w1 ⟨rfl, F1, hM1⟩; clear hM; have hM := hM1; clear hM1; (try simp only [List.set_cons_succ, List.set_cons_zero] at hM)) | (go_at_call 25; refine (Epoch_mem 0 hM rfl _).mono ?_; rintro e1 w1 ⟨rfl, hg⟩; replace hM := hM.call hg; clear hg; rw [q2]; simp only [Option.getD_some, Option.getD_none, Option.isSome_some, Option.isSome_none]))
          go_roundw
          case rel => exact ⟨k + 1, max most e, F1, by omega, (fun h => by rw [h1] at h; cases h), by omega, rfl, by go_num, hM⟩
          case measure => simp [intOf]; omega
        · have q1 := lrn_bad (most := most) hok
          have q2 := lrn_epf hv
          have hcs : p < 0 ∨ (0 ≤ p ∧ 8 ≤ p) ∨ (0 ≤ p ∧ p < 8 ∧ e < 0) ∨ (0 ≤ p ∧ p < 8 ∧ 0 ≤ e ∧ 100 < e) := by
            simp only [vp, Bool.and_eq_true, decide_eq_true_eq] at hok
            omega
          clear hok
          by_cases hm0 : 0 ≤ most
          · rw [if_pos hm0] at q2
            rcases hcs with h1 | ⟨h1, h2⟩ | ⟨h1, h2, h3⟩ | ⟨h1, h2, h3, h4⟩
            all_goals
              go_wp2_with (first | ((with_reducible refine wl_shape ?_); first | (apply wl_boxa; exact rfl; exact hM; exact rfl; exact rfl; clear hM; intro gg ww hM; simp only [putT, List.set_cons_succ, List.set_cons_zero]) | (apply wl_box1; exact rfl; exact hM; exact rfl; exact rfl; exact rfl; clear hM; intro gg ww hM; simp only [putT, List.set_cons_succ, List.set_cons_zero]) | (apply wl_alloc; exact rfl; exact hM; exact rfl; exact inferInstance; clear hM; intro gg ww hM; simp only [putT, List.set_cons_succ, List.set_cons_zero]) | (apply wl_ld; exact rfl; exact hM; exact rfl; exact rfl; exact inferInstance; exact inferInstance; simp only [putT, List.set_cons_succ, List.set_cons_zero]) | (apply wl_lda; exact rfl; exact hM; exact rfl; exact rfl; exact inferInstance; exact inferInstance; exact inferInstance; exact inferInstance; simp only [putT, List.set_cons_succ, List.set_cons_zero]) | (apply wl_ldr; exact rfl; exact hM; exact rfl; exact rfl; exact inferInstance; exact inferInstance; exact inferInstance; exact inferInstance; simp only [putT, List.set_cons_succ, List.set_cons_zero]) | (apply wl_st; exact rfl; exact hM; exact rfl; exact rfl; exact rfl; exact rfl; exact inferInstance; exact inferInstance; clear hM; intro ww hM; simp only [putT, List.set_cons_succ, List.set_cons_zero]) | (apply wl_sta; exact rfl; exact hM; exact rfl; exact rfl; exact rfl; exact all_oneCell_toArray One.out; exact inferInstance; exact inferInstance; exact inferInstance; clear hM; intro ww hM; simp only [putT, List.set_cons_succ, List.set_cons_zero]) | (apply wl_bs0; exact rfl; exact hM; exact rfl; exact inferInstance; clear hM; intro gg ww hM; simp only [putT, List.set_cons_succ, List.set_cons_zero]) | (apply wl_bs1a; exact rfl; exact hM; exact rfl; exact inferInstance; exact rfl; exact inferInstance; clear hM; intro gg ww hM; simp only [putT, List.set_cons_succ, List.set_cons_zero]) | (apply wl_bs11; exact rfl; exact hM; exact rfl; exact inferInstance; exact rfl; exact rfl; clear hM; intro gg ww hM; simp only [putT, List.set_cons_succ, List.set_cons_zero]) | (apply wl_conv; exact rfl; exact hM; exact rfl; exact rfl; exact inferInstance; exact inferInstance; simp only [putT, List.set_cons_succ, List.set_cons_zero])) | (go_at_call 24; refine (Learn_to 0 hM rfl (lrn_ok _ _) q1).mono ?_; rintro e1 w1 ⟨rfl, F1, hM1⟩; clear hM; have hM := hM1; clear hM1; (try simp only [List.set_cons_succ, List.set_cons_zero] at hM)) | (go_at_call 25; refine (Epoch_mem 0 hM rfl _).mono ?_; rintro e1 w1 ⟨rfl, hg⟩; replace hM := hM.call hg; clear hg; rw [q2]; simp only [Option.getD_some, Option.getD_none, Option.isSome_some, Option.isSome_none]))
              go_roundw
              case rel => exact ⟨k + 1, most, F1, by omega, hv, hm1, rfl, by go_num, hM⟩
              case measure => simp [intOf]; omega
          · rw [if_neg hm0] at q2
            rcases hcs with h1 | ⟨h1, h2⟩ | ⟨h1, h2, h3⟩ | ⟨h1, h2, h3, h4⟩
            all_goals
              go_wp2_with (first | ((with_reducible refine wl_shape ?_); first | (apply wl_boxa; exact rfl; exact hM; exact rfl; exact rfl; clear hM; intro gg ww hM; simp only [putT, List.set_cons_succ, List.set_cons_zero]) | (apply wl_box1; exact rfl; exact hM; exact rfl; exact rfl; exact rfl; clear hM; intro gg ww hM; simp only [putT, List.set_cons_succ, List.set_cons_zero]) | (apply wl_alloc; exact rfl; exact hM; exact rfl; exact inferInstance; clear hM; intro gg ww hM; simp only [putT, List.set_cons_succ, List.set_cons_zero]) | (apply wl_ld; exact rfl; exact hM; exact rfl; exact rfl; exact inferInstance; exact inferInstance; simp only [putT, List.set_cons_succ, List.set_cons_zero]) | (apply wl_lda; exact rfl; exact hM; exact rfl; exact rfl; exact inferInstance; exact inferInstance; exact inferInstance; exact inferInstance; simp only [putT, List.set_cons_succ, List.set_cons_zero]) | (apply wl_ldr; exact rfl; exact hM; exact rfl; exact rfl; exact inferInstance; exact inferInstance; exact inferInstance; exact inferInstance; simp only [putT, List.set_cons_succ, List.set_cons_zero]) | (apply wl_st; exact rfl; exact hM; exact rfl; exact rfl; exact rfl; exact rfl; exact inferInstance; exact inferInstance; clear hM; intro ww hM; simp only [putT, List.set_cons_succ, List.set_cons_zero]) | (apply wl_sta; exact rfl; exact hM; exact rfl; exact rfl; exact rfl; exact all_oneCell_toArray One.out; exact inferInstance; exact inferInstance; exact inferInstance; clear hM; intro ww hM; simp only [putT, List.set_cons_succ, List.set_cons_zero]) | (apply wl_bs0; exact rfl; exact hM; exact rfl; exact inferInstance; clear hM; intro gg ww hM; simp only [putT, List.set_cons_succ, List.set_cons_zero]) | (apply wl_bs1a; exact rfl; exact hM; exact rfl; exact inferInstance; exact rfl; exact inferInstance; clear hM; intro gg ww hM; simp only [putT, List.set_cons_succ, List.set_cons_zero]) | (apply wl_bs11; exact rfl; exact hM; exact rfl; exact inferInstance; exact rfl; exact rfl; clear hM; intro gg ww hM; simp only [putT, List.set_cons_succ, List.set_cons_zero]) | (apply wl_conv; exact rfl; exact hM; exact rfl; exact rfl; exact inferInstance; exact inferInstance; simp only [putT, List.set_cons_succ, List.set_cons_zero])) | (go_at_call 24; refine (Learn_to 0 hM rfl (lrn_ok _ _) q1).mono ?_; rintro e1 w1 ⟨rfl, F1, hM1⟩; clear hM; have hM := hM1; clear hM1; (try simp only [List.set_cons_succ, List.set_cons_zero] at hM)) | (go_at_call 25; refine (Epoch_mem 0 hM rfl _).mono ?_; rintro e1 w1 ⟨rfl, hg⟩; replace hM := hM.call hg; clear hg; rw [q2]; simp only [Option.getD_some, Option.getD_none, Option.isSome_some, Option.isSome_none]))
              go_roundw
              case rel => exact ⟨k + 1, most, F1, by omega, hv, hm1, rfl, by go_num, hM⟩
              case measure => simp [intOf]; omega
      · obtain rfl : k = n := by omega
        go_wp2_with (first
          | (go_at_call 16; refine (Len_to 0 hM rfl (n := 0) rfl).mono ?_; rintro e1 w1 ⟨rfl, hg⟩; replace hM := hM.call hg; clear hg)
          | (go_at_call 18; refine (Spans_pushed 0 hM rfl (by show 0 ≤ 1000000; omega)).mono ?_; rintro e1 w1 ⟨As, cs, rfl, hM1⟩; clear hM; have hM := hM1; clear hM1; (try simp only [List.set_cons_succ, List.set_cons_zero] at hM); have e0 : (lrn p most).spans.length = 0 := rfl; rw [e0])
          | (go_at_call 20; refine (known_any _).mono ?_; rintro e1 w1 ⟨rfl, hg⟩; replace hM := hM.call hg; clear hg))
        go_ret
        exact ⟨rfl, hM.grow⟩
end Go.Proofs.Ytfecapcjocomkaa
