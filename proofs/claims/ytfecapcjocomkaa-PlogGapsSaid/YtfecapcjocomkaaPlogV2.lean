/- plog's laws: a copy of the transactions is new; which transactions can be; PlogStable. -/
import Derived.Test.YtfecapcjocomkaaPlogV1
namespace Go.Proofs.Ytfecapcjocomkaa
open Go.RowKit Go.MapKept
set_option linter.unusedSimpArgs false
set_option linter.unusedVariables false

/-- slices.Clone of transactions: into a block of its own. -/
theorem CloneS_new (w : World) (n c : Nat) (A : Option Addr) (xs : List Value) (hx : xs.length = n * 5) (hb : Reads w w.heap.size 5 A n xs) (h1 : ∀ u ∈ xs, u.oneCell' = true) (hn : n ≤ 2000000000000) :
    Calls Try.prog 30 #[.slice A n c] w fun e w' => (∃ A' c', e = .returned (.slice A' n c') ∧ Reads w' w'.heap.size 5 A' n xs ∧ ∀ g, A' = some g → w.heap.size ≤ g.block) ∧ Grow w noOwn w' := by
  have hM := Mem.nil w noOwn
  cases A with
  | none =>
    have hn0 : n = 0 := by
      rcases Nat.eq_zero_or_pos n with h | h
      · exact h
      · obtain ⟨ad, e, _⟩ := hb.2 h; cases e
    subst hn0
    go_enter Try.func30, Try.ntmps30
    go_wp2
    go_ret
    exact ⟨⟨none, 0, rfl, by simpa using hb, by simp⟩, hM.grow⟩
  | some ad =>
    go_enter Try.func30, Try.ntmps30
    go_wp2_with (first
      | (refine wpList_buildSlice_row rfl 29 0 #[] rfl hM 40 Try.underlying29 _ 5 40 spnrow (by omega) (by omega) [] (by simp [slCells, Instr.fill]) rfl ?_; clear hM; intro g1 w1 hM)
      | (refine wpList_append_row rfl _ _ 29 rfl hM 0 _ 40 5 0 [] rfl rfl Try.underlying29 _ 40 spnrow rfl (by decide) w.heap.size (some ad) n c xs rfl (hM.reads hb (Nat.le_refl _) (fun _ _ e => e)) h1 (by unfold maxLen; omega) (by omega) n (by omega) xs (by simp) ?_; clear hM; intro A2 c2 w2 hM))
    have hrow := hM.row 0 rfl
    go_ret
    refine ⟨⟨A2, c2, rfl, Reads.of_own hrow, fun g hg => ?_⟩, hM.grow⟩
    subst hg
    exact (hM.own_ 0 rfl rfl).resolve_left (fun e => e)
theorem Spans_new (w : World) (g gm : Nat) (A B : Option Addr) (ca cb : Nat) (m : PL) (vs : List Value) (h : LogR w g gm A B ca cb m vs) (hs : m.spans.length ≤ 2000000000000) :
    Calls Try.prog 18 #[.pointer (some ⟨g, 0, none⟩)] w fun x w' => (∃ A' c', x = .returned (.slice A' m.spans.length c') ∧ Reads w' w'.heap.size 5 A' m.spans.length (spnCells m.spans) ∧ ∀ g, A' = some g → w.heap.size ≤ g.block) ∧ Grow w noOwn w' := by
  have c0 := h.blk.cell 1
  go_enter Try.func18, Try.ntmps18
  go_wp2_with (go_at_call 30; refine (CloneS_new w _ cb B _ (spnCells_length _) h.spans (oneCells_spn _) hs).mono ?_; rintro e w1 ⟨⟨A1, c1, rfl, hr, hc⟩, hg⟩)
  go_ret
  exact ⟨⟨A1, c1, rfl, hr, hc⟩, hg⟩
/-- A slice of things that are read, in a block of its own. -/
def RdP (size : Nat) (A : Option Addr) (n : Nat) (xs : List Value) (w : World) : Prop := Reads w w.heap.size size A n xs
def rdF (A : Option Addr) (n : Nat) (i : Nat) : Prop := 0 < n ∧ ∃ ad, A = some ad ∧ ad.block = i
theorem RdP.stays (size : Nat) (A : Option Addr) (n : Nat) (xs : List Value) : Stays (rdF A n) (RdP size A n xs) := by
  rintro w1 w2 hl hk h
  refine ⟨h.1, fun hn => ?_⟩
  obtain ⟨ad, e, hb, hc⟩ := h.2 hn
  have h1 := hk ad.block ⟨hn, ad, e, rfl⟩
  exact ⟨ad, e, lt_of_same hb h1, fun j u hu => (World.cell?_of_block (by rw [block_of_add]; exact h1)).trans (hc j u hu)⟩
class HasRd (L : List Item) (A : Option Addr) (n size : Nat) (xs : List Value) : Prop where out : Item.res (rdF A n) (RdP size A n xs) ∈ L
instance {L : List Item} {A : Option Addr} {n size : Nat} {xs : List Value} : HasRd (.res (rdF A n) (RdP size A n xs) :: L) A n size xs := ⟨List.mem_cons_self ..⟩
instance (priority := low) {L : List Item} {x : Item} {A : Option Addr} {n size : Nat} {xs : List Value} [h : HasRd L A n size xs] : HasRd (x :: L) A n size xs := ⟨List.mem_cons_of_mem _ h.out⟩
theorem rd_push {w0 w w' : World} {own : Nat → Prop} {L : List Item} (hM : Mem w0 own w L) (hg : Grow w noOwn w') {A : Option Addr} {n size : Nat} {xs : List Value} (hr : Reads w' w'.heap.size size A n xs) (hn : ∀ g, A = some g → w.heap.size ≤ g.block) :
    Mem w0 own w' (.res (rdF A n) (RdP size A n xs) :: L) :=
  hM.push (hM.grow.then_ hg) (fun k hk => hg.block k hk (fun e => e)) ⟨fun i hi => by
    obtain ⟨hn0, ad, e, rfl⟩ := hi
    obtain ⟨ad', e', hb, _⟩ := hr.2 hn0
    rw [e] at e'; injection e' with e'; subst e'; exact hb, hr, RdP.stays _ _ _ _⟩ (fun i hi => by
    obtain ⟨hn0, ad, e, rfl⟩ := hi
    exact hn ad e)
theorem rd_cell {w0 : World} {own : Nat → Prop} {L : List Item} {b off n size : Nat} {xs : List Value} (h : HasRd L (some ⟨b, off, none⟩) n size xs) (hs : 0 < size) (j : Nat) (hj : j < n * size) {o : Nat} {u : Value} (ho : o = off + j) (hu : xs[j]? = some u) : Cell w0 own L ⟨b, o, none⟩ u := ⟨fun w hM => by
  have hx : Item.at_ w (.res (rdF (some ⟨b, off, none⟩) n) (RdP size (some ⟨b, off, none⟩) n xs)) := hM.has _ h.out
  have hn : 0 < n := Nat.pos_of_ne_zero (fun e => by rw [e] at hj; omega)
  obtain ⟨b', off', e, _, hc⟩ := Reads.form hx.2.1 hn hs
  injection e with e
  injection e with e1 e2 _
  subst e1; subst e2; subst ho
  exact hc j u hu⟩
theorem rd_form {w0 w : World} {own : Nat → Prop} {L : List Item} {A : Option Addr} {n size : Nat} {xs : List Value} (hM : Mem w0 own w L) [h : HasRd L A n size xs] (hn : 0 < n) (hs : 0 < size) : ∃ b off, A = some ⟨b, off, none⟩ := by
  have hx : Item.at_ w (.res (rdF A n) (RdP size A n xs)) := hM.has _ h.out
  obtain ⟨b, off, e, _⟩ := Reads.form hx.2.1 hn hs
  exact ⟨b, off, e⟩
theorem Spans_pushed {w0 w : World} {own : Nat → Prop} {L : List Item} {g : Nat} {F : Nat → Prop} {m : PL} (i : Nat) (hM : Mem w0 own w L) (hi : L[i]? = some (.res F (LogP F g m))) (hsl : m.spans.length ≤ 1000000) : Calls Try.prog 18 #[.pointer (some ⟨g, 0, none⟩)] w fun x w' => ∃ A' c', x = .returned (.slice A' m.spans.length c') ∧ Mem w0 own w' (.res (rdF A' m.spans.length) (RdP 5 A' m.spans.length (spnCells m.spans)) :: L) := by
  obtain ⟨S, V, ⟨gm, A, B, ca, cb, vs, h⟩, hF⟩ := hM.logP hi
  exact (Spans_new w g gm A B ca cb m vs h.read (by omega)).mono fun x w' ⟨⟨A', c', hx, hr, hn⟩, hs⟩ => ⟨A', c', hx, rd_push hM hs hr hn⟩

/-- Which transactions can be. -/
def SpnOk (n : Nat) (s : Spn) : Prop := PL.isProd s.p s.e = true ∧ PL.isTxn s.t = true ∧ (s.k = 0 ∧ 0 ≤ s.f ∧ s.f ≤ n ∨ s.k = 2 ∨ s.k = 3)
def PL.OkS (m : PL) : Prop := ∀ s ∈ m.spans, SpnOk m.recs.length s
theorem oks_empty : PL.empty.OkS := fun s hs => by simp [PL.empty] at hs
theorem oks_learn {m : PL} (h : m.OkS) (p e : Int) : (m.learn p e).1.OkS := by
  unfold PL.OkS
  rw [(learn_rows m p e).1, (learn_rows m p e).2]
  exact h
theorem oks_endd {m : PL} (h : m.OkS) (p e t : Int) (c : Bool) : (m.endd p e t c).1.OkS := by
  unfold PL.endd
  obtain ⟨kk, hkk, hk2⟩ : ∃ kk : Int, (if c = true then (2 : Int) else 3) = kk ∧ (kk = 2 ∨ kk = 3) := by cases c <;> exact ⟨_, rfl, by simp⟩
  rw [hkk]
  split
  · exact h
  · rename_i h1
    split
    · intro s hs
      rcases List.mem_append.1 hs with hs | hs
      · exact h s hs
      · simp at hs
        subst hs
        simp at h1
        exact ⟨h1.1, h1.2, .inr hk2⟩
    · split
      · exact h
      · intro s hs
        simp only at hs
        obtain ⟨i, hi, rfl⟩ := List.mem_iff_getElem.1 hs
        rw [List.getElem_modify]
        have h0 := h _ (List.getElem_mem (by simpa using hi))
        split
        · exact ⟨h0.1, h0.2.1, .inr hk2⟩
        · exact h0
theorem oks_append {m : PL} (h : m.OkS) (r : Rec) : (m.append r).1.OkS := by
  unfold PL.append
  split
  · exact h
  split
  · exact h
  split
  · exact h
  split
  · exact h
  split
  · split <;> exact h
  rename_i c1 _ _ _ _ hf
  split
  · exact h
  split
  · exact h
  split
  · exact h
  intro s hs
  have hm : ∀ s ∈ m.spans, SpnOk (m.recs ++ [r]).length s := fun s hs => by
    obtain ⟨h1, h2, h3⟩ := h s hs
    refine ⟨h1, h2, ?_⟩
    simp only [List.length_append, List.length_singleton]
    omega
  simp only at hs ⊢
  split at hs
  · rcases List.mem_append.1 hs with hs | hs
    · exact hm s hs
    · simp at hs
      subst hs
      simp [PL.isRec] at c1
      refine ⟨c1.1, c1.2.1, .inl ⟨rfl, by simp, by simp; omega⟩⟩
  · exact hm s hs
theorem oks_doing {m : PL} (h : m.OkS) (a : Doing) : (m.doing a).1.OkS := by
  unfold PL.doing
  split
  · exact oks_learn h _ _
  · split
    · exact oks_append h _
    · exact oks_endd h _ _ _ _
theorem fold_min (l : List Spn) (a : Int) : l.foldl (fun a s => if s.k = 0 then min a s.f else a) a ≤ a ∧ (∀ s ∈ l, s.k = 0 → l.foldl (fun a s => if s.k = 0 then min a s.f else a) a ≤ s.f) ∧
    (l.foldl (fun a s => if s.k = 0 then min a s.f else a) a = a ∨ ∃ s ∈ l, s.k = 0 ∧ s.f = l.foldl (fun a s => if s.k = 0 then min a s.f else a) a) := by
  induction l generalizing a with
  | nil => exact ⟨Int.le_refl _, (fun s hs => by cases hs), .inl rfl⟩
  | cons x l ih =>
    rw [List.foldl_cons]
    by_cases hx : x.k = 0
    · rw [if_pos hx]
      obtain ⟨h1, h2, h3⟩ := ih (min a x.f)
      refine ⟨by omega, fun s hs hk => ?_, ?_⟩
      · rcases List.mem_cons.1 hs with rfl | hs
        · omega
        · exact h2 s hs hk
      · rcases h3 with h3 | ⟨s, hs, hk, h3⟩
        · by_cases hle : a ≤ x.f
          · left; omega
          · right; exact ⟨x, List.mem_cons_self .., hx, by omega⟩
        · exact .inr ⟨s, List.mem_cons_of_mem _ hs, hk, h3⟩
    · rw [if_neg hx]
      obtain ⟨h1, h2, h3⟩ := ih a
      refine ⟨h1, fun s hs hk => ?_, ?_⟩
      · rcases List.mem_cons.1 hs with rfl | hs
        · exact absurd hk hx
        · exact h2 s hs hk
      · rcases h3 with h3 | ⟨s, hs, hk, h3⟩
        · exact .inl h3
        · exact .inr ⟨s, List.mem_cons_of_mem _ hs, hk, h3⟩
theorem stable_le (m : PL) : m.stable ≤ m.recs.length := (fold_min m.spans _).1
theorem stable_open (m : PL) : ∀ s ∈ m.spans, s.k = 0 → m.stable ≤ s.f := (fold_min m.spans _).2.1
theorem stable_at (m : PL) : m.stable = m.recs.length ∨ ∃ s ∈ m.spans, s.k = 0 ∧ s.f = m.stable := (fold_min m.spans _).2.2
theorem stable_pos {m : PL} (h : m.OkS) : 0 ≤ m.stable := by
  rcases stable_at m with e | ⟨s, hs, hk, e⟩
  · omega
  · obtain ⟨_, _, h3⟩ := h s hs
    omega
theorem any_take {α : Type} {p : α → Bool} {l : List α} {k : Nat} (h : k < l.length) : (l.take (k + 1)).any p = ((l.take k).any p || p l[k]) := by
  rw [List.take_succ_eq_append_getElem h, List.any_append]
  simp
def atS (m : PL) (k : Nat) : Bool := decide (m.stable = m.recs.length) || (m.spans.take k).any fun s => decide (s.k = 0) && decide (s.f = m.stable)
theorem atS_all (m : PL) : atS m m.spans.length = true := by
  unfold atS
  rw [List.take_length]
  rcases stable_at m with h | ⟨s, hs, hk, h⟩
  · simp [h]
  · simp only [Bool.or_eq_true, List.any_eq_true]
    exact .inr ⟨s, hs, by simp [hk, h]⟩
theorem atS_succ (m : PL) (k : Nat) (h : k < m.spans.length) : atS m (k + 1) = (atS m k || (decide (m.spans[k].k = 0) && decide (m.spans[k].f = m.stable))) := by
  unfold atS
  rw [any_take h, Bool.or_assoc]
attribute [local irreducible] wpList Code.wp GW Calls
set_option maxRecDepth 100000 in
set_option maxHeartbeats 8000000 in
theorem PlogStable_any (w : World) (A : Option Addr) (n c : Nat) (l : List Doing) (vs : List Value) (h : DoR w A n l vs) (hn : n ≤ 2000000000000) : Calls Try.prog 6 #[.slice A n c] w fun e w' => e = .returned (.bool true) ∧ Grow w noOwn w' := by
  have hM := Mem.nil w noOwn
  go_enter Try.func6, Try.ntmps6
  go_wp2_with (first
    | (go_at_call 13; refine (long_any w A n c l vs h hn).mono ?_; rintro e1 w1 ⟨b, rfl, rfl⟩; cases b)
    | (go_at_call 14; refine (New_mem hM).mono ?_; rintro e1 w1 ⟨g, F, rfl, hM1⟩; clear hM; have hM := hM1; clear hM1; (try simp only [List.set_cons_succ, List.set_cons_zero] at hM))
    | (go_at_call 15; refine (NewR_mem hM).mono ?_; rintro e1 w1 ⟨g2, F2, rfl, hM1⟩; clear hM; have hM := hM1; clear hM1; (try simp only [List.set_cons_succ, List.set_cons_zero] at hM)))
  · have HM := hide hM
    go_loopw [5] (fun v wr => ∃ (k : Nat) (m : PL) (F F2 : Nat → Prop), k ≤ n ∧ k ≤ 80 ∧ v = .int .i64 k ∧ Mem w noOwn wr [.res F (LogP F g m), .res F2 (RefP F2 g2 m)] ∧ m.Ok ∧ m.OkS ∧ m.spans.length ≤ k) (fun v _ => n - (intOf v).toNat)
    case atStart => exact ⟨0, PL.empty, F, F2, by omega, by omega, rfl, hM.perm (List.Perm.swap _ _ _), ok_empty, oks_empty, by simp [PL.empty]⟩
    case round =>
      obtain ⟨k, m, F, F2, hk, hk80, rfl, hM, ok, oks, hsl⟩ := hrel
      have hsl' : m.spans.length ≤ 1000000 := by omega
      by_cases hlt : k < n ∧ k < 80
      · obtain ⟨hlt, h80⟩ := hlt
        obtain ⟨a, b, off, D, q, cq, rfl, hO, hqc, hbq, _⟩ := h.one k hlt
        have okm := ok_doing ok a
        have oksm := oks_doing oks a
        have hsm := spans_doing m a
        go_wp2_with (first
          | ((with_reducible refine wl_shape ?_); first | (apply wl_boxa; exact rfl; exact hM; exact rfl; exact rfl; clear hM; intro gg ww hM; simp only [putT, List.set_cons_succ, List.set_cons_zero]) | (apply wl_box1; exact rfl; exact hM; exact rfl; exact rfl; exact rfl; clear hM; intro gg ww hM; simp only [putT, List.set_cons_succ, List.set_cons_zero]) | (apply wl_alloc; exact rfl; exact hM; exact rfl; exact inferInstance; clear hM; intro gg ww hM; simp only [putT, List.set_cons_succ, List.set_cons_zero]) | (apply wl_ld; exact rfl; exact hM; exact rfl; exact rfl; exact inferInstance; exact inferInstance; simp only [putT, List.set_cons_succ, List.set_cons_zero]) | (apply wl_lda; exact rfl; exact hM; exact rfl; exact rfl; exact inferInstance; exact inferInstance; exact inferInstance; exact inferInstance; simp only [putT, List.set_cons_succ, List.set_cons_zero]) | (apply wl_ldr; exact rfl; exact hM; exact rfl; exact rfl; exact inferInstance; exact inferInstance; exact inferInstance; exact inferInstance; simp only [putT, List.set_cons_succ, List.set_cons_zero]) | (apply wl_st; exact rfl; exact hM; exact rfl; exact rfl; exact rfl; exact rfl; exact inferInstance; exact inferInstance; clear hM; intro ww hM; simp only [putT, List.set_cons_succ, List.set_cons_zero]) | (apply wl_sta; exact rfl; exact hM; exact rfl; exact rfl; exact rfl; exact all_oneCell_toArray One.out; exact inferInstance; exact inferInstance; exact inferInstance; clear hM; intro ww hM; simp only [putT, List.set_cons_succ, List.set_cons_zero]) | (apply wl_bs0; exact rfl; exact hM; exact rfl; exact inferInstance; clear hM; intro gg ww hM; simp only [putT, List.set_cons_succ, List.set_cons_zero]) | (apply wl_bs1a; exact rfl; exact hM; exact rfl; exact inferInstance; exact rfl; exact inferInstance; clear hM; intro gg ww hM; simp only [putT, List.set_cons_succ, List.set_cons_zero]) | (apply wl_bs11; exact rfl; exact hM; exact rfl; exact inferInstance; exact rfl; exact rfl; clear hM; intro gg ww hM; simp only [putT, List.set_cons_succ, List.set_cons_zero]) | (apply wl_conv; exact rfl; exact hM; exact rfl; exact rfl; exact inferInstance; exact inferInstance; simp only [putT, List.set_cons_succ, List.set_cons_zero]))
          | (go_at_call 19; refine (act_any w _ noOwn [] _ _ g g2 m hM ok (by omega) a D q cq hqc hbq (fun _ _ _ e => e)).mono ?_; rintro e1 w1 ⟨rfl, F3, F4, hM1⟩; clear hM; have hM := hM1; clear hM1; (try simp only [List.set_cons_succ, List.set_cons_zero] at hM)))
        go_roundw
        case rel => exact ⟨k + 1, (m.doing a).1, F3, F4, by omega, by omega, by go_num, hM, okm, oksm, by omega⟩
        case measure => simp [intOf]; omega
      · have hor : n ≤ k ∨ (k < n ∧ 80 ≤ k) := by omega
        clear hlt
        rcases hor with hge | ⟨h1, hge⟩
        all_goals
          go_wp2_with (first
            | (go_at_call 16; refine (Len_mem 1 hM rfl).mono ?_; rintro e1 w1 ⟨rfl, hg⟩; replace hM := hM.call hg; clear hg)
            | (go_at_call 17; refine (Stable_mem 0 hM rfl hsl').mono ?_; rintro e1 w1 ⟨rfl, hg⟩; replace hM := hM.call hg; clear hg)
            | (go_at_call 18; refine (Spans_pushed 0 hM rfl hsl').mono ?_; rintro e1 w1 ⟨As, cs, rfl, hM1⟩; clear hM; have hM := hM1; clear hM1; (try simp only [List.set_cons_succ, List.set_cons_zero] at hM)))
          have HM2 := hide hM
          have hpos := stable_pos oks
          have hle := stable_le m
          go_loopw [8, 9] (fun u v wr => ∃ (j : Nat) (bb : Bool), j ≤ m.spans.length ∧ u = .bool bb ∧ v = .int .i64 j ∧ bb = atS m j ∧ Mem w noOwn wr [.res (rdF As m.spans.length) (RdP 5 As m.spans.length (spnCells m.spans)), .res F (LogP F g m), .res F2 (RefP F2 g2 m)]) (fun _ v _ => m.spans.length - (intOf v).toNat)
          case atStart => exact ⟨0, _, Nat.zero_le _, rfl, rfl, by simp [atS]; rfl, hM⟩
          case round =>
            obtain ⟨j, bb, hj, rfl, rfl, hbb, hM⟩ := hrel
            by_cases hlt : j < m.spans.length
            · obtain ⟨b, off, rfl⟩ := rd_form (A := As) (n := m.spans.length) (size := 5) (xs := spnCells m.spans) hM (by omega) (by decide)
              have hs := atS_succ m j hlt
              rw [← hbb] at hs
              have ho := stable_open m _ (List.getElem_mem hlt)
              have hget := spnCells_get m.spans j hlt
              obtain ⟨sp, hsp⟩ : ∃ s, s = m.spans[j] := ⟨_, rfl⟩
              rw [← hsp] at hs ho hget
              clear hsp hbb
              obtain ⟨s1, s2, s3, s4, s5⟩ := sp
              have c3 : ∀ (L : List Item) [HasRd L (some ⟨b, off, none⟩) m.spans.length 5 (spnCells m.spans)], Cell w noOwn L ⟨b, off + j * 5 + 3, none⟩ (.int .i64 s4) := fun L hL => rd_cell hL (by decide) (j * 5 + 3) (by omega) (by omega) ((hget 3 (by omega)).trans rfl)
              have c4 : ∀ (L : List Item) [HasRd L (some ⟨b, off, none⟩) m.spans.length 5 (spnCells m.spans)], Cell w noOwn L ⟨b, off + j * 5 + 4, none⟩ (.int .i64 s5) := fun L hL => rd_cell hL (by decide) (j * 5 + 4) (by omega) (by omega) ((hget 4 (by omega)).trans rfl)
              simp only at hs ho
              by_cases h5 : s5 = 0
              · subst h5
                have ho' := ho rfl
                cases bb
                all_goals
                  go_wp2_with ((with_reducible refine wl_shape ?_); first | (apply wl_boxa; exact rfl; exact hM; exact rfl; exact rfl; clear hM; intro gg ww hM; simp only [putT, List.set_cons_succ, List.set_cons_zero]) | (apply wl_box1; exact rfl; exact hM; exact rfl; exact rfl; exact rfl; clear hM; intro gg ww hM; simp only [putT, List.set_cons_succ, List.set_cons_zero]) | (apply wl_alloc; exact rfl; exact hM; exact rfl; exact inferInstance; clear hM; intro gg ww hM; simp only [putT, List.set_cons_succ, List.set_cons_zero]) | (apply wl_ld; exact rfl; exact hM; exact rfl; exact rfl; exact inferInstance; exact inferInstance; simp only [putT, List.set_cons_succ, List.set_cons_zero]) | (apply wl_lda; exact rfl; exact hM; exact rfl; exact rfl; exact inferInstance; exact inferInstance; exact inferInstance; exact inferInstance; simp only [putT, List.set_cons_succ, List.set_cons_zero]) | (apply wl_ldr; exact rfl; exact hM; exact rfl; exact rfl; exact inferInstance; exact inferInstance; exact inferInstance; exact inferInstance; simp only [putT, List.set_cons_succ, List.set_cons_zero]) | (apply wl_st; exact rfl; exact hM; exact rfl; exact rfl; exact rfl; exact rfl; exact inferInstance; exact inferInstance; clear hM; intro ww hM; simp only [putT, List.set_cons_succ, List.set_cons_zero]) | (apply wl_sta; exact rfl; exact hM; exact rfl; exact rfl; exact rfl; exact all_oneCell_toArray One.out; exact inferInstance; exact inferInstance; exact inferInstance; clear hM; intro ww hM; simp only [putT, List.set_cons_succ, List.set_cons_zero]) | (apply wl_bs0; exact rfl; exact hM; exact rfl; exact inferInstance; clear hM; intro gg ww hM; simp only [putT, List.set_cons_succ, List.set_cons_zero]) | (apply wl_bs1a; exact rfl; exact hM; exact rfl; exact inferInstance; exact rfl; exact inferInstance; clear hM; intro gg ww hM; simp only [putT, List.set_cons_succ, List.set_cons_zero]) | (apply wl_bs11; exact rfl; exact hM; exact rfl; exact inferInstance; exact rfl; exact rfl; clear hM; intro gg ww hM; simp only [putT, List.set_cons_succ, List.set_cons_zero]) | (apply wl_conv; exact rfl; exact hM; exact rfl; exact rfl; exact inferInstance; exact inferInstance; simp only [putT, List.set_cons_succ, List.set_cons_zero]))
                  go_roundw
                  case rel => exact ⟨j + 1, _, by omega, rfl, by go_num, by (rw [hs]; simp; try rfl), hM⟩
                  case measure => simp [intOf]; omega
              · have e5 : (s5 == 0) = false := by simpa using h5
                cases bb
                all_goals
                  go_wp2_with (first | ((with_reducible refine wl_shape ?_); first | (apply wl_boxa; exact rfl; exact hM; exact rfl; exact rfl; clear hM; intro gg ww hM; simp only [putT, List.set_cons_succ, List.set_cons_zero]) | (apply wl_box1; exact rfl; exact hM; exact rfl; exact rfl; exact rfl; clear hM; intro gg ww hM; simp only [putT, List.set_cons_succ, List.set_cons_zero]) | (apply wl_alloc; exact rfl; exact hM; exact rfl; exact inferInstance; clear hM; intro gg ww hM; simp only [putT, List.set_cons_succ, List.set_cons_zero]) | (apply wl_ld; exact rfl; exact hM; exact rfl; exact rfl; exact inferInstance; exact inferInstance; simp only [putT, List.set_cons_succ, List.set_cons_zero]) | (apply wl_lda; exact rfl; exact hM; exact rfl; exact rfl; exact inferInstance; exact inferInstance; exact inferInstance; exact inferInstance; simp only [putT, List.set_cons_succ, List.set_cons_zero]) | (apply wl_ldr; exact rfl; exact hM; exact rfl; exact rfl; exact inferInstance; exact inferInstance; exact inferInstance; exact inferInstance; simp only [putT, List.set_cons_succ, List.set_cons_zero]) | (apply wl_st; exact rfl; exact hM; exact rfl; exact rfl; exact rfl; exact rfl; exact inferInstance; exact inferInstance; clear hM; intro ww hM; simp only [putT, List.set_cons_succ, List.set_cons_zero]) | (apply wl_sta; exact rfl; exact hM; exact rfl; exact rfl; exact rfl; exact all_oneCell_toArray One.out; exact inferInstance; exact inferInstance; exact inferInstance; clear hM; intro ww hM; simp only [putT, List.set_cons_succ, List.set_cons_zero]) | (apply wl_bs0; exact rfl; exact hM; exact rfl; exact inferInstance; clear hM; intro gg ww hM; simp only [putT, List.set_cons_succ, List.set_cons_zero]) | (apply wl_bs1a; exact rfl; exact hM; exact rfl; exact inferInstance; exact rfl; exact inferInstance; clear hM; intro gg ww hM; simp only [putT, List.set_cons_succ, List.set_cons_zero]) | (apply wl_bs11; exact rfl; exact hM; exact rfl; exact inferInstance; exact rfl; exact rfl; clear hM; intro gg ww hM; simp only [putT, List.set_cons_succ, List.set_cons_zero]) | (apply wl_conv; exact rfl; exact hM; exact rfl; exact rfl; exact inferInstance; exact inferInstance; simp only [putT, List.set_cons_succ, List.set_cons_zero])) | (rw [e5]))
                  go_roundw
                  case rel => exact ⟨j + 1, _, by omega, rfl, by go_num, by rw [hs]; simp [h5], hM⟩
                  case measure => simp [intOf]; omega
            · have e : j = m.spans.length := by omega
              subst e
              rw [atS_all] at hbb
              subst hbb
              go_wp2_with (first | (go_at_call 16; refine (Len_mem 1 hM rfl).mono ?_; rintro e1 w1 ⟨rfl, hg⟩; replace hM := hM.call hg; clear hg) | (go_at_call 20; refine (known_any _).mono ?_; rintro e1 w1 ⟨rfl, hg⟩; replace hM := hM.call hg; clear hg))
              go_ret
              exact ⟨rfl, hM.grow⟩
  · go_ret
    exact ⟨rfl, hM.grow⟩
end Go.Proofs.Ytfecapcjocomkaa
