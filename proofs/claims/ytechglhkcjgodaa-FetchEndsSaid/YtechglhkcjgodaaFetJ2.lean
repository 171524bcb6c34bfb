/- plog: a copy of the transactions is new. fetch: the committed transactions as a set; the closures. fetch.Any, fetch.Committed. -/
import Derived.Test.YtechglhkcjgodaaPlogS
import Derived.Test.YtechglhkcjgodaaFetJ1
import Derived.Test.YtechglhkcjgodaaSMap
namespace Go.Proofs.Ytechglhkcjgodaa
section
open Go.RowKit Go.MapKept
set_option linter.unusedSimpArgs false
set_option linter.unusedVariables false

/-- slices.Clone of transactions: into a block of its own. -/
theorem CloneS_new (w : World) (n c : Nat) (A : Option Addr) (xs : List Value) (hx : xs.length = n * 5) (hb : Reads w w.heap.size 5 A n xs) (h1 : ∀ u ∈ xs, u.oneCell' = true) (hn : n ≤ 2000000000000) :
    Calls Try.prog 41 #[.slice A n c] w fun e w' => (∃ A' c', e = .returned (.slice A' n c') ∧ Reads w' w'.heap.size 5 A' n xs ∧ ∀ g, A' = some g → w.heap.size ≤ g.block) ∧ Grow w noOwn w' := by
  have hM := Mem.nil w noOwn
  cases A with
  | none =>
    have hn0 : n = 0 := by
      rcases Nat.eq_zero_or_pos n with h | h
      · exact h
      · obtain ⟨ad, e, _⟩ := hb.2 h; cases e
    subst hn0
    go_enter Try.func41, Try.ntmps41
    go_wp2
    go_ret
    exact ⟨⟨none, 0, rfl, by simpa using hb, by simp⟩, hM.grow⟩
  | some ad =>
    go_enter Try.func41, Try.ntmps41
    go_wp2_with (first
      | (refine wpList_buildSlice_row rfl 36 0 #[] rfl hM 39 Try.underlying36 _ 5 40 spnrow (by omega) (by omega) [] (by simp [slCells, Instr.fill]) rfl ?_; clear hM; intro g1 w1 hM)
      | (refine wpList_append_row rfl _ _ 36 rfl hM 0 _ 39 5 0 [] rfl rfl Try.underlying36 _ 40 spnrow rfl (by decide) w.heap.size (some ad) n c xs rfl (hM.reads hb (Nat.le_refl _) (fun _ _ e => e)) h1 (by unfold maxLen; omega) (by omega) n (by omega) xs (by simp) ?_; clear hM; intro A2 c2 w2 hM))
    have hrow := hM.row 0 rfl
    go_ret
    refine ⟨⟨A2, c2, rfl, Reads.of_own hrow, fun g hg => ?_⟩, hM.grow⟩
    subst hg
    exact (hM.own_ 0 rfl rfl).resolve_left (fun e => e)
theorem Spans_new (w : World) (g gm : Nat) (A B : Option Addr) (ca cb : Nat) (m : PL) (vs : List Value) (h : LogR w g gm A B ca cb m vs) (hs : m.spans.length ≤ 2000000000000) :
    Calls Try.prog 18 #[.pointer (some ⟨g, 0, none⟩)] w fun x w' => (∃ A' c', x = .returned (.slice A' m.spans.length c') ∧ Reads w' w'.heap.size 5 A' m.spans.length (spnCells m.spans) ∧ ∀ g, A' = some g → w.heap.size ≤ g.block) ∧ Grow w noOwn w' := by
  have c0 := h.blk.cell 1
  go_enter Try.func18, Try.ntmps18
  go_wp2_with (go_at_call 41; refine (CloneS_new w _ cb B _ (spnCells_length _) h.spans (oneCells_spn _) hs).mono ?_; rintro e w1 ⟨⟨A1, c1, rfl, hr, hc⟩, hg⟩)
  go_ret
  exact ⟨⟨A1, c1, rfl, hr, hc⟩, hg⟩
/-- A slice of things that are read, in a block of its own. -/
def RdP (size : Nat) (A : Option Addr) (n : Nat) (xs : List Value) (w : World) : Prop := Reads w w.heap.size size A n xs
def rdF (A : Option Addr) (n : Nat) (i : Nat) : Prop := 0 < n ∧ ∃ ad, A = some ad ∧ ad.block = i
theorem RdP.stays (size : Nat) (A : Option Addr) (n : Nat) (xs : List Value) : Stays (rdF A n) (RdP size A n xs) := by
  rintro w1 w2 hl hk h
  refine ⟨h.1, fun hn => ?_⟩
  obtain ⟨ad, e, hb, hc⟩ := h.2 hn
  have h1 := hk ad.block ⟨hn, ad, e, rfl⟩
  exact ⟨ad, e, lt_of_same hb h1, fun j u hu => (World.cell?_of_block (by rw [block_of_add]; exact h1)).trans (hc j u hu)⟩
class HasRd (L : List Item) (A : Option Addr) (n size : Nat) (xs : List Value) : Prop where out : Item.res (rdF A n) (RdP size A n xs) ∈ L
instance {L : List Item} {A : Option Addr} {n size : Nat} {xs : List Value} : HasRd (.res (rdF A n) (RdP size A n xs) :: L) A n size xs := ⟨List.mem_cons_self ..⟩
instance (priority := low) {L : List Item} {x : Item} {A : Option Addr} {n size : Nat} {xs : List Value} [h : HasRd L A n size xs] : HasRd (x :: L) A n size xs := ⟨List.mem_cons_of_mem _ h.out⟩
theorem rd_push {w0 w w' : World} {own : Nat → Prop} {L : List Item} (hM : Mem w0 own w L) (hg : Grow w noOwn w') {A : Option Addr} {n size : Nat} {xs : List Value} (hr : Reads w' w'.heap.size size A n xs) (hn : ∀ g, A = some g → w.heap.size ≤ g.block) :
    Mem w0 own w' (.res (rdF A n) (RdP size A n xs) :: L) :=
  hM.push (hM.grow.then_ hg) (fun k hk => hg.block k hk (fun e => e)) ⟨fun i hi => by
    obtain ⟨hn0, ad, e, rfl⟩ := hi
    obtain ⟨ad', e', hb, _⟩ := hr.2 hn0
    rw [e] at e'; injection e' with e'; subst e'; exact hb, hr, RdP.stays _ _ _ _⟩ (fun i hi => by
    obtain ⟨hn0, ad, e, rfl⟩ := hi
    exact hn ad e)
theorem rd_cell {w0 : World} {own : Nat → Prop} {L : List Item} {b off n size : Nat} {xs : List Value} (h : HasRd L (some ⟨b, off, none⟩) n size xs) (hs : 0 < size) (j : Nat) (hj : j < n * size) {o : Nat} {u : Value} (ho : o = off + j) (hu : xs[j]? = some u) : Cell w0 own L ⟨b, o, none⟩ u := ⟨fun w hM => by
  have hx : Item.at_ w (.res (rdF (some ⟨b, off, none⟩) n) (RdP size (some ⟨b, off, none⟩) n xs)) := hM.has _ h.out
  have hn : 0 < n := Nat.pos_of_ne_zero (fun e => by rw [e] at hj; omega)
  obtain ⟨b', off', e, _, hc⟩ := Reads.form hx.2.1 hn hs
  injection e with e
  injection e with e1 e2 _
  subst e1; subst e2; subst ho
  exact hc j u hu⟩
theorem rd_form {w0 w : World} {own : Nat → Prop} {L : List Item} {A : Option Addr} {n size : Nat} {xs : List Value} (hM : Mem w0 own w L) [h : HasRd L A n size xs] (hn : 0 < n) (hs : 0 < size) : ∃ b off, A = some ⟨b, off, none⟩ := by
  have hx : Item.at_ w (.res (rdF A n) (RdP size A n xs)) := hM.has _ h.out
  obtain ⟨b, off, e, _⟩ := Reads.form hx.2.1 hn hs
  exact ⟨b, off, e⟩
theorem Spans_pushed {w0 w : World} {own : Nat → Prop} {L : List Item} {g : Nat} {F : Nat → Prop} {m : PL} (i : Nat) (hM : Mem w0 own w L) (hi : L[i]? = some (.res F (LogP F g m))) (hsl : m.spans.length ≤ 1000000) : Calls Try.prog 18 #[.pointer (some ⟨g, 0, none⟩)] w fun x w' => ∃ A' c', x = .returned (.slice A' m.spans.length c') ∧ Mem w0 own w' (.res (rdF A' m.spans.length) (RdP 5 A' m.spans.length (spnCells m.spans)) :: L) := by
  obtain ⟨S, V, ⟨gm, A, B, ca, cb, vs, h⟩, hF⟩ := hM.logP hi
  exact (Spans_new w g gm A B ca cb m vs h.read (by omega)).mono fun x w' ⟨⟨A', c', hx, hr, hn⟩, hs⟩ => ⟨A', c', hx, rd_push hM hs hr hn⟩
end
section
open Go.RowKit Go.MapKept
set_option linter.unusedSimpArgs false
set_option linter.unusedVariables false
/-- Which transactions were committed. -/
def comS (l : List Spn) (p e t : Int) : Bool := l.any (fun s => decide (s.p = p) && decide (s.e = e) && decide (s.t = t) && decide (s.k = 2))
theorem comS_snoc (l : List Spn) (s : Spn) : comS (l ++ [s]) = fun p e t => comS l p e t || (decide (s.p = p) && decide (s.e = e) && decide (s.t = t) && decide (s.k = 2)) := by
  funext p e t
  simp [comS]
theorem comS_add {l : List Spn} {s : Spn} (h : s.k = 2) : comS (l ++ [s]) = fun x y z => comS l x y z || decide (x = s.p ∧ y = s.e ∧ z = s.t) := by
  have key : ∀ (a b c x y z : Int), (decide (a = x) && decide (b = y) && decide (c = z) && decide ((2 : Int) = 2)) = decide (x = a ∧ y = b ∧ z = c) := by
    intro a b c x y z
    rw [Bool.eq_iff_iff]
    simp only [Bool.and_eq_true, decide_eq_true_eq, and_true]
    constructor <;> (intro h; omega)
  rw [comS_snoc]
  funext x y z
  rw [h, key]
theorem comS_skip {l : List Spn} {s : Spn} (h : s.k ≠ 2) : comS (l ++ [s]) = comS l := by
  rw [comS_snoc]
  funext x y z
  simp [h]
theorem key3_txn : Key3 Try.prog 76 := ⟨by kernel_rfl, by kernel_rfl, _, _, _, rfl, ⟨by decide, by decide, by decide⟩, ⟨rfl, rfl, rfl⟩, Try.underlying3, Try.underlying3, Try.underlying3⟩
attribute [local irreducible] wpList Code.wp GW Calls
set_option maxRecDepth 100000 in
set_option maxHeartbeats 4000000 in
theorem AnyC_any (w : World) (r : Rec) (D : Option Addr) (c : Nat) : Calls Try.prog 39 #[.agg (recVals r (.slice D r.v.length c)).toArray] w fun e w' => e = .returned (.bool true) ∧ Grow w noOwn w' := by
  have hM := Mem.nil w noOwn
  go_enter Try.func39, Try.ntmps39
  go_wp2_with ((with_reducible refine wl_shape ?_); first | (apply wl_boxa; exact rfl; exact hM; exact rfl; exact rfl; clear hM; intro gg ww hM; simp only [putT, List.set_cons_succ, List.set_cons_zero]) | (apply wl_box1; exact rfl; exact hM; exact rfl; exact rfl; exact rfl; clear hM; intro gg ww hM; simp only [putT, List.set_cons_succ, List.set_cons_zero]) | (apply wl_alloc; exact rfl; exact hM; exact rfl; exact inferInstance; clear hM; intro gg ww hM; simp only [putT, List.set_cons_succ, List.set_cons_zero]) | (apply wl_ld; exact rfl; exact hM; exact rfl; exact rfl; exact inferInstance; exact inferInstance; simp only [putT, List.set_cons_succ, List.set_cons_zero]) | (apply wl_lda; exact rfl; exact hM; exact rfl; exact rfl; exact inferInstance; exact inferInstance; exact inferInstance; exact inferInstance; simp only [putT, List.set_cons_succ, List.set_cons_zero]) | (apply wl_ldr; exact rfl; exact hM; exact rfl; exact rfl; exact inferInstance; exact inferInstance; exact inferInstance; exact inferInstance; simp only [putT, List.set_cons_succ, List.set_cons_zero]) | (apply wl_st; exact rfl; exact hM; exact rfl; exact rfl; exact rfl; exact rfl; exact inferInstance; exact inferInstance; clear hM; intro ww hM; simp only [putT, List.set_cons_succ, List.set_cons_zero]) | (apply wl_sta; exact rfl; exact hM; exact rfl; exact rfl; exact rfl; exact all_oneCell_toArray One.out; exact inferInstance; exact inferInstance; exact inferInstance; clear hM; intro ww hM; simp only [putT, List.set_cons_succ, List.set_cons_zero]) | (apply wl_bs0; exact rfl; exact hM; exact rfl; exact inferInstance; clear hM; intro gg ww hM; simp only [putT, List.set_cons_succ, List.set_cons_zero]) | (apply wl_bs1a; exact rfl; exact hM; exact rfl; exact inferInstance; exact rfl; exact inferInstance; clear hM; intro gg ww hM; simp only [putT, List.set_cons_succ, List.set_cons_zero]) | (apply wl_bs11; exact rfl; exact hM; exact rfl; exact inferInstance; exact rfl; exact rfl; clear hM; intro gg ww hM; simp only [putT, List.set_cons_succ, List.set_cons_zero]) | (apply wl_conv; exact rfl; exact hM; exact rfl; exact rfl; exact inferInstance; exact inferInstance; simp only [putT, List.set_cons_succ, List.set_cons_zero]))
  go_ret
  exact ⟨rfl, hM.grow⟩
theorem wpList_lookup3_old {P : Program} {ops : Array Oper} {rest : List Oper} {o : Oper} {a : Act} {w w0 : World} {L : List Item} {Q : Exit → Act → World → Prop} (hgd : Region.wanted o (yielded ops a.tmps) = true) (T : TypeId) (x y : Operand) (ho : o.op = .lookup T x y false) (hM : Mem w0 noOwn w L) (g : Nat) (S : Int → Int → Int → Bool) {ob : Obj} (hb : w0.heap[g]? = some ob) (hf : IsSet3 S ob)
    (K E : TypeId) (hT : P.underlying T = some (.map K E)) (hK : Key3 P K) (hz : (P.info? E).bind (·.zero) = some (.bool false)) (hx : a.eval x = .map (some g)) (k1 k2 k3' : Int) (hy : a.eval y = k3 k1 k2 k3')
    (h : wpList P ops Q rest (a.put o.dst (.bool (S k1 k2 k3'))) w) : wpList P ops Q (o :: rest) a w :=
  BigFrame.wpList_want hgd fun K1 hK1 => by
    have hob : w.heap[g]? = some ob := (hM.grow.block g (Array.getElem?_eq_some_iff.1 hb).1 (fun e => e)).trans hb
    unfold Oper.wp execOp
    simp only [ho, hx, hy, Sem.run_bind, run_lookup3 hT hK hz hob hf k1 k2 k3', Result.andThen_ok, Sem.run_pure]
    exact hK1 _ _ h
set_option maxRecDepth 100000 in
set_option maxHeartbeats 4000000 in
theorem ComC_any {w0 w : World} {own : Nat → Prop} {X : List Item} {b8 gm : Nat} {S : Int → Int → Int → Bool} (hM0 : Mem w0 own w (.blk b8 72 #[.map (some gm)] :: .obj gm (IsSet3 S) :: X)) (r : Rec) (D : Option Addr) (c : Nat) :
    Calls Try.prog 38 (#[.agg (recVals r (.slice D r.v.length c)).toArray] ++ #[.pointer (some ⟨b8, 0, none⟩)]) w fun e w' => e = .returned (.bool (S r.p r.e r.t)) ∧ Grow w noOwn w' := by
  have i8 : Old w noOwn ⟨b8, 0, none⟩ (.map (some gm)) := old_no (hM0.cell 0 rfl 0)
  obtain ⟨ob, hob, hS⟩ : (Item.obj gm (IsSet3 S)).at_ w := hM0.at_ 1 rfl
  have hM := Mem.nil w noOwn
  go_enter Try.func38, Try.ntmps38
  go_wp2_with (first
    | ((with_reducible refine wl_shape ?_); first | (apply wl_boxa; exact rfl; exact hM; exact rfl; exact rfl; clear hM; intro gg ww hM; simp only [putT, List.set_cons_succ, List.set_cons_zero]) | (apply wl_box1; exact rfl; exact hM; exact rfl; exact rfl; exact rfl; clear hM; intro gg ww hM; simp only [putT, List.set_cons_succ, List.set_cons_zero]) | (apply wl_alloc; exact rfl; exact hM; exact rfl; exact inferInstance; clear hM; intro gg ww hM; simp only [putT, List.set_cons_succ, List.set_cons_zero]) | (apply wl_ld; exact rfl; exact hM; exact rfl; exact rfl; exact inferInstance; exact inferInstance; simp only [putT, List.set_cons_succ, List.set_cons_zero]) | (apply wl_lda; exact rfl; exact hM; exact rfl; exact rfl; exact inferInstance; exact inferInstance; exact inferInstance; exact inferInstance; simp only [putT, List.set_cons_succ, List.set_cons_zero]) | (apply wl_ldr; exact rfl; exact hM; exact rfl; exact rfl; exact inferInstance; exact inferInstance; exact inferInstance; exact inferInstance; simp only [putT, List.set_cons_succ, List.set_cons_zero]) | (apply wl_st; exact rfl; exact hM; exact rfl; exact rfl; exact rfl; exact rfl; exact inferInstance; exact inferInstance; clear hM; intro ww hM; simp only [putT, List.set_cons_succ, List.set_cons_zero]) | (apply wl_sta; exact rfl; exact hM; exact rfl; exact rfl; exact rfl; exact all_oneCell_toArray One.out; exact inferInstance; exact inferInstance; exact inferInstance; clear hM; intro ww hM; simp only [putT, List.set_cons_succ, List.set_cons_zero]) | (apply wl_bs0; exact rfl; exact hM; exact rfl; exact inferInstance; clear hM; intro gg ww hM; simp only [putT, List.set_cons_succ, List.set_cons_zero]) | (apply wl_bs1a; exact rfl; exact hM; exact rfl; exact inferInstance; exact rfl; exact inferInstance; clear hM; intro gg ww hM; simp only [putT, List.set_cons_succ, List.set_cons_zero]) | (apply wl_bs11; exact rfl; exact hM; exact rfl; exact inferInstance; exact rfl; exact rfl; clear hM; intro gg ww hM; simp only [putT, List.set_cons_succ, List.set_cons_zero]) | (apply wl_conv; exact rfl; exact hM; exact rfl; exact rfl; exact inferInstance; exact inferInstance; simp only [putT, List.set_cons_succ, List.set_cons_zero]))
    | (refine wpList_lookup3_old rfl 72 _ _ rfl hM gm S hob hS 76 4 Try.underlying72 key3_txn (by kernel_rfl) rfl r.p r.e r.t rfl ?_))
  go_ret
  exact ⟨rfl, hM.grow⟩
set_option maxRecDepth 100000 in
set_option maxHeartbeats 8000000 in
theorem committed_any {w0 w : World} {own : Nat → Prop} {L : List Item} {g : Nat} {F : Nat → Prop} {m : PL} (hM : Mem w0 own w (.res F (LogP F g m) :: L)) (hsl' : m.spans.length ≤ 1000000) :
    Calls Try.prog 35 #[.pointer (some ⟨g, 0, none⟩)] w fun e w' => ∃ gm, e = .returned (.map (some gm)) ∧ Mem w0 own w' (.obj gm (IsSet3 (comS m.spans)) :: .res F (LogP F g m) :: L) := by
  go_enter Try.func35, Try.ntmps35
  go_wp2_with (first
    | ((with_reducible refine wl_shape ?_); first | (apply wl_boxa; exact rfl; exact hM; exact rfl; exact rfl; clear hM; intro gg ww hM; simp only [putT, List.set_cons_succ, List.set_cons_zero]) | (apply wl_box1; exact rfl; exact hM; exact rfl; exact rfl; exact rfl; clear hM; intro gg ww hM; simp only [putT, List.set_cons_succ, List.set_cons_zero]) | (apply wl_alloc; exact rfl; exact hM; exact rfl; exact inferInstance; clear hM; intro gg ww hM; simp only [putT, List.set_cons_succ, List.set_cons_zero]) | (apply wl_ld; exact rfl; exact hM; exact rfl; exact rfl; exact inferInstance; exact inferInstance; simp only [putT, List.set_cons_succ, List.set_cons_zero]) | (apply wl_lda; exact rfl; exact hM; exact rfl; exact rfl; exact inferInstance; exact inferInstance; exact inferInstance; exact inferInstance; simp only [putT, List.set_cons_succ, List.set_cons_zero]) | (apply wl_ldr; exact rfl; exact hM; exact rfl; exact rfl; exact inferInstance; exact inferInstance; exact inferInstance; exact inferInstance; simp only [putT, List.set_cons_succ, List.set_cons_zero]) | (apply wl_st; exact rfl; exact hM; exact rfl; exact rfl; exact rfl; exact rfl; exact inferInstance; exact inferInstance; clear hM; intro ww hM; simp only [putT, List.set_cons_succ, List.set_cons_zero]) | (apply wl_sta; exact rfl; exact hM; exact rfl; exact rfl; exact rfl; exact all_oneCell_toArray One.out; exact inferInstance; exact inferInstance; exact inferInstance; clear hM; intro ww hM; simp only [putT, List.set_cons_succ, List.set_cons_zero]) | (apply wl_bs0; exact rfl; exact hM; exact rfl; exact inferInstance; clear hM; intro gg ww hM; simp only [putT, List.set_cons_succ, List.set_cons_zero]) | (apply wl_bs1a; exact rfl; exact hM; exact rfl; exact inferInstance; exact rfl; exact inferInstance; clear hM; intro gg ww hM; simp only [putT, List.set_cons_succ, List.set_cons_zero]) | (apply wl_bs11; exact rfl; exact hM; exact rfl; exact inferInstance; exact rfl; exact rfl; clear hM; intro gg ww hM; simp only [putT, List.set_cons_succ, List.set_cons_zero]) | (apply wl_conv; exact rfl; exact hM; exact rfl; exact rfl; exact inferInstance; exact inferInstance; simp only [putT, List.set_cons_succ, List.set_cons_zero]))
    | (refine wpList_makeSet3 rfl 72 rfl hM ?_; clear hM; intro gm w1 hM)
    | (go_at_call 18; refine (Spans_pushed 1 hM rfl hsl').mono ?_; rintro e1 w1 ⟨As, cs, rfl, hM1⟩; clear hM; have hM := hM1; clear hM1; (try simp only [List.set_cons_succ, List.set_cons_zero] at hM)))
  have HM := hide hM
  go_loopw [10] (fun v wr => ∃ j : Nat, j ≤ m.spans.length ∧ v = .int .i64 j ∧ Mem w0 own wr (.obj gm (IsSet3 (comS (m.spans.take j))) :: .res (rdF As m.spans.length) (RdP 5 As m.spans.length (spnCells m.spans)) :: .res F (LogP F g m) :: L)) (fun v _ => m.spans.length - (intOf v).toNat)
  case atStart => exact ⟨0, Nat.zero_le _, rfl, hM.perm (List.Perm.swap _ _ _)⟩
  case round =>
    obtain ⟨j, hj, rfl, hM⟩ := hrel
    by_cases hlt : j < m.spans.length
    · obtain ⟨b, off, rfl⟩ := rd_form (A := As) (n := m.spans.length) (size := 5) (xs := spnCells m.spans) hM (by omega) (by decide)
      have hget := spnCells_get m.spans j hlt
      have htk := List.take_succ_eq_append_getElem hlt
      obtain ⟨sp, hsp⟩ : ∃ s, s = m.spans[j] := ⟨_, rfl⟩
      rw [← hsp] at hget htk
      clear hsp
      have c1 : ∀ (L' : List Item) [HasRd L' (some ⟨b, off, none⟩) m.spans.length 5 (spnCells m.spans)], Rng w0 own L' b (off + j * 5) (spnVals sp) := fun L' h => ⟨fun w hM i v hi => by
        have hi5 : i < 5 := by have := (List.getElem?_eq_some_iff.1 hi).1; simpa [spnVals] using this
        exact (rd_cell h (by decide) (j * 5 + i) (by omega) (by omega) ((hget i hi5).trans hi)).out w hM⟩
      clear hget
      by_cases h2 : sp.k = 2
      · have hst2 := comS_add (l := m.spans.take j) h2
        rw [← htk] at hst2
        have HST := hide hst2
        clear hst2 htk
        go_wp2_with (first
          | ((with_reducible refine wl_shape ?_); first | (apply wl_boxa; exact rfl; exact hM; exact rfl; exact rfl; clear hM; intro gg ww hM; simp only [putT, List.set_cons_succ, List.set_cons_zero]) | (apply wl_box1; exact rfl; exact hM; exact rfl; exact rfl; exact rfl; clear hM; intro gg ww hM; simp only [putT, List.set_cons_succ, List.set_cons_zero]) | (apply wl_alloc; exact rfl; exact hM; exact rfl; exact inferInstance; clear hM; intro gg ww hM; simp only [putT, List.set_cons_succ, List.set_cons_zero]) | (apply wl_ld; exact rfl; exact hM; exact rfl; exact rfl; exact inferInstance; exact inferInstance; simp only [putT, List.set_cons_succ, List.set_cons_zero]) | (apply wl_lda; exact rfl; exact hM; exact rfl; exact rfl; exact inferInstance; exact inferInstance; exact inferInstance; exact inferInstance; simp only [putT, List.set_cons_succ, List.set_cons_zero]) | (apply wl_ldr; exact rfl; exact hM; exact rfl; exact rfl; exact inferInstance; exact inferInstance; exact inferInstance; exact inferInstance; simp only [putT, List.set_cons_succ, List.set_cons_zero]) | (apply wl_st; exact rfl; exact hM; exact rfl; exact rfl; exact rfl; exact rfl; exact inferInstance; exact inferInstance; clear hM; intro ww hM; simp only [putT, List.set_cons_succ, List.set_cons_zero]) | (apply wl_sta; exact rfl; exact hM; exact rfl; exact rfl; exact rfl; exact all_oneCell_toArray One.out; exact inferInstance; exact inferInstance; exact inferInstance; clear hM; intro ww hM; simp only [putT, List.set_cons_succ, List.set_cons_zero]) | (apply wl_bs0; exact rfl; exact hM; exact rfl; exact inferInstance; clear hM; intro gg ww hM; simp only [putT, List.set_cons_succ, List.set_cons_zero]) | (apply wl_bs1a; exact rfl; exact hM; exact rfl; exact inferInstance; exact rfl; exact inferInstance; clear hM; intro gg ww hM; simp only [putT, List.set_cons_succ, List.set_cons_zero]) | (apply wl_bs11; exact rfl; exact hM; exact rfl; exact inferInstance; exact rfl; exact rfl; clear hM; intro gg ww hM; simp only [putT, List.set_cons_succ, List.set_cons_zero]) | (apply wl_conv; exact rfl; exact hM; exact rfl; exact rfl; exact inferInstance; exact inferInstance; simp only [putT, List.set_cons_succ, List.set_cons_zero]))
          | (refine wpList_update3 rfl 72 _ _ _ rfl hM 1 gm _ rfl 76 4 Try.underlying72 key3_txn rfl sp.p sp.e sp.t rfl rfl ?_; clear hM; intro w2 hM; simp only [List.set_cons_succ, List.set_cons_zero] at hM)
          | (rw [h2]))
        go_roundw
        case rel => exact ⟨j + 1, by omega, by go_num, by rw [unhide HST]; exact hM.tail⟩
        case measure => simp [intOf]; omega
      · have hst2 := comS_skip (l := m.spans.take j) h2
        rw [← htk] at hst2
        have HST := hide hst2
        clear hst2 htk
        have e2 : (sp.k == 2) = false := by simpa using h2
        go_wp2_with (first | ((with_reducible refine wl_shape ?_); first | (apply wl_boxa; exact rfl; exact hM; exact rfl; exact rfl; clear hM; intro gg ww hM; simp only [putT, List.set_cons_succ, List.set_cons_zero]) | (apply wl_box1; exact rfl; exact hM; exact rfl; exact rfl; exact rfl; clear hM; intro gg ww hM; simp only [putT, List.set_cons_succ, List.set_cons_zero]) | (apply wl_alloc; exact rfl; exact hM; exact rfl; exact inferInstance; clear hM; intro gg ww hM; simp only [putT, List.set_cons_succ, List.set_cons_zero]) | (apply wl_ld; exact rfl; exact hM; exact rfl; exact rfl; exact inferInstance; exact inferInstance; simp only [putT, List.set_cons_succ, List.set_cons_zero]) | (apply wl_lda; exact rfl; exact hM; exact rfl; exact rfl; exact inferInstance; exact inferInstance; exact inferInstance; exact inferInstance; simp only [putT, List.set_cons_succ, List.set_cons_zero]) | (apply wl_ldr; exact rfl; exact hM; exact rfl; exact rfl; exact inferInstance; exact inferInstance; exact inferInstance; exact inferInstance; simp only [putT, List.set_cons_succ, List.set_cons_zero]) | (apply wl_st; exact rfl; exact hM; exact rfl; exact rfl; exact rfl; exact rfl; exact inferInstance; exact inferInstance; clear hM; intro ww hM; simp only [putT, List.set_cons_succ, List.set_cons_zero]) | (apply wl_sta; exact rfl; exact hM; exact rfl; exact rfl; exact rfl; exact all_oneCell_toArray One.out; exact inferInstance; exact inferInstance; exact inferInstance; clear hM; intro ww hM; simp only [putT, List.set_cons_succ, List.set_cons_zero]) | (apply wl_bs0; exact rfl; exact hM; exact rfl; exact inferInstance; clear hM; intro gg ww hM; simp only [putT, List.set_cons_succ, List.set_cons_zero]) | (apply wl_bs1a; exact rfl; exact hM; exact rfl; exact inferInstance; exact rfl; exact inferInstance; clear hM; intro gg ww hM; simp only [putT, List.set_cons_succ, List.set_cons_zero]) | (apply wl_bs11; exact rfl; exact hM; exact rfl; exact inferInstance; exact rfl; exact rfl; clear hM; intro gg ww hM; simp only [putT, List.set_cons_succ, List.set_cons_zero]) | (apply wl_conv; exact rfl; exact hM; exact rfl; exact rfl; exact inferInstance; exact inferInstance; simp only [putT, List.set_cons_succ, List.set_cons_zero])) | (rw [e2]))
        go_roundw
        case rel => exact ⟨j + 1, by omega, by go_num, by rw [unhide HST]; exact hM.tail⟩
        case measure => simp [intOf]; omega
    · have e : j = m.spans.length := by omega
      subst e
      rw [List.take_length] at hM
      go_wp2
      go_ret
      exact ⟨gm, rfl, hM.sub (List.Sublist.cons_cons _ (List.sublist_cons_self _ _))⟩
end
section
open Go.RowKit Go.MapKept
set_option linter.unusedSimpArgs false
set_option linter.unusedVariables false
theorem Mem.openL {w0 w : World} {own : Nat → Prop} {L : List Item} {F : Nat → Prop} {g : Nat} {m : PL} (hM : Mem w0 own w (.res F (LogP F g m) :: L)) : ∃ gm A B ca cb us S V, Mem w0 own w (.res F (LogE F g gm A B ca cb m us S V) :: L) := by
  obtain ⟨S, V, ⟨gm, A, B, ca, cb, us, h⟩, hF⟩ := hM.logP (i := 0) rfl
  exact ⟨gm, A, B, ca, cb, us, S, V, hM.as (q := LogE F g gm A B ca cb m us S V) ⟨h, hF⟩ (LogE.stays _ _ _ _ _ _ _ _ _ _ _)⟩
theorem Mem.shutL {w0 w : World} {own : Nat → Prop} {L : List Item} {F : Nat → Prop} {g gm : Nat} {A B : Option Addr} {ca cb : Nat} {m : PL} {us : List Value} {S V : Nat → Prop} (hM : Mem w0 own w (.res F (LogE F g gm A B ca cb m us S V) :: L)) : Mem w0 own w (.res F (LogP F g m) :: L) := by
  have hE : LogE F g gm A B ca cb m us S V w := (hM.at_ 0 rfl).2.1
  exact hM.as (q := LogP F g m) ⟨S, V, ⟨gm, A, B, ca, cb, us, hE.1⟩, hE.2⟩ (LogP.stays _ _ _)
/-- From an offset on. -/
def offs (fr : Int) : Nat := (max fr 0).toNat
theorem offs_eq (fr : Int) : max fr 0 = (offs fr : Int) := by unfold offs; omega
/-- What Any reads. -/
def anyF (m : PL) (fr most : Int) : List Rec × Nat := scan (fun _ => true) m.recs.length most (m.recs.drop (offs fr)) (offs fr) []
/-- What Committed reads. -/
def comF (m : PL) (fr most : Int) : List Rec × Nat := scan (fun r => comS m.spans r.p r.e r.t) m.stable most (m.recs.drop (offs fr)) (offs fr) []
theorem rs_bound {m : PL} (ok : m.Ok) (a : Nat) : 0 < (m.recs.drop a).length → a + (m.recs.drop a).length ≤ 1000000 := by
  intro h
  rw [List.length_drop] at h ⊢
  have := ok.len
  omega
attribute [local irreducible] wpList Code.wp GW Calls
set_option maxRecDepth 100000 in
set_option maxHeartbeats 4000000 in
theorem Any_any {w0 w : World} {own : Nat → Prop} {L : List Item} {g : Nat} {F : Nat → Prop} {m : PL} (hM : Mem w0 own w (.res F (LogP F g m) :: L)) (ok : m.Ok) (fr most : Int) :
    Calls Try.prog 13 #[.pointer (some ⟨g, 0, none⟩), .int .i64 fr, .int .i64 most] w fun e w' => ∃ A c vs, e = .returned (.tuple #[.slice A (anyF m fr most).1.length c, .int .i64 ((anyF m fr most).2 : Nat)]) ∧ vs.length = (anyF m fr most).1.length ∧
      Mem w0 own w' (outX A c (anyF m fr most).1 vs ++ (.res F (LogP F g m) :: L)) := by
  obtain ⟨gm, A, B, ca, cb, us, S, V, hM1⟩ := hM.openL
  clear hM
  have hM : Mem w0 own w ([] ++ (.res F (LogE F g gm A B ca cb m us S V) :: L)) := hM1
  have hl : LogR w g gm A B ca cb m us := (log_has (F := F) (S := S) (V := V) inferInstance hM1).read
  clear hM1
  go_enter Try.func13, Try.ntmps13
  go_wp2_with (first
    | (go_at_call 30; refine (Len_any _ g gm _ B ca cb m us hl).mono ?_; rintro e1 w1 ⟨rfl, rfl⟩)
    | (go_at_call 36; refine (read_any hM (some ⟨g, 0, none⟩) fr most m.recs.length 39 #[] (m.recs.drop (offs fr)) (fun _ => true) (offs fr) (offs_eq fr) (rs_bound ok _) (fun args w => run_callFunc Try.func39 (by kernel_rfl) rfl args w) (fun r D c w' X _ => AnyC_any w' r D c) (fun bf bl => iter_log2 ok)).mono ?_; rintro e1 w1 ⟨Ao, co, out, vs, i, rfl, hvs, hs, hM1⟩; clear hM; have hM := hM1; clear hM1; (try simp only [List.set_cons_succ, List.set_cons_zero] at hM)))
  go_ret2
  have hs' : anyF m fr most = (out, i) := hs
  rw [hs']
  exact ⟨Ao, co, vs, rfl, hvs, ((hM.perm List.perm_middle).shutL).perm List.perm_middle.symm⟩
set_option maxRecDepth 100000 in
set_option maxHeartbeats 4000000 in
theorem Committed_any {w0 w : World} {own : Nat → Prop} {L : List Item} {g : Nat} {F : Nat → Prop} {m : PL} (hM : Mem w0 own w (.res F (LogP F g m) :: L)) (ok : m.Ok) (hsl' : m.spans.length ≤ 1000000) (fr most : Int) :
    Calls Try.prog 12 #[.pointer (some ⟨g, 0, none⟩), .int .i64 fr, .int .i64 most] w fun e w' => ∃ A c vs, e = .returned (.tuple #[.slice A (comF m fr most).1.length c, .int .i64 ((comF m fr most).2 : Nat)]) ∧ vs.length = (comF m fr most).1.length ∧
      Mem w0 own w' (outX A c (comF m fr most).1 vs ++ (.res F (LogP F g m) :: L)) := by
  go_enter Try.func12, Try.ntmps12
  go_wp2_with (first
    | ((with_reducible refine wl_shape ?_); first | (apply wl_boxa; exact rfl; exact hM; exact rfl; exact rfl; clear hM; intro gg ww hM; simp only [putT, List.set_cons_succ, List.set_cons_zero]) | (apply wl_box1; exact rfl; exact hM; exact rfl; exact rfl; exact rfl; clear hM; intro gg ww hM; simp only [putT, List.set_cons_succ, List.set_cons_zero]) | (apply wl_alloc; exact rfl; exact hM; exact rfl; exact inferInstance; clear hM; intro gg ww hM; simp only [putT, List.set_cons_succ, List.set_cons_zero]) | (apply wl_ld; exact rfl; exact hM; exact rfl; exact rfl; exact inferInstance; exact inferInstance; simp only [putT, List.set_cons_succ, List.set_cons_zero]) | (apply wl_lda; exact rfl; exact hM; exact rfl; exact rfl; exact inferInstance; exact inferInstance; exact inferInstance; exact inferInstance; simp only [putT, List.set_cons_succ, List.set_cons_zero]) | (apply wl_ldr; exact rfl; exact hM; exact rfl; exact rfl; exact inferInstance; exact inferInstance; exact inferInstance; exact inferInstance; simp only [putT, List.set_cons_succ, List.set_cons_zero]) | (apply wl_st; exact rfl; exact hM; exact rfl; exact rfl; exact rfl; exact rfl; exact inferInstance; exact inferInstance; clear hM; intro ww hM; simp only [putT, List.set_cons_succ, List.set_cons_zero]) | (apply wl_sta; exact rfl; exact hM; exact rfl; exact rfl; exact rfl; exact all_oneCell_toArray One.out; exact inferInstance; exact inferInstance; exact inferInstance; clear hM; intro ww hM; simp only [putT, List.set_cons_succ, List.set_cons_zero]) | (apply wl_bs0; exact rfl; exact hM; exact rfl; exact inferInstance; clear hM; intro gg ww hM; simp only [putT, List.set_cons_succ, List.set_cons_zero]) | (apply wl_bs1a; exact rfl; exact hM; exact rfl; exact inferInstance; exact rfl; exact inferInstance; clear hM; intro gg ww hM; simp only [putT, List.set_cons_succ, List.set_cons_zero]) | (apply wl_bs11; exact rfl; exact hM; exact rfl; exact inferInstance; exact rfl; exact rfl; clear hM; intro gg ww hM; simp only [putT, List.set_cons_succ, List.set_cons_zero]) | (apply wl_conv; exact rfl; exact hM; exact rfl; exact rfl; exact inferInstance; exact inferInstance; simp only [putT, List.set_cons_succ, List.set_cons_zero]))
    | (go_at_call 35; refine (committed_any hM hsl').mono ?_; rintro e1 w1 ⟨gs, rfl, hM1⟩; clear hM; have hM := hM1; clear hM1; (try simp only [List.set_cons_succ, List.set_cons_zero] at hM))
    | (go_at_call 37; refine (Stable_mem 2 hM rfl hsl').mono ?_; rintro e1 w1 ⟨rfl, hg⟩; replace hM := hM.call hg; clear hg))
  obtain ⟨gm, A, B, ca, cb, us, S, V, hM1⟩ := (hM.perm (List.perm_middle (l₁ := [_, _]))).openL
  clear hM
  have hM := hM1.perm (List.perm_middle (l₁ := [_, _])).symm
  clear hM1
  go_wp2_with (go_at_call 36; refine (read_any (LM := [_, _]) hM (some ⟨g, 0, none⟩) fr most m.stable 38 _ (m.recs.drop (offs fr)) (fun r => comS m.spans r.p r.e r.t) (offs fr) (offs_eq fr) (rs_bound ok _) (fun args w => run_callFunc Try.func38 (by kernel_rfl) rfl args w) (fun r D c w' X hX => ComC_any hX r D c) (fun bf bl => iter_log2 ok)).mono ?_; rintro e1 w1 ⟨Ao, co, out, vs, i, rfl, hvs, hs, hM1⟩; clear hM; have hM := hM1; clear hM1; (try simp only [List.set_cons_succ, List.set_cons_zero] at hM))
  go_ret2
  have hs' : comF m fr most = (out, i) := hs
  rw [hs']
  refine ⟨Ao, co, vs, rfl, hvs, ?_⟩
  have h1 := hM.sub ((List.Sublist.refl (outX Ao co out vs)).append (List.Sublist.cons _ (List.Sublist.cons _ (List.Sublist.refl _))))
  exact ((h1.perm List.perm_middle).shutL).perm List.perm_middle.symm
end
end Go.Proofs.Ytechglhkcjgodaa
