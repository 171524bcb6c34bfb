/- plog's laws: PlogEnded. -/
import Derived.Test.YtfecapcjocomkaaPlogV2
namespace Go.Proofs.Ytfecapcjocomkaa
open Go.RowKit Go.MapKept
set_option linter.unusedSimpArgs false
set_option linter.unusedVariables false

theorem find_sp {m : PL} (h : m.Ok) {s : Spn} (hs : s ∈ m.spans) : ∃ i : Nat, ∃ hi : i < m.spans.length, m.spans.findIdx? (spnIs s.p s.e s.t) = some i ∧ m.spans[i] = s := by
  obtain ⟨i, hi, e, e2⟩ := spanAt_uniq h.spans hs (p := s.p) (e := s.e) (t := s.t) (by simp [spnIs])
  refine ⟨i, hi, ?_, e2⟩
  have e0 : m.spanAt s.p s.e s.t = match m.spans.findIdx? (spnIs s.p s.e s.t) with | some i => (i : Int) | none => -1 := rfl
  rw [e0] at e
  cases hf : m.spans.findIdx? (spnIs s.p s.e s.t) with
  | none => rw [hf] at e; simp only at e; omega
  | some k => rw [hf] at e; simp only at e; rw [Int.ofNat_inj.1 e]
theorem endd_eq (m : PL) (p e t : Int) (c : Bool) : m.endd p e t c = if (PL.isProd p e && PL.isTxn t) = false then ((m, 1) : PL × Int) else
    match m.spans.findIdx? (spnIs p e t) with
    | none => ({ m with spans := m.spans ++ [⟨p, e, t, -1, if c then 2 else 3⟩] }, 0)
    | some i => if (m.spans.getD i ⟨0, 0, 0, 0, 0⟩).k ≠ 0 ∧ (m.spans.getD i ⟨0, 0, 0, 0, 0⟩).k ≠ (if c then 2 else 3) then (m, 6)
      else ({ m with spans := m.spans.modify i (fun s => { s with k := if c then 2 else 3 }) }, 0) := rfl
theorem modify_id {α : Type} (l : List α) (i : Nat) (f : α → α) (h : ∀ hi : i < l.length, f l[i] = l[i]) : l.modify i f = l := by
  apply List.ext_getElem (by simp)
  intro j h1 h2
  rw [List.getElem_modify]
  split
  · rename_i e; subst e; exact h h2
  · rfl
theorem endd_same {m : PL} (h : m.Ok) {s : Spn} (hs : s ∈ m.spans) (hp : PL.isProd s.p s.e = true) (ht : PL.isTxn s.t = true) (c : Bool) (hk : s.k = if c then 2 else 3) : m.endd s.p s.e s.t c = (m, 0) := by
  obtain ⟨i, hi, e, e2⟩ := find_sp h hs
  rw [endd_eq, e, hp, ht]
  have e3 : m.spans.getD i ⟨0, 0, 0, 0, 0⟩ = s := by simp [hi, e2]
  simp only [e3, Bool.and_self, Bool.true_eq_false, if_false]
  rw [if_neg (by rw [hk]; simp), modify_id m.spans i _ (fun hi => by rw [e2, ← hk])]
theorem endd_other {m : PL} (h : m.Ok) {s : Spn} (hs : s ∈ m.spans) (hp : PL.isProd s.p s.e = true) (ht : PL.isTxn s.t = true) (c : Bool) (h0 : s.k ≠ 0) (hk : s.k ≠ if c then 2 else 3) : m.endd s.p s.e s.t c = (m, 6) := by
  obtain ⟨i, hi, e, e2⟩ := find_sp h hs
  rw [endd_eq, e, hp, ht]
  have e3 : m.spans.getD i ⟨0, 0, 0, 0, 0⟩ = s := by simp [hi, e2]
  simp only [e3, Bool.and_self, Bool.true_eq_false, if_false]
  rw [if_pos ⟨h0, hk⟩]
theorem append_ended {m : PL} (h : m.Ok) {s : Spn} (hs : s ∈ m.spans) (hp : PL.isProd s.p s.e = true) (ht : PL.isTxn s.t = true) (h0 : s.k ≠ 0) : ∃ er, er ≠ 0 ∧ m.append ⟨s.p, s.e, s.t, ((m.recs.filter (meant s.p s.e)).length : Int), []⟩ = (m, 0, er) := by
  have hl := h.len
  have hf : (m.recs.filter (meant s.p s.e)).length ≤ m.recs.length := List.length_filter_le _ _
  have hrec : PL.isRec ⟨s.p, s.e, s.t, ((m.recs.filter (meant s.p s.e)).length : Int), []⟩ = true := by
    simp [PL.isRec, hp, ht]
    omega
  have hnone : m.recs.findIdx? (fun x => decide (x.p = s.p) && decide (x.e = s.e) && decide (x.s = ((m.recs.filter (meant s.p s.e)).length : Int))) = none := by
    rw [List.findIdx?_eq_none_iff]
    intro y hy
    cases hsq : sameQ s.p s.e ((m.recs.filter (meant s.p s.e)).length : Int) y with
    | false => exact hsq
    | true =>
      obtain ⟨h1, h2⟩ := sameQ_iff.1 hsq
      have := (seqs_get (h.seqs s.p s.e) hy h1).2
      omega
  have hb : m.barred s.p s.e s.t = true := by
    unfold PL.barred
    rw [List.any_eq_true]
    exact ⟨s, hs, by simp [h0]⟩
  unfold PL.append
  rw [hrec]
  simp only [Bool.true_eq_false, if_false, hnone, nextSeq_len m s.p s.e (h.seqs s.p s.e), ne_eq, not_true_eq_false, hb, if_true]
  split
  · exact ⟨4, by decide, rfl⟩
  split
  · exact ⟨5, by decide, rfl⟩
  split
  · exact ⟨6, by decide, rfl⟩
  · exact ⟨6, by decide, rfl⟩
theorem filter_take {α : Type} {f : α → Bool} {l : List α} {k : Nat} (h : k < l.length) : ((l.take (k + 1)).filter f).length = ((l.take k).filter f).length + if f l[k] then 1 else 0 := by
  rw [List.take_succ_eq_append_getElem h, List.filter_append, List.length_append]
  cases h : f l[k] <;> simp [h]
theorem RefR.cell0 {w : World} {g : Nat} {A B : Option Addr} {ca cb : Nat} {m : PL} {vs : List Value} (h : RefR w g A B ca cb m vs) : w.cell? ⟨g, 0, none⟩ = some (.slice A m.recs.length ca) := h.blk.cell 0
section
variable {w0 w : World} {own : Nat → Prop} {L : List Item} {g : Nat} {F : Nat → Prop} {m : PL}
theorem End_same (i : Nat) (hM : Mem w0 own w L) (hi : L[i]? = some (.res F (LogP F g m))) (hsl : m.spans.length ≤ 1000000) {p e t : Int} {c : Bool} {r : Int} (h : m.endd p e t c = (m, r)) : Calls Try.prog 21 #[.pointer (some ⟨g, 0, none⟩), .int .i64 p, .int .i64 e, .int .i64 t, .bool c] w fun x w' => x = .returned (.int .i64 r) ∧ ∃ F', Mem w0 own w' (L.set i (.res F' (LogP F' g m))) := by
  have := End_mem i hM hi hsl p e t c
  rw [h] at this
  exact this
theorem Append_same (i : Nat) (hM : Mem w0 own w L) (hi : L[i]? = some (.res F (LogP F g m))) (ok : m.Ok) (hsl : m.spans.length ≤ 1000000) {p e t s n er : Int} (h : m.append ⟨p, e, t, s, []⟩ = (m, n, er)) : Calls Try.prog 22 #[.pointer (some ⟨g, 0, none⟩), .agg #[.int .i64 p, .int .i64 e, .int .i64 t, .int .i64 s, .slice none 0 0]] w fun x w' => x = .returned (.tuple #[.int .i64 n, .int .i64 er]) ∧ ∃ F', Mem w0 own w' (L.set i (.res F' (LogP F' g m))) := by
  have := Append_mem i hM hi ok hsl ⟨p, e, t, s, []⟩ 0 0 none Reads.none_ (Nat.le_refl _) (fun _ ad e => nomatch e)
  rw [h] at this
  exact this
end

/-- A region in any order, under what every one of its calls keeps. -/
def AnyR (_ _ : World) : Prop := True
theorem any_quiet {C : World → Prop} : Quiet C AnyR AnyR := ⟨fun _ _ => trivial, fun _ _ => trivial⟩
section
variable {P : Program} {l : List Oper} {C : World → Prop} {w : World} {d : List Deferred} {Fin : List Slot → Prop} {k : Nat} {o : Oper} {rest : List Oper} {S : List Slot}
theorem wp_region_x {id : Nat} {Q : Exit → Act → World → Prop} {a : Act} (hC : C w.drew) (hm : P.follows .mixedOrders = true) (hB : ghostB l.toArray a.tmps.size = true)
    (hA : ancB l.toArray (ancs l.toArray) = true) (hG : bigB l.toArray (ancs l.toArray) [] [] [] = true)
    (h : GW P l.toArray C Any1 AnyR AnyR [] [] a.defers (Done l C [] a.defers Q) 0 l (initS a)) : (Code.region id l.toArray true).wp P Q a w :=
  wp_region_ghost (C := C) (D := Any1) (R := AnyR) (R' := AnyR) [] [] [] hm hB hA hG hC trivial (fun _ _ _ _ _ h => h) any_quiet.1 any_quiet.2 h
theorem gx_move {x : Operand} (ho : o.op = .move x ∨ o.op = .assign x) (hw : slWantsL l S o.guard = some true) {c : Value} (hx : slEval S x = some c) (h : GW P l.toArray C Any1 AnyR AnyR [] [] d Fin (k + 1) rest (setD S o.dst (.val c))) : GW P l.toArray C Any1 AnyR AnyR [] [] d Fin k (o :: rest) S := gw_move any_quiet (slWants_of hw) x ho c hx h
theorem gx_pure (hw : slWantsL l S o.guard = some true) (h : ∀ K : Value → Prop, (∀ c, GW P l.toArray C Any1 AnyR AnyR [] [] d Fin (k + 1) rest (setD S o.dst (.val c)) → K c) → ∃ c, (∀ γ w, (execOp (slAct S γ d).eval o).run P w = .ok (.value c) w) ∧ K c) : GW P l.toArray C Any1 AnyR AnyR [] [] d Fin k (o :: rest) S := gw_pure_ex any_quiet (slWants_of hw) h
theorem gx_ld (v : Value) {T : TypeId} {x : Operand} (ho : o.op = .load T x) (hw : slWantsL l S o.guard = some true) {ad : Addr} (hx : slEval S x = some (.pointer (some ad))) (hc : ∀ w, C w → w.cell? ad = some v) (ht : TySc P T)
    (h : GW P l.toArray C Any1 AnyR AnyR [] [] d Fin (k + 1) rest (setD S o.dst (.val v))) : GW P l.toArray C Any1 AnyR AnyR [] [] d Fin k (o :: rest) S := by
  obtain ⟨dd, hu, hd⟩ := ht.ex
  exact gw_load1 any_quiet (slWants_of hw) T x ho ad hx dd hu (by cases dd <;> first | rfl | cases hd) v hc h
theorem gx_call {f : FuncId} {xs : Array Operand} {ts : Array TypeId} (ho : o.op = .call { callee := .value (.func f), args := xs, argTypes := ts }) (hw : slWantsL l S o.guard = some true) (args : Array Value) (hx : xs.toList.map (slEval S) = args.toList.map some) (c : Value) (hr : ∀ γ w, (execOp (slAct S γ d).eval o).run P w = .ok (.enter f args) w)
    (hc : ∀ w, C w → Calls P f args w fun e w' => e = .returned c ∧ C w') (h : GW P l.toArray C Any1 AnyR AnyR [] [] d Fin (k + 1) rest (setD S o.dst (.val c))) : GW P l.toArray C Any1 AnyR AnyR [] [] d Fin k (o :: rest) S :=
  gw_call (slWants_of hw) rfl f xs ts ho args hx c hr (fun w hC => (hc w hC).mono fun e w' ⟨he, hg⟩ => ⟨he, hg, trivial⟩) h
end
attribute [local irreducible] wpList Code.wp GW Calls
set_option maxRecDepth 100000 in
set_option maxHeartbeats 8000000 in
theorem PlogEnded_any (w : World) (A : Option Addr) (n c : Nat) (cm : Bool) (l : List Doing) (vs : List Value) (h : DoR w A n l vs) (hn : n ≤ 2000000000000) : Calls Try.prog 4 #[.slice A n c, .bool cm] w fun e w' => e = .returned (.bool true) ∧ Grow w noOwn w' := by
  have hM := Mem.nil w noOwn
  go_enter Try.func4, Try.ntmps4
  go_wp2_with (first
    | (go_at_call 13; refine (long_any w A n c l vs h hn).mono ?_; rintro e1 w1 ⟨b, rfl, rfl⟩; cases b)
    | (go_at_call 14; refine (New_mem hM).mono ?_; rintro e1 w1 ⟨g, F, rfl, hM1⟩; clear hM; have hM := hM1; clear hM1; (try simp only [List.set_cons_succ, List.set_cons_zero] at hM))
    | (go_at_call 15; refine (NewR_mem hM).mono ?_; rintro e1 w1 ⟨g2, F2, rfl, hM1⟩; clear hM; have hM := hM1; clear hM1; (try simp only [List.set_cons_succ, List.set_cons_zero] at hM)))
  · have HM := hide hM
    go_loopw [7] (fun v wr => ∃ (k : Nat) (m : PL) (F F2 : Nat → Prop), k ≤ n ∧ k ≤ 80 ∧ v = .int .i64 k ∧ Mem w noOwn wr [.res F (LogP F g m), .res F2 (RefP F2 g2 m)] ∧ m.Ok ∧ m.OkS ∧ m.spans.length ≤ k) (fun v _ => n - (intOf v).toNat)
    case atStart => exact ⟨0, PL.empty, F, F2, by omega, by omega, rfl, hM.perm (List.Perm.swap _ _ _), ok_empty, oks_empty, by simp [PL.empty]⟩
    case round =>
      obtain ⟨k, m, F, F2, hk, hk80, rfl, hM, ok, oks, hsl⟩ := hrel
      have hsl' : m.spans.length ≤ 1000000 := by omega
      by_cases hlt : k < n ∧ k < 80
      · obtain ⟨hlt, h80⟩ := hlt
        obtain ⟨a, b, off, D, q, cq, rfl, hO, hqc, hbq, _⟩ := h.one k hlt
        have okm := ok_doing ok a
        have oksm := oks_doing oks a
        have hsm := spans_doing m a
        go_wp2_with (first
          | ((with_reducible refine wl_shape ?_); first | (apply wl_boxa; exact rfl; exact hM; exact rfl; exact rfl; clear hM; intro gg ww hM; simp only [putT, List.set_cons_succ, List.set_cons_zero]) | (apply wl_box1; exact rfl; exact hM; exact rfl; exact rfl; exact rfl; clear hM; intro gg ww hM; simp only [putT, List.set_cons_succ, List.set_cons_zero]) | (apply wl_alloc; exact rfl; exact hM; exact rfl; exact inferInstance; clear hM; intro gg ww hM; simp only [putT, List.set_cons_succ, List.set_cons_zero]) | (apply wl_ld; exact rfl; exact hM; exact rfl; exact rfl; exact inferInstance; exact inferInstance; simp only [putT, List.set_cons_succ, List.set_cons_zero]) | (apply wl_lda; exact rfl; exact hM; exact rfl; exact rfl; exact inferInstance; exact inferInstance; exact inferInstance; exact inferInstance; simp only [putT, List.set_cons_succ, List.set_cons_zero]) | (apply wl_ldr; exact rfl; exact hM; exact rfl; exact rfl; exact inferInstance; exact inferInstance; exact inferInstance; exact inferInstance; simp only [putT, List.set_cons_succ, List.set_cons_zero]) | (apply wl_st; exact rfl; exact hM; exact rfl; exact rfl; exact rfl; exact rfl; exact inferInstance; exact inferInstance; clear hM; intro ww hM; simp only [putT, List.set_cons_succ, List.set_cons_zero]) | (apply wl_sta; exact rfl; exact hM; exact rfl; exact rfl; exact rfl; exact all_oneCell_toArray One.out; exact inferInstance; exact inferInstance; exact inferInstance; clear hM; intro ww hM; simp only [putT, List.set_cons_succ, List.set_cons_zero]) | (apply wl_bs0; exact rfl; exact hM; exact rfl; exact inferInstance; clear hM; intro gg ww hM; simp only [putT, List.set_cons_succ, List.set_cons_zero]) | (apply wl_bs1a; exact rfl; exact hM; exact rfl; exact inferInstance; exact rfl; exact inferInstance; clear hM; intro gg ww hM; simp only [putT, List.set_cons_succ, List.set_cons_zero]) | (apply wl_bs11; exact rfl; exact hM; exact rfl; exact inferInstance; exact rfl; exact rfl; clear hM; intro gg ww hM; simp only [putT, List.set_cons_succ, List.set_cons_zero]) | (apply wl_conv; exact rfl; exact hM; exact rfl; exact rfl; exact inferInstance; exact inferInstance; simp only [putT, List.set_cons_succ, List.set_cons_zero]))
          | (go_at_call 19; refine (act_any w _ noOwn [] _ _ g g2 m hM ok (by omega) a D q cq hqc hbq (fun _ _ _ e => e)).mono ?_; rintro e1 w1 ⟨rfl, F3, F4, hM1⟩; clear hM; have hM := hM1; clear hM1; (try simp only [List.set_cons_succ, List.set_cons_zero] at hM)))
        go_roundw
        case rel => exact ⟨k + 1, (m.doing a).1, F3, F4, by omega, by omega, by go_num, hM, okm, oksm, by omega⟩
        case measure => simp [intOf]; omega
      · have hor : n ≤ k ∨ (k < n ∧ 80 ≤ k) := by omega
        clear hlt
        rcases hor with hge | ⟨h1, hge⟩
        all_goals
          go_wp2_with (first
            | (go_at_call 18; refine (Spans_pushed 0 hM rfl hsl').mono ?_; rintro e1 w1 ⟨As, cs, rfl, hM1⟩; clear hM; have hM := hM1; clear hM1; (try simp only [List.set_cons_succ, List.set_cons_zero] at hM)))
          have HM2 := hide hM
          go_loopw [9] (fun v wr => ∃ (j : Nat) (F : Nat → Prop), j ≤ m.spans.length ∧ v = .int .i64 j ∧ Mem w noOwn wr [.res (rdF As m.spans.length) (RdP 5 As m.spans.length (spnCells m.spans)), .res F (LogP F g m), .res F2 (RefP F2 g2 m)]) (fun v _ => m.spans.length - (intOf v).toNat)
          case atStart => exact ⟨0, _, Nat.zero_le _, rfl, hM⟩
          case round =>
            obtain ⟨j, F, hj, rfl, hM⟩ := hrel
            by_cases hlt : j < m.spans.length
            · obtain ⟨b, off, rfl⟩ := rd_form (A := As) (n := m.spans.length) (size := 5) (xs := spnCells m.spans) hM (by omega) (by decide)
              have hget := spnCells_get m.spans j hlt
              have hmem := List.getElem_mem hlt
              obtain ⟨hp, ht, hk3⟩ := oks _ hmem
              have q1 := endd_same ok hmem hp ht
              have q2 := endd_other ok hmem hp ht
              have q3 := append_ended ok hmem hp ht
              obtain ⟨sp, hsp⟩ : ∃ s, s = m.spans[j] := ⟨_, rfl⟩
              rw [← hsp] at hget hk3 q1 q2 q3
              clear hsp hmem hp ht
              obtain ⟨s1, s2, s3, s4, s5⟩ := sp
              simp only at hget hk3 q1 q2 q3
              have c0 : ∀ (L : List Item) [HasRd L (some ⟨b, off, none⟩) m.spans.length 5 (spnCells m.spans)], Cell w noOwn L ⟨b, off + j * 5, none⟩ (.int .i64 s1) := fun L hL => rd_cell hL (by decide) (j * 5 + 0) (by omega) (by omega) ((hget 0 (by omega)).trans rfl)
              have c1 : ∀ (L : List Item) [HasRd L (some ⟨b, off, none⟩) m.spans.length 5 (spnCells m.spans)], Cell w noOwn L ⟨b, off + j * 5 + 1, none⟩ (.int .i64 s2) := fun L hL => rd_cell hL (by decide) (j * 5 + 1) (by omega) (by omega) ((hget 1 (by omega)).trans rfl)
              have c2 : ∀ (L : List Item) [HasRd L (some ⟨b, off, none⟩) m.spans.length 5 (spnCells m.spans)], Cell w noOwn L ⟨b, off + j * 5 + 2, none⟩ (.int .i64 s3) := fun L hL => rd_cell hL (by decide) (j * 5 + 2) (by omega) (by omega) ((hget 2 (by omega)).trans rfl)
              have c4 : ∀ (L : List Item) [HasRd L (some ⟨b, off, none⟩) m.spans.length 5 (spnCells m.spans)], Cell w noOwn L ⟨b, off + j * 5 + 4, none⟩ (.int .i64 s5) := fun L hL => rd_cell hL (by decide) (j * 5 + 4) (by omega) (by omega) ((hget 4 (by omega)).trans rfl)
              clear hget
              rcases hk3 with ⟨rfl, _⟩ | hk3
              · go_wp2_with ((with_reducible refine wl_shape ?_); first | (apply wl_boxa; exact rfl; exact hM; exact rfl; exact rfl; clear hM; intro gg ww hM; simp only [putT, List.set_cons_succ, List.set_cons_zero]) | (apply wl_box1; exact rfl; exact hM; exact rfl; exact rfl; exact rfl; clear hM; intro gg ww hM; simp only [putT, List.set_cons_succ, List.set_cons_zero]) | (apply wl_alloc; exact rfl; exact hM; exact rfl; exact inferInstance; clear hM; intro gg ww hM; simp only [putT, List.set_cons_succ, List.set_cons_zero]) | (apply wl_ld; exact rfl; exact hM; exact rfl; exact rfl; exact inferInstance; exact inferInstance; simp only [putT, List.set_cons_succ, List.set_cons_zero]) | (apply wl_lda; exact rfl; exact hM; exact rfl; exact rfl; exact inferInstance; exact inferInstance; exact inferInstance; exact inferInstance; simp only [putT, List.set_cons_succ, List.set_cons_zero]) | (apply wl_ldr; exact rfl; exact hM; exact rfl; exact rfl; exact inferInstance; exact inferInstance; exact inferInstance; exact inferInstance; simp only [putT, List.set_cons_succ, List.set_cons_zero]) | (apply wl_st; exact rfl; exact hM; exact rfl; exact rfl; exact rfl; exact rfl; exact inferInstance; exact inferInstance; clear hM; intro ww hM; simp only [putT, List.set_cons_succ, List.set_cons_zero]) | (apply wl_sta; exact rfl; exact hM; exact rfl; exact rfl; exact rfl; exact all_oneCell_toArray One.out; exact inferInstance; exact inferInstance; exact inferInstance; clear hM; intro ww hM; simp only [putT, List.set_cons_succ, List.set_cons_zero]) | (apply wl_bs0; exact rfl; exact hM; exact rfl; exact inferInstance; clear hM; intro gg ww hM; simp only [putT, List.set_cons_succ, List.set_cons_zero]) | (apply wl_bs1a; exact rfl; exact hM; exact rfl; exact inferInstance; exact rfl; exact inferInstance; clear hM; intro gg ww hM; simp only [putT, List.set_cons_succ, List.set_cons_zero]) | (apply wl_bs11; exact rfl; exact hM; exact rfl; exact inferInstance; exact rfl; exact rfl; clear hM; intro gg ww hM; simp only [putT, List.set_cons_succ, List.set_cons_zero]) | (apply wl_conv; exact rfl; exact hM; exact rfl; exact rfl; exact inferInstance; exact inferInstance; simp only [putT, List.set_cons_succ, List.set_cons_zero]))
                go_roundw
                case rel => exact ⟨j + 1, F, by omega, by go_num, hM⟩
                case measure => simp [intOf]; omega
              · have e5 : (s5 == 0) = false := by simp; omega
                have r1 : m.endd s1 s2 s3 (s5 == 2) = (m, 0) := q1 _ (by rcases hk3 with rfl | rfl <;> rfl)
                have r2 : m.endd s1 s2 s3 (s5 != 2) = (m, 6) := q2 _ (by omega) (by rcases hk3 with rfl | rfl <;> decide)
                obtain ⟨er, her, r3⟩ := q3 (by omega)
                have h6 : (er == 0) = false := by simpa using her
                clear q1 q2 q3
                go_wp2_with (first | ((with_reducible refine wl_shape ?_); first | (apply wl_boxa; exact rfl; exact hM; exact rfl; exact rfl; clear hM; intro gg ww hM; simp only [putT, List.set_cons_succ, List.set_cons_zero]) | (apply wl_box1; exact rfl; exact hM; exact rfl; exact rfl; exact rfl; clear hM; intro gg ww hM; simp only [putT, List.set_cons_succ, List.set_cons_zero]) | (apply wl_alloc; exact rfl; exact hM; exact rfl; exact inferInstance; clear hM; intro gg ww hM; simp only [putT, List.set_cons_succ, List.set_cons_zero]) | (apply wl_ld; exact rfl; exact hM; exact rfl; exact rfl; exact inferInstance; exact inferInstance; simp only [putT, List.set_cons_succ, List.set_cons_zero]) | (apply wl_lda; exact rfl; exact hM; exact rfl; exact rfl; exact inferInstance; exact inferInstance; exact inferInstance; exact inferInstance; simp only [putT, List.set_cons_succ, List.set_cons_zero]) | (apply wl_ldr; exact rfl; exact hM; exact rfl; exact rfl; exact inferInstance; exact inferInstance; exact inferInstance; exact inferInstance; simp only [putT, List.set_cons_succ, List.set_cons_zero]) | (apply wl_st; exact rfl; exact hM; exact rfl; exact rfl; exact rfl; exact rfl; exact inferInstance; exact inferInstance; clear hM; intro ww hM; simp only [putT, List.set_cons_succ, List.set_cons_zero]) | (apply wl_sta; exact rfl; exact hM; exact rfl; exact rfl; exact rfl; exact all_oneCell_toArray One.out; exact inferInstance; exact inferInstance; exact inferInstance; clear hM; intro ww hM; simp only [putT, List.set_cons_succ, List.set_cons_zero]) | (apply wl_bs0; exact rfl; exact hM; exact rfl; exact inferInstance; clear hM; intro gg ww hM; simp only [putT, List.set_cons_succ, List.set_cons_zero]) | (apply wl_bs1a; exact rfl; exact hM; exact rfl; exact inferInstance; exact rfl; exact inferInstance; clear hM; intro gg ww hM; simp only [putT, List.set_cons_succ, List.set_cons_zero]) | (apply wl_bs11; exact rfl; exact hM; exact rfl; exact inferInstance; exact rfl; exact rfl; clear hM; intro gg ww hM; simp only [putT, List.set_cons_succ, List.set_cons_zero]) | (apply wl_conv; exact rfl; exact hM; exact rfl; exact rfl; exact inferInstance; exact inferInstance; simp only [putT, List.set_cons_succ, List.set_cons_zero])) | (rw [e5]))
                (have d0 := (c0 _).out _ hM; have d1 := (c1 _).out _ hM; have d2 := (c2 _).out _ hM; have d4 := (c4 _).out _ hM)
                go_still_tail 22, (by kernel_rfl)
                clear d0 d1 d2 d4
                replace hM := hM.drew
                go_wp2_with (go_at_call 21; refine (End_same 1 hM rfl hsl' r1).mono ?_; rintro e1 w1 ⟨rfl, F3, hM1⟩; clear hM; have hM := hM1; clear hM1; (try simp only [List.set_cons_succ, List.set_cons_zero] at hM))
                (have d0 := (c0 _).out _ hM; have d1 := (c1 _).out _ hM; have d2 := (c2 _).out _ hM; have d4 := (c4 _).out _ hM)
                go_still_tail 22, (by kernel_rfl)
                clear d0 d1 d2 d4
                replace hM := hM.drew
                go_wp2_with (go_at_call 21; refine (End_same 1 hM rfl hsl' r2).mono ?_; rintro e1 w1 ⟨rfl, F4, hM1⟩; clear hM; have hM := hM1; clear hM1; (try simp only [List.set_cons_succ, List.set_cons_zero] at hM))
                have hR : ∃ V A2 B2 ca cb vs2, RefHas w1 g2 A2 B2 ca cb m vs2 V := by
                  obtain ⟨V, ⟨A2, B2, ca, cb, vs2, hR⟩, _⟩ := hM.refP (i := 2) rfl
                  exact ⟨V, A2, B2, ca, cb, vs2, hR⟩
                obtain ⟨V, A2, B2, ca, cb, vs2, hR⟩ := hR
                have hN := ok.len
                have HM3 := hide hM
                go_loopw [12, 13] (fun u v wr => ∃ (i : Nat), i ≤ m.recs.length ∧ u = .int .i64 ((m.recs.take i).filter (meant s1 s2)).length ∧ v = .int .i64 i ∧ Mem w noOwn wr [.res (rdF (some ⟨b, off, none⟩) m.spans.length) (RdP 5 (some ⟨b, off, none⟩) m.spans.length (spnCells m.spans)), .res F4 (LogP F4 g m), .res F2 (RefP F2 g2 m)] ∧ RefHas wr g2 A2 B2 ca cb m vs2 V) (fun _ v _ => m.recs.length - (intOf v).toNat)
                case atStart => exact ⟨0, Nat.zero_le _, by simp, rfl, hM, hR⟩
                case round =>
                  clear hM hR
                  obtain ⟨i, hi, rfl, rfl, hM, hR⟩ := hrel
                  (have d0 := (c0 _).out _ hM; have d1 := (c1 _).out _ hM; have d2 := (c2 _).out _ hM; have d4 := (c4 _).out _ hM)
                  have k0 := RefR.cell0 hR.toRefR
                  by_cases hlt : i < m.recs.length
                  · obtain ⟨b2, off2, rfl, _, y0, y1, _⟩ := rec_cells hR.recs hR.vl rfl i hlt
                    have hft := filter_take (f := meant s1 s2) hlt
                    have hfl : ((m.recs.take i).filter (meant s1 s2)).length ≤ i := Nat.le_trans (List.length_filter_le _ _) (by simp; omega)
                    obtain ⟨x, hx⟩ : ∃ x, x = m.recs[i] := ⟨_, rfl⟩
                    rw [← hx] at y0 y1 hft
                    clear hx
                    obtain ⟨x1, x2, x3, x4, x5⟩ := x
                    simp only [meant] at hft
                    dsimp only at y0 y1
                    rcases (if e1 : x1 = s1 then if e2 : x2 = s2 then .inr (.inr ⟨e1, e2⟩) else .inr (.inl ⟨e1, e2⟩) else .inl e1 : ¬ x1 = s1 ∨ (x1 = s1 ∧ ¬ x2 = s2) ∨ x1 = s1 ∧ x2 = s2) with e1 | ⟨rfl, e1⟩ | ⟨rfl, rfl⟩
                    · simp [e1] at hft
                      go_wp2
                      go_still (by kernel_rfl)
                      go_wp2
                      go_roundw
                      case rel => exact ⟨i + 1, by omega, by rw [hft], by go_num, hM.drew, hR.keep (Nat.le_refl _) (fun _ _ => rfl)⟩
                      case measure => simp [intOf]; omega
                    · simp [e1] at hft
                      go_wp2
                      go_still (by kernel_rfl)
                      go_wp2
                      go_roundw
                      case rel => exact ⟨i + 1, by omega, by rw [hft], by go_num, hM.drew, hR.keep (Nat.le_refl _) (fun _ _ => rfl)⟩
                      case measure => simp [intOf]; omega
                    · simp at hft
                      go_wp2
                      go_still (by kernel_rfl)
                      go_wp2
                      go_roundw
                      case rel => exact ⟨i + 1, by omega, by rw [hft]; go_num, by go_num, hM.drew, hR.keep (Nat.le_refl _) (fun _ _ => rfl)⟩
                      case measure => simp [intOf]; omega
                  · have e : i = m.recs.length := by omega
                    subst e
                    rw [List.take_length]
                    go_wp2
                    refine wp_region_x (C := fun w' => ∃ F', Mem w noOwn w' [.res (rdF (some ⟨b, off, none⟩) m.spans.length) (RdP 5 (some ⟨b, off, none⟩) m.spans.length (spnCells m.spans)), .res F' (LogP F' g m), .res F2 (RefP F2 g2 m)]) ⟨_, hM.drew⟩ (by kernel_rfl) (by kernel_rfl) (by kernel_rfl) (by kernel_rfl) ?_
                    simp only [initS, Act.put, List.setIfInBounds_toArray, List.set_cons_succ, List.set_cons_zero, List.map_cons, List.map_nil]
                    repeat (first
                      | (apply gx_move; (first | exact .inl rfl | exact .inr rfl); exact rfl; exact rfl; simp only [setD, List.set_cons_succ, List.set_cons_zero])
                      | (apply gx_ld (.int .i64 s1); exact rfl; exact rfl; exact rfl; (rintro w' ⟨_, hC⟩; exact (c0 _).out _ hC); exact inferInstance; simp only [setD, List.set_cons_succ, List.set_cons_zero])
                      | (apply gx_ld (.int .i64 s2); exact rfl; exact rfl; exact rfl; (rintro w' ⟨_, hC⟩; exact (c1 _).out _ hC); exact inferInstance; simp only [setD, List.set_cons_succ, List.set_cons_zero])
                      | (apply gx_ld (.int .i64 s3); exact rfl; exact rfl; exact rfl; (rintro w' ⟨_, hC⟩; exact (c2 _).out _ hC); exact inferInstance; simp only [setD, List.set_cons_succ, List.set_cons_zero])
                      | (apply gx_pure; exact rfl; intro K hK; go_simp; refine hK _ ?_; clear hK K; simp only [setD, List.set_cons_succ, List.set_cons_zero])
                      | (refine gx_call (f := 22) rfl rfl #[.pointer (some ⟨g, 0, none⟩), .agg #[.int .i64 s1, .int .i64 s2, .int .i64 s3, .int .i64 ((m.recs.filter (meant s1 s2)).length : Int), .slice none 0 0]] rfl (.tuple #[.int .i64 0, .int .i64 er]) (fun γ w => by go_simp) ?_ ?_
                         · rintro w' ⟨F', hC⟩
                           exact (Append_same 1 hC rfl ok hsl' r3).mono fun _ _ ⟨h1, F6, h2⟩ => ⟨h1, F6, h2⟩
                         simp only [setD, List.set_cons_succ, List.set_cons_zero]))
                    refine gw_nil ?_
                    intro γ w5 hC' hk'
                    simp only [slAct, slVals, Slot.get]
                    obtain ⟨F5, hM1⟩ := hC'
                    clear hk'
                    clear hM; have hM := hM1; clear hM1; (try simp only [List.set_cons_succ, List.set_cons_zero] at hM)
                    go_wp2
                    go_roundw
                    case rel => exact ⟨j + 1, F5, by omega, by go_num, hM⟩
                    case measure => simp [intOf]; omega
            · have e : j = m.spans.length := by omega
              subst e
              have hrd := (hM.at_ 0 rfl).2.1
              go_wp2_with (first
                | ((go_at_call 18; refine (Spans_pushed 1 hM rfl hsl').mono ?_; rintro e1 w1 ⟨As, cs, rfl, hM1⟩; clear hM; have hM := hM1; clear hM1; (try simp only [List.set_cons_succ, List.set_cons_zero] at hM)); have hr1 := (hM.at_ 0 rfl).2.1; have hr2 := (hM.at_ 1 rfl).2.1)
                | (go_at_call 23; refine (SpansEq_any _ _ _ _ _ _ _ m.spans m.spans rfl rfl (by omega) hr1 hr2).mono ?_; rintro e1 w1 ⟨rfl, hg⟩; replace hM := hM.call hg; clear hg; rw [decide_eq_true rfl])
                | (go_at_call 20; refine (known_any _).mono ?_; rintro e1 w1 ⟨rfl, hg⟩; replace hM := hM.call hg; clear hg))
              go_ret
              exact ⟨rfl, hM.grow⟩
  · go_ret
    exact ⟨rfl, hM.grow⟩
end Go.Proofs.Ytfecapcjocomkaa
