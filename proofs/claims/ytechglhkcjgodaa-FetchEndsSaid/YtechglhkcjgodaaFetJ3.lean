/- fetch: the reference's Any, Committed; both Aborted. fetch: the reference's Committed. fetch: both Aborted. fetch: the reference's Aborted. -/
import Derived.Test.YtechglhkcjgodaaFetJ2
namespace Go.Proofs.Ytechglhkcjgodaa
section
open Go.RowKit Go.MapKept
set_option linter.unusedSimpArgs false
set_option linter.unusedVariables false
/-- What the reference has read: its values are those of the log. -/
structure RefOut (m : PL) (v2 : List Value) (out : List Rec) (us : List Value) : Prop where
  vl : us.length = out.length
  at_ : ∀ i (h : i < out.length), ∃ (k : Nat) (hk : k < m.recs.length), out[i] = m.recs[k] ∧ some (us[i]'(by rw [vl]; exact h)) = v2[k]?
theorem RefOut.nil (m : PL) (v2 : List Value) : RefOut m v2 [] [] := ⟨rfl, fun i h => by simp at h⟩
theorem RefOut.snoc {m : PL} {v2 : List Value} {out : List Rec} {us : List Value} (h : RefOut m v2 out us) {k : Nat} (hk : k < m.recs.length) {v : Value} (hv : v2[k]? = some v) : RefOut m v2 (out ++ [m.recs[k]]) (us ++ [v]) := by
  refine ⟨by simp [h.vl], fun i hi => ?_⟩
  by_cases hlt : i < out.length
  · obtain ⟨k', hk', e1, e2⟩ := h.at_ i hlt
    exact ⟨k', hk', by rw [List.getElem_append_left hlt]; exact e1, by rw [List.getElem_append_left (by rw [h.vl]; exact hlt)]; exact e2⟩
  · have e : i = out.length := by simp at hi; omega
    subst e
    refine ⟨k, hk, by simp, ?_⟩
    rw [hv]
    simp [← h.vl]
theorem RefOut.recs {w : World} {g : Nat} {A B : Option Addr} {ca cb : Nat} {m : PL} {v2 : List Value} {V : Nat → Prop} (hR : RefHas w g A B ca cb m v2 V) {out : List Rec} {us : List Value} (h : RefOut m v2 out us) {A' : Option Addr} {c : Nat} (hr : w.ownsRow 0 42 5 (.slice A' out.length c) out.length (recCells out us)) : RecsR w A' out.length out us :=
  ⟨h.vl, rfl, Reads.of_own hr, fun i hi => by
    obtain ⟨k, hk, e1, e2⟩ := h.at_ i hi
    have h1 := hR.vals k hk
    have h2 : k < v2.length := by rw [hR.vl]; exact hk
    rw [List.getElem?_eq_getElem h2] at e2
    injection e2 with e2
    rw [e1, e2]
    exact h1⟩
/-- A transaction's kind; none: 0. -/
def kindAt (m : PL) (p e t : Int) : Int := match m.spans.findIdx? (spnIs p e t) with
  | some i => (m.spans.getD i ⟨0, 0, 0, 0, 0⟩).k
  | none => 0
theorem kind_com {m : PL} (ok : m.Ok) (p e t : Int) : (kindAt m p e t == 2) = comS m.spans p e t := by
  unfold kindAt comS
  cases hf : m.spans.findIdx? (spnIs p e t) with
  | none =>
    rw [List.findIdx?_eq_none_iff] at hf
    symm
    simp only [show ((0 : Int) == 2) = false from rfl]
    rw [List.any_eq_false]
    intro s hs
    have := hf s hs
    unfold spnIs at this
    rw [this]
    simp
  | some i =>
    rw [List.findIdx?_eq_some_iff_getElem] at hf
    obtain ⟨hi, h1, _⟩ := hf
    simp only [List.getD_eq_getElem?_getD, List.getElem?_eq_getElem hi, Option.getD_some]
    unfold spnIs at h1
    rw [Bool.eq_iff_iff, List.any_eq_true]
    constructor
    · intro h2
      exact ⟨_, List.getElem_mem hi, by rw [h1]; simpa using h2⟩
    · rintro ⟨s, hs, h2⟩
      obtain ⟨j, hj, rfl⟩ := List.mem_iff_getElem.1 hs
      have hij : j = i := by
        have hp := List.pairwise_iff_getElem.1 ok.spans
        simp only [Bool.and_eq_true, decide_eq_true_eq] at h1 h2
        rcases Nat.lt_trichotomy j i with h | h | h
        · exact absurd ⟨by omega, by omega, by omega⟩ (hp j i hj hi h)
        · exact h
        · exact absurd ⟨by omega, by omega, by omega⟩ (hp i j hi hj h)
      subst hij
      simp only [Bool.and_eq_true, decide_eq_true_eq] at h2
      simpa using h2.2
/-- The aborted transactions that began between two offsets. -/
def aborted (m : PL) (fr to : Int) : List Spn := m.spans.filter (fun s => decide (s.k = 3) && decide (max fr 0 ≤ s.f) && decide (s.f < to))
theorem filter_step {f : Spn → Bool} {l : List Spn} {j : Nat} (hj : j < l.length) : (l.take (j + 1)).filter f = (l.take j).filter f ++ if f l[j] then [l[j]] else [] := by
  rw [List.take_succ_eq_append_getElem hj, List.filter_append]
  cases h : f l[j] <;> simp [h]
attribute [local irreducible] wpList Code.wp GW Calls
set_option maxRecDepth 100000 in
set_option maxHeartbeats 4000000 in
theorem Kind_any (w : World) (g : Nat) (A B : Option Addr) (ca cb : Nat) (m : PL) (vs : List Value) (h : RefR w g A B ca cb m vs) (hs : m.spans.length ≤ 1000000) (r : Rec) (v : Value) :
    Calls Try.prog 20 #[.pointer (some ⟨g, 0, none⟩), .agg (recVals r v).toArray] w fun x w' => x = .returned (.int .i64 (kindAt m r.p r.e r.t)) ∧ Grow w noOwn w' := by
  have hM := Mem.nil w noOwn
  have hsp : m.spanAt r.p r.e r.t = match m.spans.findIdx? (spnIs r.p r.e r.t) with | some i => (i : Int) | none => -1 := rfl
  unfold kindAt
  cases hf : m.spans.findIdx? (spnIs r.p r.e r.t) with
  | none =>
    rw [hf] at hsp
    simp only at hsp
    have HSP := hide hsp
    clear hsp hf
    go_enter Try.func20, Try.ntmps20
    go_wp2_with (first
      | ((with_reducible refine wl_shape ?_); first | (apply wl_boxa; exact rfl; exact hM; exact rfl; exact rfl; clear hM; intro gg ww hM; simp only [putT, List.set_cons_succ, List.set_cons_zero]) | (apply wl_box1; exact rfl; exact hM; exact rfl; exact rfl; exact rfl; clear hM; intro gg ww hM; simp only [putT, List.set_cons_succ, List.set_cons_zero]) | (apply wl_alloc; exact rfl; exact hM; exact rfl; exact inferInstance; clear hM; intro gg ww hM; simp only [putT, List.set_cons_succ, List.set_cons_zero]) | (apply wl_ld; exact rfl; exact hM; exact rfl; exact rfl; exact inferInstance; exact inferInstance; simp only [putT, List.set_cons_succ, List.set_cons_zero]) | (apply wl_lda; exact rfl; exact hM; exact rfl; exact rfl; exact inferInstance; exact inferInstance; exact inferInstance; exact inferInstance; simp only [putT, List.set_cons_succ, List.set_cons_zero]) | (apply wl_ldr; exact rfl; exact hM; exact rfl; exact rfl; exact inferInstance; exact inferInstance; exact inferInstance; exact inferInstance; simp only [putT, List.set_cons_succ, List.set_cons_zero]) | (apply wl_st; exact rfl; exact hM; exact rfl; exact rfl; exact rfl; exact rfl; exact inferInstance; exact inferInstance; clear hM; intro ww hM; simp only [putT, List.set_cons_succ, List.set_cons_zero]) | (apply wl_sta; exact rfl; exact hM; exact rfl; exact rfl; exact rfl; exact all_oneCell_toArray One.out; exact inferInstance; exact inferInstance; exact inferInstance; clear hM; intro ww hM; simp only [putT, List.set_cons_succ, List.set_cons_zero]) | (apply wl_bs0; exact rfl; exact hM; exact rfl; exact inferInstance; clear hM; intro gg ww hM; simp only [putT, List.set_cons_succ, List.set_cons_zero]) | (apply wl_bs1a; exact rfl; exact hM; exact rfl; exact inferInstance; exact rfl; exact inferInstance; clear hM; intro gg ww hM; simp only [putT, List.set_cons_succ, List.set_cons_zero]) | (apply wl_bs11; exact rfl; exact hM; exact rfl; exact inferInstance; exact rfl; exact rfl; clear hM; intro gg ww hM; simp only [putT, List.set_cons_succ, List.set_cons_zero]) | (apply wl_conv; exact rfl; exact hM; exact rfl; exact rfl; exact inferInstance; exact inferInstance; simp only [putT, List.set_cons_succ, List.set_cons_zero]))
      | (go_at_call 42; refine (spanR_any _ g A B ca cb m vs (h.grow hM.grow) (by omega) _ _ _).mono ?_; rintro e1 w1 ⟨rfl, rfl⟩; rw [unhide HSP]))
    go_ret
    exact ⟨rfl, hM.grow⟩
  | some i =>
    rw [hf] at hsp
    simp only at hsp
    have HSP := hide hsp
    have hi : i < m.spans.length := by rw [List.findIdx?_eq_some_iff_getElem] at hf; exact hf.1
    clear hsp hf
    have hil : (i : Int) < m.spans.length := by omega
    obtain ⟨b, off, rfl, hb, d0, d1, d2, d3, d4⟩ := spn_cells5 h.spans rfl i hi
    have i4 := old_no d4
    have i1 : Old w noOwn ⟨g, 1, none⟩ (.slice (some ⟨b, off, none⟩) m.spans.length cb) := old_no (h.blk.cell 1)
    have hgd : m.spans.getD i ⟨0, 0, 0, 0, 0⟩ = m.spans[i] := by simp [hi]
    simp only [hgd]
    clear d0 d1 d2 d3 d4 hgd
    go_enter Try.func20, Try.ntmps20
    go_wp2_with (first
      | ((with_reducible refine wl_shape ?_); first | (apply wl_boxa; exact rfl; exact hM; exact rfl; exact rfl; clear hM; intro gg ww hM; simp only [putT, List.set_cons_succ, List.set_cons_zero]) | (apply wl_box1; exact rfl; exact hM; exact rfl; exact rfl; exact rfl; clear hM; intro gg ww hM; simp only [putT, List.set_cons_succ, List.set_cons_zero]) | (apply wl_alloc; exact rfl; exact hM; exact rfl; exact inferInstance; clear hM; intro gg ww hM; simp only [putT, List.set_cons_succ, List.set_cons_zero]) | (apply wl_ld; exact rfl; exact hM; exact rfl; exact rfl; exact inferInstance; exact inferInstance; simp only [putT, List.set_cons_succ, List.set_cons_zero]) | (apply wl_lda; exact rfl; exact hM; exact rfl; exact rfl; exact inferInstance; exact inferInstance; exact inferInstance; exact inferInstance; simp only [putT, List.set_cons_succ, List.set_cons_zero]) | (apply wl_ldr; exact rfl; exact hM; exact rfl; exact rfl; exact inferInstance; exact inferInstance; exact inferInstance; exact inferInstance; simp only [putT, List.set_cons_succ, List.set_cons_zero]) | (apply wl_st; exact rfl; exact hM; exact rfl; exact rfl; exact rfl; exact rfl; exact inferInstance; exact inferInstance; clear hM; intro ww hM; simp only [putT, List.set_cons_succ, List.set_cons_zero]) | (apply wl_sta; exact rfl; exact hM; exact rfl; exact rfl; exact rfl; exact all_oneCell_toArray One.out; exact inferInstance; exact inferInstance; exact inferInstance; clear hM; intro ww hM; simp only [putT, List.set_cons_succ, List.set_cons_zero]) | (apply wl_bs0; exact rfl; exact hM; exact rfl; exact inferInstance; clear hM; intro gg ww hM; simp only [putT, List.set_cons_succ, List.set_cons_zero]) | (apply wl_bs1a; exact rfl; exact hM; exact rfl; exact inferInstance; exact rfl; exact inferInstance; clear hM; intro gg ww hM; simp only [putT, List.set_cons_succ, List.set_cons_zero]) | (apply wl_bs11; exact rfl; exact hM; exact rfl; exact inferInstance; exact rfl; exact rfl; clear hM; intro gg ww hM; simp only [putT, List.set_cons_succ, List.set_cons_zero]) | (apply wl_conv; exact rfl; exact hM; exact rfl; exact rfl; exact inferInstance; exact inferInstance; simp only [putT, List.set_cons_succ, List.set_cons_zero]))
      | (go_at_call 42; refine (spanR_any _ g _ _ ca cb m vs (h.grow hM.grow) (by omega) _ _ _).mono ?_; rintro e1 w1 ⟨rfl, rfl⟩; rw [unhide HSP]))
    go_ret
    exact ⟨rfl, hM.grow⟩
set_option maxRecDepth 100000 in
set_option maxHeartbeats 8000000 in
theorem RefAny_any {w0 w : World} {own : Nat → Prop} {L : List Item} {F2 : Nat → Prop} {g2 : Nat} {A2 B2 : Option Addr} {ca cb : Nat} {m : PL} {v2 : List Value} {V : Nat → Prop} (hM : Mem w0 own w (.res F2 (RefE F2 g2 A2 B2 ca cb m v2 V) :: L)) (ok : m.Ok) (fr most : Int) :
    Calls Try.prog 14 #[.pointer (some ⟨g2, 0, none⟩), .int .i64 fr, .int .i64 most] w fun e w' => ∃ A c us, e = .returned (.tuple #[.slice A (anyF m fr most).1.length c, .int .i64 ((anyF m fr most).2 : Nat)]) ∧ RefOut m v2 (anyF m fr most).1 us ∧
      Mem w0 own w' (.row (.slice A (anyF m fr most).1.length c) 42 5 (anyF m fr most).1.length (recCells (anyF m fr most).1 us) :: .res F2 (RefE F2 g2 A2 B2 ca cb m v2 V) :: L) := by
  have hlen := ok.len
  have hmx := offs_eq fr
  have c0 : ∀ (L' : List Item) [HasRef L' F2 g2 A2 B2 ca cb m v2 V], Cell w0 own L' ⟨g2, 0, none⟩ (.slice A2 m.recs.length ca) := fun L' h => ⟨fun w hM => (ref_has h hM).blk.cell 0⟩
  have hH0 := hide (ref_has (F := F2) (g := g2) (A := A2) (B := B2) (ca := ca) (cb := cb) (m := m) (vs := v2) (V := V) inferInstance hM)
  go_enter Try.func14, Try.ntmps14
  go_wp2
  have HM := hide hM
  go_loopw [8, 9] (fun u v wr => ∃ (i : Nat) (out : List Rec) (us : List Value) (A : Option Addr) (c : Nat), u = .slice A out.length c ∧ v = .int .i64 i ∧ out.length ≤ i ∧ Hid (scan (fun _ => true) m.recs.length most (m.recs.drop i) i out = anyF m fr most) ∧ RefOut m v2 out us ∧ (i ≤ m.recs.length ∨ i = offs fr) ∧
    Mem w0 own wr (.row (.slice A out.length c) 42 5 out.length (recCells out us) :: .res F2 (RefE F2 g2 A2 B2 ca cb m v2 V) :: L)) (fun _ v _ => m.recs.length - (intOf v).toNat)
  case atStart => exact ⟨offs fr, [], [], none, 0, rfl, by go_num, Nat.zero_le _, hide rfl, RefOut.nil _ _, .inr rfl, hM.pushNil _ 5⟩
  case round =>
    obtain ⟨i, out, us, A, c, rfl, rfl, hoi, hs, hO, hib, hM⟩ := hrel
    by_cases hlt : i < m.recs.length
    · obtain ⟨r, hr⟩ : ∃ r, m.recs[i]? = some r := ⟨_, List.getElem?_eq_getElem hlt⟩
      have hdc := drop_cons hr
      by_cases hmo : (out.length : Int) < most
      · have hgo : scan (fun _ => true) m.recs.length most (m.recs.drop (i + 1)) (i + 1) (out ++ [r]) = anyF m fr most := by
          have h1 := unhide hs
          rw [hdc, scan_go (by omega)] at h1
          simpa using h1
        have HGO := hide hgo
        have hH := unhide hH0
        obtain ⟨v, hv⟩ : ∃ v, v2[i]? = some v := ⟨_, List.getElem?_eq_getElem (by rw [hH.vl]; exact hlt)⟩
        obtain ⟨b, off, rfl, -, -⟩ := rec_range hH.recs hH.vl rfl i hlt
        obtain ⟨D, q, cq, e1, -, -, -⟩ := hH.vals i hlt
        have hve : v = .slice D q cq := by
          rw [List.getElem?_eq_getElem (by rw [hH.vl]; exact hlt)] at hv
          injection hv with hv
          rw [← hv]
          exact e1
        subst hve
        have hrr : m.recs[i] = r := (List.getElem?_eq_some_iff.1 hr).2
        have hO2 := RefOut.snoc hO hlt hv
        rw [hrr] at hO2
        have HO2 := hide hO2
        have c1 : ∀ (L' : List Item) [HasRef L' F2 g2 (some ⟨b, off, none⟩) B2 ca cb m v2 V], Rng w0 own L' b (off + i * 5) (recVals r (.slice D q cq)) := fun L' h => ⟨fun w hM => by
          have h1 := ref_has h hM
          obtain ⟨b', off', e2, _, h2⟩ := rec_range h1.recs h1.vl rfl i hlt
          injection e2 with e2
          injection e2 with e2 e3 _
          subst e2
          subst e3
          rw [hrr] at h2
          rw [List.getElem?_eq_getElem (by rw [h1.vl]; exact hlt)] at hv
          injection hv with hv
          rw [hv] at h2
          exact h2⟩
        have HV := hide hO.vl
        clear hgo hdc hr hs hO hO2 hrr e1 hv hH hH0 hib
        go_wp2_with (first | ((with_reducible refine wl_shape ?_); first | (apply wl_boxa; exact rfl; exact hM; exact rfl; exact rfl; clear hM; intro gg ww hM; simp only [putT, List.set_cons_succ, List.set_cons_zero]) | (apply wl_box1; exact rfl; exact hM; exact rfl; exact rfl; exact rfl; clear hM; intro gg ww hM; simp only [putT, List.set_cons_succ, List.set_cons_zero]) | (apply wl_alloc; exact rfl; exact hM; exact rfl; exact inferInstance; clear hM; intro gg ww hM; simp only [putT, List.set_cons_succ, List.set_cons_zero]) | (apply wl_ld; exact rfl; exact hM; exact rfl; exact rfl; exact inferInstance; exact inferInstance; simp only [putT, List.set_cons_succ, List.set_cons_zero]) | (apply wl_lda; exact rfl; exact hM; exact rfl; exact rfl; exact inferInstance; exact inferInstance; exact inferInstance; exact inferInstance; simp only [putT, List.set_cons_succ, List.set_cons_zero]) | (apply wl_ldr; exact rfl; exact hM; exact rfl; exact rfl; exact inferInstance; exact inferInstance; exact inferInstance; exact inferInstance; simp only [putT, List.set_cons_succ, List.set_cons_zero]) | (apply wl_st; exact rfl; exact hM; exact rfl; exact rfl; exact rfl; exact rfl; exact inferInstance; exact inferInstance; clear hM; intro ww hM; simp only [putT, List.set_cons_succ, List.set_cons_zero]) | (apply wl_sta; exact rfl; exact hM; exact rfl; exact rfl; exact rfl; exact all_oneCell_toArray One.out; exact inferInstance; exact inferInstance; exact inferInstance; clear hM; intro ww hM; simp only [putT, List.set_cons_succ, List.set_cons_zero]) | (apply wl_bs0; exact rfl; exact hM; exact rfl; exact inferInstance; clear hM; intro gg ww hM; simp only [putT, List.set_cons_succ, List.set_cons_zero]) | (apply wl_bs1a; exact rfl; exact hM; exact rfl; exact inferInstance; exact rfl; exact inferInstance; clear hM; intro gg ww hM; simp only [putT, List.set_cons_succ, List.set_cons_zero]) | (apply wl_bs11; exact rfl; exact hM; exact rfl; exact inferInstance; exact rfl; exact rfl; clear hM; intro gg ww hM; simp only [putT, List.set_cons_succ, List.set_cons_zero]) | (apply wl_conv; exact rfl; exact hM; exact rfl; exact rfl; exact inferInstance; exact inferInstance; simp only [putT, List.set_cons_succ, List.set_cons_zero])) | ((apply wl_app; exact rfl; exact hM; exact rfl; exact inferInstance; exact rfl; exact rfl; exact inferInstance; exact One.out; exact inferInstance; (unfold maxLen; omega); omega; exact rfl; exact rfl; clear hM; intro A4 c4 ww hM; simp only [List.set_cons_succ, List.set_cons_zero] at hM; simp only [putT, List.set_cons_succ, List.set_cons_zero])))
        go_roundw
        case rel =>
          refine ⟨i + 1, out ++ [r], us ++ [.slice D q cq], A4, c4, by simp, by go_num, by simp; omega, HGO, unhide HO2, .inl (by omega), ?_⟩
          rw [recCells_append out [r] us _ (unhide HV), show (out ++ [r]).length = out.length + 1 from by simp, show recCells [r] [Value.slice D q cq] = recVals r (.slice D q cq) from by simp [recCells]]
          exact hM.tail
        case measure => simp [intOf]; omega
      · have hst : anyF m fr most = (out, i) := by rw [← unhide hs, hdc, scan_stop (by omega)]
        have HST := hide hst
        have HO := hide hO
        clear hst hs hdc hr hO hH0 hib
        have hd1 : decide ((out.length : Int) < most) = false := decide_eq_false hmo
        go_wp2_with (first | ((with_reducible refine wl_shape ?_); first | (apply wl_boxa; exact rfl; exact hM; exact rfl; exact rfl; clear hM; intro gg ww hM; simp only [putT, List.set_cons_succ, List.set_cons_zero]) | (apply wl_box1; exact rfl; exact hM; exact rfl; exact rfl; exact rfl; clear hM; intro gg ww hM; simp only [putT, List.set_cons_succ, List.set_cons_zero]) | (apply wl_alloc; exact rfl; exact hM; exact rfl; exact inferInstance; clear hM; intro gg ww hM; simp only [putT, List.set_cons_succ, List.set_cons_zero]) | (apply wl_ld; exact rfl; exact hM; exact rfl; exact rfl; exact inferInstance; exact inferInstance; simp only [putT, List.set_cons_succ, List.set_cons_zero]) | (apply wl_lda; exact rfl; exact hM; exact rfl; exact rfl; exact inferInstance; exact inferInstance; exact inferInstance; exact inferInstance; simp only [putT, List.set_cons_succ, List.set_cons_zero]) | (apply wl_ldr; exact rfl; exact hM; exact rfl; exact rfl; exact inferInstance; exact inferInstance; exact inferInstance; exact inferInstance; simp only [putT, List.set_cons_succ, List.set_cons_zero]) | (apply wl_st; exact rfl; exact hM; exact rfl; exact rfl; exact rfl; exact rfl; exact inferInstance; exact inferInstance; clear hM; intro ww hM; simp only [putT, List.set_cons_succ, List.set_cons_zero]) | (apply wl_sta; exact rfl; exact hM; exact rfl; exact rfl; exact rfl; exact all_oneCell_toArray One.out; exact inferInstance; exact inferInstance; exact inferInstance; clear hM; intro ww hM; simp only [putT, List.set_cons_succ, List.set_cons_zero]) | (apply wl_bs0; exact rfl; exact hM; exact rfl; exact inferInstance; clear hM; intro gg ww hM; simp only [putT, List.set_cons_succ, List.set_cons_zero]) | (apply wl_bs1a; exact rfl; exact hM; exact rfl; exact inferInstance; exact rfl; exact inferInstance; clear hM; intro gg ww hM; simp only [putT, List.set_cons_succ, List.set_cons_zero]) | (apply wl_bs11; exact rfl; exact hM; exact rfl; exact inferInstance; exact rfl; exact rfl; clear hM; intro gg ww hM; simp only [putT, List.set_cons_succ, List.set_cons_zero]) | (apply wl_conv; exact rfl; exact hM; exact rfl; exact rfl; exact inferInstance; exact inferInstance; simp only [putT, List.set_cons_succ, List.set_cons_zero])) | (rw [hd1]))
        go_ret2
        rw [unhide HST]
        first
          | exact ⟨A, c, us, rfl, unhide HO, hM⟩
          | exact ⟨A, c, rfl, us, unhide HO, hM⟩
    · have hst : anyF m fr most = (out, i) := by rw [← unhide hs, List.drop_eq_nil_of_le (by omega)]; rfl
      have HST := hide hst
      have HO := hide hO
      clear hst hs hO hH0
      go_wp2_with ((with_reducible refine wl_shape ?_); first | (apply wl_boxa; exact rfl; exact hM; exact rfl; exact rfl; clear hM; intro gg ww hM; simp only [putT, List.set_cons_succ, List.set_cons_zero]) | (apply wl_box1; exact rfl; exact hM; exact rfl; exact rfl; exact rfl; clear hM; intro gg ww hM; simp only [putT, List.set_cons_succ, List.set_cons_zero]) | (apply wl_alloc; exact rfl; exact hM; exact rfl; exact inferInstance; clear hM; intro gg ww hM; simp only [putT, List.set_cons_succ, List.set_cons_zero]) | (apply wl_ld; exact rfl; exact hM; exact rfl; exact rfl; exact inferInstance; exact inferInstance; simp only [putT, List.set_cons_succ, List.set_cons_zero]) | (apply wl_lda; exact rfl; exact hM; exact rfl; exact rfl; exact inferInstance; exact inferInstance; exact inferInstance; exact inferInstance; simp only [putT, List.set_cons_succ, List.set_cons_zero]) | (apply wl_ldr; exact rfl; exact hM; exact rfl; exact rfl; exact inferInstance; exact inferInstance; exact inferInstance; exact inferInstance; simp only [putT, List.set_cons_succ, List.set_cons_zero]) | (apply wl_st; exact rfl; exact hM; exact rfl; exact rfl; exact rfl; exact rfl; exact inferInstance; exact inferInstance; clear hM; intro ww hM; simp only [putT, List.set_cons_succ, List.set_cons_zero]) | (apply wl_sta; exact rfl; exact hM; exact rfl; exact rfl; exact rfl; exact all_oneCell_toArray One.out; exact inferInstance; exact inferInstance; exact inferInstance; clear hM; intro ww hM; simp only [putT, List.set_cons_succ, List.set_cons_zero]) | (apply wl_bs0; exact rfl; exact hM; exact rfl; exact inferInstance; clear hM; intro gg ww hM; simp only [putT, List.set_cons_succ, List.set_cons_zero]) | (apply wl_bs1a; exact rfl; exact hM; exact rfl; exact inferInstance; exact rfl; exact inferInstance; clear hM; intro gg ww hM; simp only [putT, List.set_cons_succ, List.set_cons_zero]) | (apply wl_bs11; exact rfl; exact hM; exact rfl; exact inferInstance; exact rfl; exact rfl; clear hM; intro gg ww hM; simp only [putT, List.set_cons_succ, List.set_cons_zero]) | (apply wl_conv; exact rfl; exact hM; exact rfl; exact rfl; exact inferInstance; exact inferInstance; simp only [putT, List.set_cons_succ, List.set_cons_zero]))
      go_ret2
      rw [unhide HST]
      first
        | exact ⟨A, c, us, rfl, unhide HO, hM⟩
        | exact ⟨A, c, rfl, us, unhide HO, hM⟩
end
section
open Go.RowKit Go.MapKept
set_option linter.unusedSimpArgs false
set_option linter.unusedVariables false
theorem stable_le' (m : PL) : m.stable ≤ m.recs.length := by
  unfold PL.stable
  generalize (m.recs.length : Int) = a
  induction m.spans generalizing a with
  | nil => exact Int.le_refl _
  | cons s l ih =>
    rw [List.foldl_cons]
    split
    · exact Int.le_trans (ih _) (by omega)
    · exact ih _
attribute [local irreducible] wpList Code.wp GW Calls
set_option maxRecDepth 100000 in
set_option maxHeartbeats 8000000 in
theorem RefCommitted_any {w0 w : World} {own : Nat → Prop} {L : List Item} {F2 : Nat → Prop} {g2 : Nat} {A2 B2 : Option Addr} {ca cb : Nat} {m : PL} {v2 : List Value} {V : Nat → Prop} (hM : Mem w0 own w (.res F2 (RefE F2 g2 A2 B2 ca cb m v2 V) :: L)) (ok : m.Ok) (hsl' : m.spans.length ≤ 1000000) (fr most : Int) :
    Calls Try.prog 15 #[.pointer (some ⟨g2, 0, none⟩), .int .i64 fr, .int .i64 most] w fun e w' => ∃ A c us, e = .returned (.tuple #[.slice A (comF m fr most).1.length c, .int .i64 ((comF m fr most).2 : Nat)]) ∧ RefOut m v2 (comF m fr most).1 us ∧
      Mem w0 own w' (.row (.slice A (comF m fr most).1.length c) 42 5 (comF m fr most).1.length (recCells (comF m fr most).1 us) :: .res F2 (RefE F2 g2 A2 B2 ca cb m v2 V) :: L) := by
  have hlen := ok.len
  have hstl := stable_le' m
  have hmx := offs_eq fr
  have c0 : ∀ (L' : List Item) [HasRef L' F2 g2 A2 B2 ca cb m v2 V], Cell w0 own L' ⟨g2, 0, none⟩ (.slice A2 m.recs.length ca) := fun L' h => ⟨fun w hM => (ref_has h hM).blk.cell 0⟩
  have hH0 := hide (ref_has (F := F2) (g := g2) (A := A2) (B := B2) (ca := ca) (cb := cb) (m := m) (vs := v2) (V := V) inferInstance hM)
  have HS : ∀ w' L', Mem w0 own w' L' → HasRef L' F2 g2 A2 B2 ca cb m v2 V → Calls Try.prog 19 #[.pointer (some ⟨g2, 0, none⟩)] w' fun e w'' => e = .returned (.int .i64 m.stable) ∧ w' = w'' := fun w' L' hM h =>
    StableR_any w' g2 A2 B2 ca cb m v2 (ref_has h hM).toRefR (by omega)
  have HK : ∀ r v w' L', Mem w0 own w' L' → HasRef L' F2 g2 A2 B2 ca cb m v2 V → Calls Try.prog 20 #[.pointer (some ⟨g2, 0, none⟩), .agg (recVals r v).toArray] w' fun e w'' => e = .returned (.int .i64 (kindAt m r.p r.e r.t)) ∧ Grow w' noOwn w'' := fun r v w' L' hM h =>
    Kind_any w' g2 A2 B2 ca cb m v2 (ref_has h hM).toRefR hsl' r v
  go_enter Try.func15, Try.ntmps15
  go_wp2
  have HM := hide hM
  go_loopw [8, 9] (fun u v wr => ∃ (i : Nat) (out : List Rec) (us : List Value) (A : Option Addr) (c : Nat), u = .slice A out.length c ∧ v = .int .i64 i ∧ out.length ≤ i ∧ Hid (scan (fun r => comS m.spans r.p r.e r.t) m.stable most (m.recs.drop i) i out = comF m fr most) ∧ RefOut m v2 out us ∧ (i ≤ m.recs.length ∨ i = offs fr) ∧
    Mem w0 own wr (.row (.slice A out.length c) 42 5 out.length (recCells out us) :: .res F2 (RefE F2 g2 A2 B2 ca cb m v2 V) :: L)) (fun _ v _ => m.recs.length - (intOf v).toNat)
  case atStart => exact ⟨offs fr, [], [], none, 0, rfl, by go_num, Nat.zero_le _, hide rfl, RefOut.nil _ _, .inr rfl, hM.pushNil _ 5⟩
  case round =>
    obtain ⟨i, out, us, A, c, rfl, rfl, hoi, hs, hO, hib, hM⟩ := hrel
    by_cases hlt0 : (i : Int) < m.stable
    · have hlt : i < m.recs.length := by omega
      obtain ⟨r, hr⟩ : ∃ r, m.recs[i]? = some r := ⟨_, List.getElem?_eq_getElem hlt⟩
      have hdc := drop_cons hr
      by_cases hmo : (out.length : Int) < most
      · cases hk2 : (kindAt m r.p r.e r.t == 2)
        · have hgo : scan (fun r => comS m.spans r.p r.e r.t) m.stable most (m.recs.drop (i + 1)) (i + 1) out = comF m fr most := by
            have h1 := unhide hs
            rw [hdc, scan_go (by omega)] at h1
            rw [← kind_com ok, hk2] at h1
            simpa using h1
          have HGO := hide hgo
          have hH := unhide hH0
          obtain ⟨v, hv⟩ : ∃ v, v2[i]? = some v := ⟨_, List.getElem?_eq_getElem (by rw [hH.vl]; exact hlt)⟩
          obtain ⟨b, off, rfl, -, -⟩ := rec_range hH.recs hH.vl rfl i hlt
          obtain ⟨D, q, cq, e1, -, -, -⟩ := hH.vals i hlt
          have hve : v = .slice D q cq := by
            rw [List.getElem?_eq_getElem (by rw [hH.vl]; exact hlt)] at hv
            injection hv with hv
            rw [← hv]
            exact e1
          subst hve
          have hrr : m.recs[i] = r := (List.getElem?_eq_some_iff.1 hr).2
          have HO2 := hide hO
          have c1 : ∀ (L' : List Item) [HasRef L' F2 g2 (some ⟨b, off, none⟩) B2 ca cb m v2 V], Rng w0 own L' b (off + i * 5) (recVals r (.slice D q cq)) := fun L' h => ⟨fun w hM => by
            have h1 := ref_has h hM
            obtain ⟨b', off', e2, _, h2⟩ := rec_range h1.recs h1.vl rfl i hlt
            injection e2 with e2
            injection e2 with e2 e3 _
            subst e2
            subst e3
            rw [hrr] at h2
            rw [List.getElem?_eq_getElem (by rw [h1.vl]; exact hlt)] at hv
            injection hv with hv
            rw [hv] at h2
            exact h2⟩
          have HV := hide hO.vl
          clear hgo hdc hr hs hO hrr e1 hv hH hH0 hib
          go_wp2_with (first | ((with_reducible refine wl_shape ?_); first | (apply wl_boxa; exact rfl; exact hM; exact rfl; exact rfl; clear hM; intro gg ww hM; simp only [putT, List.set_cons_succ, List.set_cons_zero]) | (apply wl_box1; exact rfl; exact hM; exact rfl; exact rfl; exact rfl; clear hM; intro gg ww hM; simp only [putT, List.set_cons_succ, List.set_cons_zero]) | (apply wl_alloc; exact rfl; exact hM; exact rfl; exact inferInstance; clear hM; intro gg ww hM; simp only [putT, List.set_cons_succ, List.set_cons_zero]) | (apply wl_ld; exact rfl; exact hM; exact rfl; exact rfl; exact inferInstance; exact inferInstance; simp only [putT, List.set_cons_succ, List.set_cons_zero]) | (apply wl_lda; exact rfl; exact hM; exact rfl; exact rfl; exact inferInstance; exact inferInstance; exact inferInstance; exact inferInstance; simp only [putT, List.set_cons_succ, List.set_cons_zero]) | (apply wl_ldr; exact rfl; exact hM; exact rfl; exact rfl; exact inferInstance; exact inferInstance; exact inferInstance; exact inferInstance; simp only [putT, List.set_cons_succ, List.set_cons_zero]) | (apply wl_st; exact rfl; exact hM; exact rfl; exact rfl; exact rfl; exact rfl; exact inferInstance; exact inferInstance; clear hM; intro ww hM; simp only [putT, List.set_cons_succ, List.set_cons_zero]) | (apply wl_sta; exact rfl; exact hM; exact rfl; exact rfl; exact rfl; exact all_oneCell_toArray One.out; exact inferInstance; exact inferInstance; exact inferInstance; clear hM; intro ww hM; simp only [putT, List.set_cons_succ, List.set_cons_zero]) | (apply wl_bs0; exact rfl; exact hM; exact rfl; exact inferInstance; clear hM; intro gg ww hM; simp only [putT, List.set_cons_succ, List.set_cons_zero]) | (apply wl_bs1a; exact rfl; exact hM; exact rfl; exact inferInstance; exact rfl; exact inferInstance; clear hM; intro gg ww hM; simp only [putT, List.set_cons_succ, List.set_cons_zero]) | (apply wl_bs11; exact rfl; exact hM; exact rfl; exact inferInstance; exact rfl; exact rfl; clear hM; intro gg ww hM; simp only [putT, List.set_cons_succ, List.set_cons_zero]) | (apply wl_conv; exact rfl; exact hM; exact rfl; exact rfl; exact inferInstance; exact inferInstance; simp only [putT, List.set_cons_succ, List.set_cons_zero])) | (go_at_call 19; refine (HS _ _ hM inferInstance).mono ?_; rintro e1 w1 ⟨rfl, rfl⟩) | (go_at_call 20; refine (HK _ _ _ _ hM inferInstance).mono ?_; rintro e1 w1 ⟨rfl, hg⟩; replace hM := hM.call hg; clear hg) | (rw [hk2]))
          go_roundw
          case rel => exact ⟨i + 1, out, us, A, c, rfl, by go_num, by omega, HGO, unhide HO2, .inl (by omega), hM⟩
          case measure => simp [intOf]; omega
        · have hgo : scan (fun r => comS m.spans r.p r.e r.t) m.stable most (m.recs.drop (i + 1)) (i + 1) (out ++ [r]) = comF m fr most := by
            have h1 := unhide hs
            rw [hdc, scan_go (by omega)] at h1
            rw [← kind_com ok, hk2] at h1
            simpa using h1
          have HGO := hide hgo
          have hH := unhide hH0
          obtain ⟨v, hv⟩ : ∃ v, v2[i]? = some v := ⟨_, List.getElem?_eq_getElem (by rw [hH.vl]; exact hlt)⟩
          obtain ⟨b, off, rfl, -, -⟩ := rec_range hH.recs hH.vl rfl i hlt
          obtain ⟨D, q, cq, e1, -, -, -⟩ := hH.vals i hlt
          have hve : v = .slice D q cq := by
            rw [List.getElem?_eq_getElem (by rw [hH.vl]; exact hlt)] at hv
            injection hv with hv
            rw [← hv]
            exact e1
          subst hve
          have hrr : m.recs[i] = r := (List.getElem?_eq_some_iff.1 hr).2
          have hO2 := RefOut.snoc hO hlt hv
          rw [hrr] at hO2
          have HO2 := hide hO2
          have c1 : ∀ (L' : List Item) [HasRef L' F2 g2 (some ⟨b, off, none⟩) B2 ca cb m v2 V], Rng w0 own L' b (off + i * 5) (recVals r (.slice D q cq)) := fun L' h => ⟨fun w hM => by
            have h1 := ref_has h hM
            obtain ⟨b', off', e2, _, h2⟩ := rec_range h1.recs h1.vl rfl i hlt
            injection e2 with e2
            injection e2 with e2 e3 _
            subst e2
            subst e3
            rw [hrr] at h2
            rw [List.getElem?_eq_getElem (by rw [h1.vl]; exact hlt)] at hv
            injection hv with hv
            rw [hv] at h2
            exact h2⟩
          have HV := hide hO.vl
          clear hgo hdc hr hs hO hO2 hrr e1 hv hH hH0 hib
          go_wp2_with (first | ((with_reducible refine wl_shape ?_); first | (apply wl_boxa; exact rfl; exact hM; exact rfl; exact rfl; clear hM; intro gg ww hM; simp only [putT, List.set_cons_succ, List.set_cons_zero]) | (apply wl_box1; exact rfl; exact hM; exact rfl; exact rfl; exact rfl; clear hM; intro gg ww hM; simp only [putT, List.set_cons_succ, List.set_cons_zero]) | (apply wl_alloc; exact rfl; exact hM; exact rfl; exact inferInstance; clear hM; intro gg ww hM; simp only [putT, List.set_cons_succ, List.set_cons_zero]) | (apply wl_ld; exact rfl; exact hM; exact rfl; exact rfl; exact inferInstance; exact inferInstance; simp only [putT, List.set_cons_succ, List.set_cons_zero]) | (apply wl_lda; exact rfl; exact hM; exact rfl; exact rfl; exact inferInstance; exact inferInstance; exact inferInstance; exact inferInstance; simp only [putT, List.set_cons_succ, List.set_cons_zero]) | (apply wl_ldr; exact rfl; exact hM; exact rfl; exact rfl; exact inferInstance; exact inferInstance; exact inferInstance; exact inferInstance; simp only [putT, List.set_cons_succ, List.set_cons_zero]) | (apply wl_st; exact rfl; exact hM; exact rfl; exact rfl; exact rfl; exact rfl; exact inferInstance; exact inferInstance; clear hM; intro ww hM; simp only [putT, List.set_cons_succ, List.set_cons_zero]) | (apply wl_sta; exact rfl; exact hM; exact rfl; exact rfl; exact rfl; exact all_oneCell_toArray One.out; exact inferInstance; exact inferInstance; exact inferInstance; clear hM; intro ww hM; simp only [putT, List.set_cons_succ, List.set_cons_zero]) | (apply wl_bs0; exact rfl; exact hM; exact rfl; exact inferInstance; clear hM; intro gg ww hM; simp only [putT, List.set_cons_succ, List.set_cons_zero]) | (apply wl_bs1a; exact rfl; exact hM; exact rfl; exact inferInstance; exact rfl; exact inferInstance; clear hM; intro gg ww hM; simp only [putT, List.set_cons_succ, List.set_cons_zero]) | (apply wl_bs11; exact rfl; exact hM; exact rfl; exact inferInstance; exact rfl; exact rfl; clear hM; intro gg ww hM; simp only [putT, List.set_cons_succ, List.set_cons_zero]) | (apply wl_conv; exact rfl; exact hM; exact rfl; exact rfl; exact inferInstance; exact inferInstance; simp only [putT, List.set_cons_succ, List.set_cons_zero])) | (go_at_call 19; refine (HS _ _ hM inferInstance).mono ?_; rintro e1 w1 ⟨rfl, rfl⟩) | (go_at_call 20; refine (HK _ _ _ _ hM inferInstance).mono ?_; rintro e1 w1 ⟨rfl, hg⟩; replace hM := hM.call hg; clear hg) | ((apply wl_app; exact rfl; exact hM; exact rfl; exact inferInstance; exact rfl; exact rfl; exact inferInstance; exact One.out; exact inferInstance; (unfold maxLen; omega); omega; exact rfl; exact rfl; clear hM; intro A4 c4 ww hM; simp only [List.set_cons_succ, List.set_cons_zero] at hM; simp only [putT, List.set_cons_succ, List.set_cons_zero])) | (rw [hk2]))
          go_roundw
          case rel =>
            refine ⟨i + 1, out ++ [r], us ++ [.slice D q cq], A4, c4, by simp, by go_num, by simp; omega, HGO, unhide HO2, .inl (by omega), ?_⟩
            rw [recCells_append out [r] us _ (unhide HV), show (out ++ [r]).length = out.length + 1 from by simp, show recCells [r] [Value.slice D q cq] = recVals r (.slice D q cq) from by simp [recCells]]
            exact hM.tail
          case measure => simp [intOf]; omega
      · have hst : comF m fr most = (out, i) := by rw [← unhide hs, hdc, scan_stop (by omega)]
        have HST := hide hst
        have HO := hide hO
        clear hst hs hdc hr hO hH0 hib
        have hd1 : decide ((out.length : Int) < most) = false := decide_eq_false hmo
        go_wp2_with (first | ((with_reducible refine wl_shape ?_); first | (apply wl_boxa; exact rfl; exact hM; exact rfl; exact rfl; clear hM; intro gg ww hM; simp only [putT, List.set_cons_succ, List.set_cons_zero]) | (apply wl_box1; exact rfl; exact hM; exact rfl; exact rfl; exact rfl; clear hM; intro gg ww hM; simp only [putT, List.set_cons_succ, List.set_cons_zero]) | (apply wl_alloc; exact rfl; exact hM; exact rfl; exact inferInstance; clear hM; intro gg ww hM; simp only [putT, List.set_cons_succ, List.set_cons_zero]) | (apply wl_ld; exact rfl; exact hM; exact rfl; exact rfl; exact inferInstance; exact inferInstance; simp only [putT, List.set_cons_succ, List.set_cons_zero]) | (apply wl_lda; exact rfl; exact hM; exact rfl; exact rfl; exact inferInstance; exact inferInstance; exact inferInstance; exact inferInstance; simp only [putT, List.set_cons_succ, List.set_cons_zero]) | (apply wl_ldr; exact rfl; exact hM; exact rfl; exact rfl; exact inferInstance; exact inferInstance; exact inferInstance; exact inferInstance; simp only [putT, List.set_cons_succ, List.set_cons_zero]) | (apply wl_st; exact rfl; exact hM; exact rfl; exact rfl; exact rfl; exact rfl; exact inferInstance; exact inferInstance; clear hM; intro ww hM; simp only [putT, List.set_cons_succ, List.set_cons_zero]) | (apply wl_sta; exact rfl; exact hM; exact rfl; exact rfl; exact rfl; exact all_oneCell_toArray One.out; exact inferInstance; exact inferInstance; exact inferInstance; clear hM; intro ww hM; simp only [putT, List.set_cons_succ, List.set_cons_zero]) | (apply wl_bs0; exact rfl; exact hM; exact rfl; exact inferInstance; clear hM; intro gg ww hM; simp only [putT, List.set_cons_succ, List.set_cons_zero]) | (apply wl_bs1a; exact rfl; exact hM; exact rfl; exact inferInstance; exact rfl; exact inferInstance; clear hM; intro gg ww hM; simp only [putT, List.set_cons_succ, List.set_cons_zero]) | (apply wl_bs11; exact rfl; exact hM; exact rfl; exact inferInstance; exact rfl; exact rfl; clear hM; intro gg ww hM; simp only [putT, List.set_cons_succ, List.set_cons_zero]) | (apply wl_conv; exact rfl; exact hM; exact rfl; exact rfl; exact inferInstance; exact inferInstance; simp only [putT, List.set_cons_succ, List.set_cons_zero])) | (go_at_call 19; refine (HS _ _ hM inferInstance).mono ?_; rintro e1 w1 ⟨rfl, rfl⟩) | (rw [hd1]))
        go_ret2
        rw [unhide HST]
        first
          | exact ⟨A, c, us, rfl, unhide HO, hM⟩
          | exact ⟨A, c, rfl, us, unhide HO, hM⟩
    · have hst : comF m fr most = (out, i) := by
        rw [← unhide hs]
        cases hd : m.recs.drop i with
        | nil => rfl
        | cons r rs => rw [scan_stop (by omega)]
      have HST := hide hst
      have HO := hide hO
      clear hst hs hO hH0
      go_wp2_with (first | ((with_reducible refine wl_shape ?_); first | (apply wl_boxa; exact rfl; exact hM; exact rfl; exact rfl; clear hM; intro gg ww hM; simp only [putT, List.set_cons_succ, List.set_cons_zero]) | (apply wl_box1; exact rfl; exact hM; exact rfl; exact rfl; exact rfl; clear hM; intro gg ww hM; simp only [putT, List.set_cons_succ, List.set_cons_zero]) | (apply wl_alloc; exact rfl; exact hM; exact rfl; exact inferInstance; clear hM; intro gg ww hM; simp only [putT, List.set_cons_succ, List.set_cons_zero]) | (apply wl_ld; exact rfl; exact hM; exact rfl; exact rfl; exact inferInstance; exact inferInstance; simp only [putT, List.set_cons_succ, List.set_cons_zero]) | (apply wl_lda; exact rfl; exact hM; exact rfl; exact rfl; exact inferInstance; exact inferInstance; exact inferInstance; exact inferInstance; simp only [putT, List.set_cons_succ, List.set_cons_zero]) | (apply wl_ldr; exact rfl; exact hM; exact rfl; exact rfl; exact inferInstance; exact inferInstance; exact inferInstance; exact inferInstance; simp only [putT, List.set_cons_succ, List.set_cons_zero]) | (apply wl_st; exact rfl; exact hM; exact rfl; exact rfl; exact rfl; exact rfl; exact inferInstance; exact inferInstance; clear hM; intro ww hM; simp only [putT, List.set_cons_succ, List.set_cons_zero]) | (apply wl_sta; exact rfl; exact hM; exact rfl; exact rfl; exact rfl; exact all_oneCell_toArray One.out; exact inferInstance; exact inferInstance; exact inferInstance; clear hM; intro ww hM; simp only [putT, List.set_cons_succ, List.set_cons_zero]) | (apply wl_bs0; exact rfl; exact hM; exact rfl; exact inferInstance; clear hM; intro gg ww hM; simp only [putT, List.set_cons_succ, List.set_cons_zero]) | (apply wl_bs1a; exact rfl; exact hM; exact rfl; exact inferInstance; exact rfl; exact inferInstance; clear hM; intro gg ww hM; simp only [putT, List.set_cons_succ, List.set_cons_zero]) | (apply wl_bs11; exact rfl; exact hM; exact rfl; exact inferInstance; exact rfl; exact rfl; clear hM; intro gg ww hM; simp only [putT, List.set_cons_succ, List.set_cons_zero]) | (apply wl_conv; exact rfl; exact hM; exact rfl; exact rfl; exact inferInstance; exact inferInstance; simp only [putT, List.set_cons_succ, List.set_cons_zero])) | (go_at_call 19; refine (HS _ _ hM inferInstance).mono ?_; rintro e1 w1 ⟨rfl, rfl⟩))
      go_ret2
      rw [unhide HST]
      first
        | exact ⟨A, c, us, rfl, unhide HO, hM⟩
        | exact ⟨A, c, rfl, us, unhide HO, hM⟩
end
section
open Go.RowKit Go.MapKept
set_option linter.unusedSimpArgs false
set_option linter.unusedVariables false
def abF (fr to : Int) (s : Spn) : Bool := decide (s.k = 3) && decide (max fr 0 ≤ s.f) && decide (s.f < to)
theorem aborted_eq (m : PL) (fr to : Int) : aborted m fr to = m.spans.filter (abF fr to) := rfl
theorem ab_yes {l : List Spn} {fr to : Int} {j : Nat} (hj : j < l.length) (h : abF fr to l[j] = true) : (l.take (j + 1)).filter (abF fr to) = (l.take j).filter (abF fr to) ++ [l[j]] := by rw [filter_step hj, h, if_pos rfl]
theorem ab_no {l : List Spn} {fr to : Int} {j : Nat} (hj : j < l.length) (h : abF fr to l[j] = false) : (l.take (j + 1)).filter (abF fr to) = (l.take j).filter (abF fr to) := by rw [filter_step hj, h]; simp
attribute [local irreducible] wpList Code.wp GW Calls
set_option maxRecDepth 100000 in
set_option maxHeartbeats 8000000 in
theorem Aborted_any {w0 w : World} {own : Nat → Prop} {L : List Item} {g : Nat} {F : Nat → Prop} {m : PL} (hM : Mem w0 own w (.res F (LogP F g m) :: L)) (hsl' : m.spans.length ≤ 1000000) (fr to : Int) :
    Calls Try.prog 21 #[.pointer (some ⟨g, 0, none⟩), .int .i64 fr, .int .i64 to] w fun e w' => ∃ A c, e = .returned (.slice A (aborted m fr to).length c) ∧ Mem w0 own w' (.row (.slice A (aborted m fr to).length c) 39 5 (aborted m fr to).length (spnCells (aborted m fr to)) :: .res F (LogP F g m) :: L) := by
  rw [aborted_eq]
  go_enter Try.func21, Try.ntmps21
  go_wp2_with (go_at_call 18; refine (Spans_pushed 0 hM rfl hsl').mono ?_; rintro e1 w1 ⟨As, cs, rfl, hM1⟩; clear hM; have hM := hM1; clear hM1; (try simp only [List.set_cons_succ, List.set_cons_zero] at hM))
  have HM := hide hM
  go_loopw [7, 13] (fun u v wr => ∃ (j : Nat) (out : List Spn) (A : Option Addr) (c : Nat), j ≤ m.spans.length ∧ u = .slice A out.length c ∧ v = .int .i64 j ∧ out.length ≤ j ∧ Hid ((m.spans.take j).filter (abF fr to) = out) ∧ Mem w0 own wr (.row (.slice A out.length c) 39 5 out.length (spnCells out) :: .res (rdF As m.spans.length) (RdP 5 As m.spans.length (spnCells m.spans)) :: .res F (LogP F g m) :: L)) (fun _ v _ => m.spans.length - (intOf v).toNat)
  case atStart => exact ⟨0, [], none, 0, Nat.zero_le _, rfl, rfl, Nat.zero_le _, hide rfl, hM.pushNil _ 5⟩
  case round =>
    obtain ⟨j, out, A, c, hj, rfl, rfl, hoj, ho, hM⟩ := hrel
    by_cases hlt : j < m.spans.length
    · obtain ⟨b, off, rfl⟩ := rd_form (A := As) (n := m.spans.length) (size := 5) (xs := spnCells m.spans) hM (by omega) (by decide)
      have hget := spnCells_get m.spans j hlt
      have hyes := ab_yes (fr := fr) (to := to) hlt
      have hno := ab_no (fr := fr) (to := to) hlt
      rw [unhide ho] at hyes hno
      generalize m.spans[j] = sp at hget hyes hno
      have c1 : ∀ (L' : List Item) [HasRd L' (some ⟨b, off, none⟩) m.spans.length 5 (spnCells m.spans)], Rng w0 own L' b (off + j * 5) (spnVals sp) := fun L' h => ⟨fun w hM i v hi => by
        have hi5 : i < 5 := by have := (List.getElem?_eq_some_iff.1 hi).1; simpa [spnVals] using this
        exact (rd_cell h (by decide) (j * 5 + i) (by omega) (by omega) ((hget i hi5).trans hi)).out w hM⟩
      clear hget ho
      rcases (by omega : ¬ sp.k = 3 ∨ (sp.k = 3 ∧ ¬ max fr 0 ≤ sp.f) ∨ (sp.k = 3 ∧ max fr 0 ≤ sp.f ∧ ¬ sp.f < to) ∨ (sp.k = 3 ∧ max fr 0 ≤ sp.f ∧ sp.f < to)) with q1 | ⟨q1, q2⟩ | ⟨q1, q2, q3⟩ | ⟨q1, q2, q3⟩
      · have HNO := hide (hno (by unfold abF; simp [q1]))
        clear hyes hno
        have e3 : (sp.k == 3) = false := by simpa using q1
        go_wp2_with (first | ((with_reducible refine wl_shape ?_); first | (apply wl_boxa; exact rfl; exact hM; exact rfl; exact rfl; clear hM; intro gg ww hM; simp only [putT, List.set_cons_succ, List.set_cons_zero]) | (apply wl_box1; exact rfl; exact hM; exact rfl; exact rfl; exact rfl; clear hM; intro gg ww hM; simp only [putT, List.set_cons_succ, List.set_cons_zero]) | (apply wl_alloc; exact rfl; exact hM; exact rfl; exact inferInstance; clear hM; intro gg ww hM; simp only [putT, List.set_cons_succ, List.set_cons_zero]) | (apply wl_ld; exact rfl; exact hM; exact rfl; exact rfl; exact inferInstance; exact inferInstance; simp only [putT, List.set_cons_succ, List.set_cons_zero]) | (apply wl_lda; exact rfl; exact hM; exact rfl; exact rfl; exact inferInstance; exact inferInstance; exact inferInstance; exact inferInstance; simp only [putT, List.set_cons_succ, List.set_cons_zero]) | (apply wl_ldr; exact rfl; exact hM; exact rfl; exact rfl; exact inferInstance; exact inferInstance; exact inferInstance; exact inferInstance; simp only [putT, List.set_cons_succ, List.set_cons_zero]) | (apply wl_st; exact rfl; exact hM; exact rfl; exact rfl; exact rfl; exact rfl; exact inferInstance; exact inferInstance; clear hM; intro ww hM; simp only [putT, List.set_cons_succ, List.set_cons_zero]) | (apply wl_sta; exact rfl; exact hM; exact rfl; exact rfl; exact rfl; exact all_oneCell_toArray One.out; exact inferInstance; exact inferInstance; exact inferInstance; clear hM; intro ww hM; simp only [putT, List.set_cons_succ, List.set_cons_zero]) | (apply wl_bs0; exact rfl; exact hM; exact rfl; exact inferInstance; clear hM; intro gg ww hM; simp only [putT, List.set_cons_succ, List.set_cons_zero]) | (apply wl_bs1a; exact rfl; exact hM; exact rfl; exact inferInstance; exact rfl; exact inferInstance; clear hM; intro gg ww hM; simp only [putT, List.set_cons_succ, List.set_cons_zero]) | (apply wl_bs11; exact rfl; exact hM; exact rfl; exact inferInstance; exact rfl; exact rfl; clear hM; intro gg ww hM; simp only [putT, List.set_cons_succ, List.set_cons_zero]) | (apply wl_conv; exact rfl; exact hM; exact rfl; exact rfl; exact inferInstance; exact inferInstance; simp only [putT, List.set_cons_succ, List.set_cons_zero])) | (rw [e3]))
        go_roundw
        case rel => exact ⟨j + 1, out, A, c, by omega, rfl, by go_num, by omega, HNO, hM.tail⟩
        case measure => simp [intOf]; omega
      · have HNO := hide (hno (by unfold abF; simp [q1]; omega))
        clear hyes hno
        have e2 : decide (max fr 0 ≤ sp.f) = false := decide_eq_false q2
        go_wp2_with (first | ((with_reducible refine wl_shape ?_); first | (apply wl_boxa; exact rfl; exact hM; exact rfl; exact rfl; clear hM; intro gg ww hM; simp only [putT, List.set_cons_succ, List.set_cons_zero]) | (apply wl_box1; exact rfl; exact hM; exact rfl; exact rfl; exact rfl; clear hM; intro gg ww hM; simp only [putT, List.set_cons_succ, List.set_cons_zero]) | (apply wl_alloc; exact rfl; exact hM; exact rfl; exact inferInstance; clear hM; intro gg ww hM; simp only [putT, List.set_cons_succ, List.set_cons_zero]) | (apply wl_ld; exact rfl; exact hM; exact rfl; exact rfl; exact inferInstance; exact inferInstance; simp only [putT, List.set_cons_succ, List.set_cons_zero]) | (apply wl_lda; exact rfl; exact hM; exact rfl; exact rfl; exact inferInstance; exact inferInstance; exact inferInstance; exact inferInstance; simp only [putT, List.set_cons_succ, List.set_cons_zero]) | (apply wl_ldr; exact rfl; exact hM; exact rfl; exact rfl; exact inferInstance; exact inferInstance; exact inferInstance; exact inferInstance; simp only [putT, List.set_cons_succ, List.set_cons_zero]) | (apply wl_st; exact rfl; exact hM; exact rfl; exact rfl; exact rfl; exact rfl; exact inferInstance; exact inferInstance; clear hM; intro ww hM; simp only [putT, List.set_cons_succ, List.set_cons_zero]) | (apply wl_sta; exact rfl; exact hM; exact rfl; exact rfl; exact rfl; exact all_oneCell_toArray One.out; exact inferInstance; exact inferInstance; exact inferInstance; clear hM; intro ww hM; simp only [putT, List.set_cons_succ, List.set_cons_zero]) | (apply wl_bs0; exact rfl; exact hM; exact rfl; exact inferInstance; clear hM; intro gg ww hM; simp only [putT, List.set_cons_succ, List.set_cons_zero]) | (apply wl_bs1a; exact rfl; exact hM; exact rfl; exact inferInstance; exact rfl; exact inferInstance; clear hM; intro gg ww hM; simp only [putT, List.set_cons_succ, List.set_cons_zero]) | (apply wl_bs11; exact rfl; exact hM; exact rfl; exact inferInstance; exact rfl; exact rfl; clear hM; intro gg ww hM; simp only [putT, List.set_cons_succ, List.set_cons_zero]) | (apply wl_conv; exact rfl; exact hM; exact rfl; exact rfl; exact inferInstance; exact inferInstance; simp only [putT, List.set_cons_succ, List.set_cons_zero])) | (rw [q1]) | (rw [e2]))
        go_roundw
        case rel => exact ⟨j + 1, out, A, c, by omega, rfl, by go_num, by omega, HNO, hM.tail⟩
        case measure => simp [intOf]; omega
      · have HNO := hide (hno (by unfold abF; simp [q1]; omega))
        clear hyes hno
        have e4 : decide (sp.f < to) = false := decide_eq_false q3
        have e2 : decide (max fr 0 ≤ sp.f) = true := decide_eq_true q2
        go_wp2_with (first | ((with_reducible refine wl_shape ?_); first | (apply wl_boxa; exact rfl; exact hM; exact rfl; exact rfl; clear hM; intro gg ww hM; simp only [putT, List.set_cons_succ, List.set_cons_zero]) | (apply wl_box1; exact rfl; exact hM; exact rfl; exact rfl; exact rfl; clear hM; intro gg ww hM; simp only [putT, List.set_cons_succ, List.set_cons_zero]) | (apply wl_alloc; exact rfl; exact hM; exact rfl; exact inferInstance; clear hM; intro gg ww hM; simp only [putT, List.set_cons_succ, List.set_cons_zero]) | (apply wl_ld; exact rfl; exact hM; exact rfl; exact rfl; exact inferInstance; exact inferInstance; simp only [putT, List.set_cons_succ, List.set_cons_zero]) | (apply wl_lda; exact rfl; exact hM; exact rfl; exact rfl; exact inferInstance; exact inferInstance; exact inferInstance; exact inferInstance; simp only [putT, List.set_cons_succ, List.set_cons_zero]) | (apply wl_ldr; exact rfl; exact hM; exact rfl; exact rfl; exact inferInstance; exact inferInstance; exact inferInstance; exact inferInstance; simp only [putT, List.set_cons_succ, List.set_cons_zero]) | (apply wl_st; exact rfl; exact hM; exact rfl; exact rfl; exact rfl; exact rfl; exact inferInstance; exact inferInstance; clear hM; intro ww hM; simp only [putT, List.set_cons_succ, List.set_cons_zero]) | (apply wl_sta; exact rfl; exact hM; exact rfl; exact rfl; exact rfl; exact all_oneCell_toArray One.out; exact inferInstance; exact inferInstance; exact inferInstance; clear hM; intro ww hM; simp only [putT, List.set_cons_succ, List.set_cons_zero]) | (apply wl_bs0; exact rfl; exact hM; exact rfl; exact inferInstance; clear hM; intro gg ww hM; simp only [putT, List.set_cons_succ, List.set_cons_zero]) | (apply wl_bs1a; exact rfl; exact hM; exact rfl; exact inferInstance; exact rfl; exact inferInstance; clear hM; intro gg ww hM; simp only [putT, List.set_cons_succ, List.set_cons_zero]) | (apply wl_bs11; exact rfl; exact hM; exact rfl; exact inferInstance; exact rfl; exact rfl; clear hM; intro gg ww hM; simp only [putT, List.set_cons_succ, List.set_cons_zero]) | (apply wl_conv; exact rfl; exact hM; exact rfl; exact rfl; exact inferInstance; exact inferInstance; simp only [putT, List.set_cons_succ, List.set_cons_zero])) | (rw [q1]) | (rw [e4]) | (rw [e2]))
        go_roundw
        case rel => exact ⟨j + 1, out, A, c, by omega, rfl, by go_num, by omega, HNO, hM.tail⟩
        case measure => simp [intOf]; omega
      · have HYES := hide (hyes (by unfold abF; simp [q1]; omega))
        clear hyes hno
        have e4 : decide (sp.f < to) = true := decide_eq_true q3
        have e2 : decide (max fr 0 ≤ sp.f) = true := decide_eq_true q2
        go_wp2_with (first | ((with_reducible refine wl_shape ?_); first | (apply wl_boxa; exact rfl; exact hM; exact rfl; exact rfl; clear hM; intro gg ww hM; simp only [putT, List.set_cons_succ, List.set_cons_zero]) | (apply wl_box1; exact rfl; exact hM; exact rfl; exact rfl; exact rfl; clear hM; intro gg ww hM; simp only [putT, List.set_cons_succ, List.set_cons_zero]) | (apply wl_alloc; exact rfl; exact hM; exact rfl; exact inferInstance; clear hM; intro gg ww hM; simp only [putT, List.set_cons_succ, List.set_cons_zero]) | (apply wl_ld; exact rfl; exact hM; exact rfl; exact rfl; exact inferInstance; exact inferInstance; simp only [putT, List.set_cons_succ, List.set_cons_zero]) | (apply wl_lda; exact rfl; exact hM; exact rfl; exact rfl; exact inferInstance; exact inferInstance; exact inferInstance; exact inferInstance; simp only [putT, List.set_cons_succ, List.set_cons_zero]) | (apply wl_ldr; exact rfl; exact hM; exact rfl; exact rfl; exact inferInstance; exact inferInstance; exact inferInstance; exact inferInstance; simp only [putT, List.set_cons_succ, List.set_cons_zero]) | (apply wl_st; exact rfl; exact hM; exact rfl; exact rfl; exact rfl; exact rfl; exact inferInstance; exact inferInstance; clear hM; intro ww hM; simp only [putT, List.set_cons_succ, List.set_cons_zero]) | (apply wl_sta; exact rfl; exact hM; exact rfl; exact rfl; exact rfl; exact all_oneCell_toArray One.out; exact inferInstance; exact inferInstance; exact inferInstance; clear hM; intro ww hM; simp only [putT, List.set_cons_succ, List.set_cons_zero]) | (apply wl_bs0; exact rfl; exact hM; exact rfl; exact inferInstance; clear hM; intro gg ww hM; simp only [putT, List.set_cons_succ, List.set_cons_zero]) | (apply wl_bs1a; exact rfl; exact hM; exact rfl; exact inferInstance; exact rfl; exact inferInstance; clear hM; intro gg ww hM; simp only [putT, List.set_cons_succ, List.set_cons_zero]) | (apply wl_bs11; exact rfl; exact hM; exact rfl; exact inferInstance; exact rfl; exact rfl; clear hM; intro gg ww hM; simp only [putT, List.set_cons_succ, List.set_cons_zero]) | (apply wl_conv; exact rfl; exact hM; exact rfl; exact rfl; exact inferInstance; exact inferInstance; simp only [putT, List.set_cons_succ, List.set_cons_zero])) | ((apply wl_app; exact rfl; exact hM; exact rfl; exact inferInstance; exact rfl; exact rfl; exact inferInstance; exact One.out; exact inferInstance; (unfold maxLen; omega); omega; exact rfl; exact rfl; clear hM; intro A4 c4 ww hM; simp only [List.set_cons_succ, List.set_cons_zero] at hM; simp only [putT, List.set_cons_succ, List.set_cons_zero])) | (rw [q1]) | (rw [e4]) | (rw [e2]))
        go_roundw
        case rel =>
          refine ⟨j + 1, out ++ [sp], A4, c4, by omega, by simp, by go_num, by simp; omega, HYES, ?_⟩
          rw [spnCells_append, show (out ++ [sp]).length = out.length + 1 from by simp, show spnCells [sp] = spnVals sp from by simp [spnCells]]
          exact hM.tail.tail
        case measure => simp [intOf]; omega
    · have e : j = m.spans.length := by omega
      subst e
      rw [List.take_length] at ho
      go_wp2
      go_ret
      rw [unhide ho]
      exact ⟨A, c, rfl, hM.sub (List.Sublist.cons_cons _ (List.sublist_cons_self _ _))⟩
end
section
open Go.RowKit Go.MapKept
set_option linter.unusedSimpArgs false
set_option linter.unusedVariables false
attribute [local irreducible] wpList Code.wp GW Calls
set_option maxRecDepth 100000 in
set_option maxHeartbeats 8000000 in
theorem RefAborted_any {w0 w : World} {own : Nat → Prop} {L : List Item} {F2 : Nat → Prop} {g2 : Nat} {A2 B2 : Option Addr} {ca cb : Nat} {m : PL} {v2 : List Value} {V : Nat → Prop} (hM : Mem w0 own w (.res F2 (RefE F2 g2 A2 B2 ca cb m v2 V) :: L)) (hsl' : m.spans.length ≤ 1000000) (fr to : Int) :
    Calls Try.prog 25 #[.pointer (some ⟨g2, 0, none⟩), .int .i64 fr, .int .i64 to] w fun e w' => ∃ A c, e = .returned (.slice A (aborted m fr to).length c) ∧ Mem w0 own w' (.row (.slice A (aborted m fr to).length c) 39 5 (aborted m fr to).length (spnCells (aborted m fr to)) :: .res F2 (RefE F2 g2 A2 B2 ca cb m v2 V) :: L) := by
  rw [aborted_eq]
  go_enter Try.func25, Try.ntmps25
  have c0 : ∀ (L' : List Item) [HasRef L' F2 g2 A2 B2 ca cb m v2 V], Cell w0 own L' ⟨g2, 1, none⟩ (.slice B2 m.spans.length cb) := fun L' h => ⟨fun w hM => (ref_has h hM).blk.cell 1⟩
  go_wp2
  have HM := hide hM
  go_loopw [7, 8] (fun u v wr => ∃ (j : Nat) (out : List Spn) (A : Option Addr) (c : Nat), j ≤ m.spans.length ∧ u = .slice A out.length c ∧ v = .int .i64 j ∧ out.length ≤ j ∧ Hid ((m.spans.take j).filter (abF fr to) = out) ∧ Mem w0 own wr (.row (.slice A out.length c) 39 5 out.length (spnCells out) :: .res F2 (RefE F2 g2 A2 B2 ca cb m v2 V) :: L)) (fun _ v _ => m.spans.length - (intOf v).toNat)
  case atStart => exact ⟨0, [], none, 0, Nat.zero_le _, rfl, rfl, Nat.zero_le _, hide rfl, hM.pushNil _ 5⟩
  case round =>
    obtain ⟨j, out, A, c, hj, rfl, rfl, hoj, ho, hM⟩ := hrel
    by_cases hlt : j < m.spans.length
    · have hH := ref_has (F := F2) (g := g2) (A := A2) (B := B2) (ca := ca) (cb := cb) (m := m) (vs := v2) (V := V) inferInstance hM
      obtain ⟨b, off, rfl, -, -⟩ := spn_cells hH.spans rfl j hlt
      clear hH
      have hyes := ab_yes (fr := fr) (to := to) hlt
      have hno := ab_no (fr := fr) (to := to) hlt
      rw [unhide ho] at hyes hno
      have c1 : ∀ (L' : List Item) [HasRef L' F2 g2 A2 (some ⟨b, off, none⟩) ca cb m v2 V], Rng w0 own L' b (off + j * 5) (spnVals m.spans[j]) := fun L' h => ⟨fun w hM i v hi => by
        have h1 := ref_has h hM
        obtain ⟨b', off', e2, _, h2⟩ := spn_cells h1.spans rfl j hlt
        injection e2 with e2
        injection e2 with e2 e3 _
        subst e2
        subst e3
        exact h2 i v hi⟩
      generalize m.spans[j] = sp at c1 hyes hno
      clear ho
      rcases (by omega : ¬ sp.k = 3 ∨ (sp.k = 3 ∧ ¬ 0 ≤ sp.f) ∨ (sp.k = 3 ∧ 0 ≤ sp.f ∧ ¬ fr ≤ sp.f) ∨ (sp.k = 3 ∧ 0 ≤ sp.f ∧ fr ≤ sp.f ∧ ¬ sp.f < to) ∨ (sp.k = 3 ∧ 0 ≤ sp.f ∧ fr ≤ sp.f ∧ sp.f < to)) with q1 | ⟨q1, q2⟩ | ⟨q1, q2, q5⟩ | ⟨q1, q2, q5, q3⟩ | ⟨q1, q2, q5, q3⟩
      · have HNO := hide (hno (by unfold abF; simp [q1]))
        clear hyes hno
        have e3 : (sp.k == 3) = false := by simpa using q1
        go_wp2_with (first | ((with_reducible refine wl_shape ?_); first | (apply wl_boxa; exact rfl; exact hM; exact rfl; exact rfl; clear hM; intro gg ww hM; simp only [putT, List.set_cons_succ, List.set_cons_zero]) | (apply wl_box1; exact rfl; exact hM; exact rfl; exact rfl; exact rfl; clear hM; intro gg ww hM; simp only [putT, List.set_cons_succ, List.set_cons_zero]) | (apply wl_alloc; exact rfl; exact hM; exact rfl; exact inferInstance; clear hM; intro gg ww hM; simp only [putT, List.set_cons_succ, List.set_cons_zero]) | (apply wl_ld; exact rfl; exact hM; exact rfl; exact rfl; exact inferInstance; exact inferInstance; simp only [putT, List.set_cons_succ, List.set_cons_zero]) | (apply wl_lda; exact rfl; exact hM; exact rfl; exact rfl; exact inferInstance; exact inferInstance; exact inferInstance; exact inferInstance; simp only [putT, List.set_cons_succ, List.set_cons_zero]) | (apply wl_ldr; exact rfl; exact hM; exact rfl; exact rfl; exact inferInstance; exact inferInstance; exact inferInstance; exact inferInstance; simp only [putT, List.set_cons_succ, List.set_cons_zero]) | (apply wl_st; exact rfl; exact hM; exact rfl; exact rfl; exact rfl; exact rfl; exact inferInstance; exact inferInstance; clear hM; intro ww hM; simp only [putT, List.set_cons_succ, List.set_cons_zero]) | (apply wl_sta; exact rfl; exact hM; exact rfl; exact rfl; exact rfl; exact all_oneCell_toArray One.out; exact inferInstance; exact inferInstance; exact inferInstance; clear hM; intro ww hM; simp only [putT, List.set_cons_succ, List.set_cons_zero]) | (apply wl_bs0; exact rfl; exact hM; exact rfl; exact inferInstance; clear hM; intro gg ww hM; simp only [putT, List.set_cons_succ, List.set_cons_zero]) | (apply wl_bs1a; exact rfl; exact hM; exact rfl; exact inferInstance; exact rfl; exact inferInstance; clear hM; intro gg ww hM; simp only [putT, List.set_cons_succ, List.set_cons_zero]) | (apply wl_bs11; exact rfl; exact hM; exact rfl; exact inferInstance; exact rfl; exact rfl; clear hM; intro gg ww hM; simp only [putT, List.set_cons_succ, List.set_cons_zero]) | (apply wl_conv; exact rfl; exact hM; exact rfl; exact rfl; exact inferInstance; exact inferInstance; simp only [putT, List.set_cons_succ, List.set_cons_zero])) | (rw [e3]))
        go_roundw
        case rel => exact ⟨j + 1, out, A, c, by omega, rfl, by go_num, by omega, HNO, hM.tail⟩
        case measure => simp [intOf]; omega
      · have HNO := hide (hno (by unfold abF; simp [q1]; omega))
        clear hyes hno
        have e2 : decide (0 ≤ sp.f) = false := decide_eq_false q2
        go_wp2_with (first | ((with_reducible refine wl_shape ?_); first | (apply wl_boxa; exact rfl; exact hM; exact rfl; exact rfl; clear hM; intro gg ww hM; simp only [putT, List.set_cons_succ, List.set_cons_zero]) | (apply wl_box1; exact rfl; exact hM; exact rfl; exact rfl; exact rfl; clear hM; intro gg ww hM; simp only [putT, List.set_cons_succ, List.set_cons_zero]) | (apply wl_alloc; exact rfl; exact hM; exact rfl; exact inferInstance; clear hM; intro gg ww hM; simp only [putT, List.set_cons_succ, List.set_cons_zero]) | (apply wl_ld; exact rfl; exact hM; exact rfl; exact rfl; exact inferInstance; exact inferInstance; simp only [putT, List.set_cons_succ, List.set_cons_zero]) | (apply wl_lda; exact rfl; exact hM; exact rfl; exact rfl; exact inferInstance; exact inferInstance; exact inferInstance; exact inferInstance; simp only [putT, List.set_cons_succ, List.set_cons_zero]) | (apply wl_ldr; exact rfl; exact hM; exact rfl; exact rfl; exact inferInstance; exact inferInstance; exact inferInstance; exact inferInstance; simp only [putT, List.set_cons_succ, List.set_cons_zero]) | (apply wl_st; exact rfl; exact hM; exact rfl; exact rfl; exact rfl; exact rfl; exact inferInstance; exact inferInstance; clear hM; intro ww hM; simp only [putT, List.set_cons_succ, List.set_cons_zero]) | (apply wl_sta; exact rfl; exact hM; exact rfl; exact rfl; exact rfl; exact all_oneCell_toArray One.out; exact inferInstance; exact inferInstance; exact inferInstance; clear hM; intro ww hM; simp only [putT, List.set_cons_succ, List.set_cons_zero]) | (apply wl_bs0; exact rfl; exact hM; exact rfl; exact inferInstance; clear hM; intro gg ww hM; simp only [putT, List.set_cons_succ, List.set_cons_zero]) | (apply wl_bs1a; exact rfl; exact hM; exact rfl; exact inferInstance; exact rfl; exact inferInstance; clear hM; intro gg ww hM; simp only [putT, List.set_cons_succ, List.set_cons_zero]) | (apply wl_bs11; exact rfl; exact hM; exact rfl; exact inferInstance; exact rfl; exact rfl; clear hM; intro gg ww hM; simp only [putT, List.set_cons_succ, List.set_cons_zero]) | (apply wl_conv; exact rfl; exact hM; exact rfl; exact rfl; exact inferInstance; exact inferInstance; simp only [putT, List.set_cons_succ, List.set_cons_zero])) | (rw [q1]) | (rw [e2]))
        go_roundw
        case rel => exact ⟨j + 1, out, A, c, by omega, rfl, by go_num, by omega, HNO, hM.tail⟩
        case measure => simp [intOf]; omega
      · have HNO := hide (hno (by unfold abF; simp [q1]; omega))
        clear hyes hno
        have e2 : decide (0 ≤ sp.f) = true := decide_eq_true q2
        have e5 : decide (fr ≤ sp.f) = false := decide_eq_false q5
        go_wp2_with (first | ((with_reducible refine wl_shape ?_); first | (apply wl_boxa; exact rfl; exact hM; exact rfl; exact rfl; clear hM; intro gg ww hM; simp only [putT, List.set_cons_succ, List.set_cons_zero]) | (apply wl_box1; exact rfl; exact hM; exact rfl; exact rfl; exact rfl; clear hM; intro gg ww hM; simp only [putT, List.set_cons_succ, List.set_cons_zero]) | (apply wl_alloc; exact rfl; exact hM; exact rfl; exact inferInstance; clear hM; intro gg ww hM; simp only [putT, List.set_cons_succ, List.set_cons_zero]) | (apply wl_ld; exact rfl; exact hM; exact rfl; exact rfl; exact inferInstance; exact inferInstance; simp only [putT, List.set_cons_succ, List.set_cons_zero]) | (apply wl_lda; exact rfl; exact hM; exact rfl; exact rfl; exact inferInstance; exact inferInstance; exact inferInstance; exact inferInstance; simp only [putT, List.set_cons_succ, List.set_cons_zero]) | (apply wl_ldr; exact rfl; exact hM; exact rfl; exact rfl; exact inferInstance; exact inferInstance; exact inferInstance; exact inferInstance; simp only [putT, List.set_cons_succ, List.set_cons_zero]) | (apply wl_st; exact rfl; exact hM; exact rfl; exact rfl; exact rfl; exact rfl; exact inferInstance; exact inferInstance; clear hM; intro ww hM; simp only [putT, List.set_cons_succ, List.set_cons_zero]) | (apply wl_sta; exact rfl; exact hM; exact rfl; exact rfl; exact rfl; exact all_oneCell_toArray One.out; exact inferInstance; exact inferInstance; exact inferInstance; clear hM; intro ww hM; simp only [putT, List.set_cons_succ, List.set_cons_zero]) | (apply wl_bs0; exact rfl; exact hM; exact rfl; exact inferInstance; clear hM; intro gg ww hM; simp only [putT, List.set_cons_succ, List.set_cons_zero]) | (apply wl_bs1a; exact rfl; exact hM; exact rfl; exact inferInstance; exact rfl; exact inferInstance; clear hM; intro gg ww hM; simp only [putT, List.set_cons_succ, List.set_cons_zero]) | (apply wl_bs11; exact rfl; exact hM; exact rfl; exact inferInstance; exact rfl; exact rfl; clear hM; intro gg ww hM; simp only [putT, List.set_cons_succ, List.set_cons_zero]) | (apply wl_conv; exact rfl; exact hM; exact rfl; exact rfl; exact inferInstance; exact inferInstance; simp only [putT, List.set_cons_succ, List.set_cons_zero])) | (rw [q1]) | (rw [e2]) | (rw [e5]))
        go_roundw
        case rel => exact ⟨j + 1, out, A, c, by omega, rfl, by go_num, by omega, HNO, hM.tail⟩
        case measure => simp [intOf]; omega
      · have HNO := hide (hno (by unfold abF; simp [q1]; omega))
        clear hyes hno
        have e2 : decide (0 ≤ sp.f) = true := decide_eq_true q2
        have e5 : decide (fr ≤ sp.f) = true := decide_eq_true q5
        have e4 : decide (sp.f < to) = false := decide_eq_false q3
        go_wp2_with (first | ((with_reducible refine wl_shape ?_); first | (apply wl_boxa; exact rfl; exact hM; exact rfl; exact rfl; clear hM; intro gg ww hM; simp only [putT, List.set_cons_succ, List.set_cons_zero]) | (apply wl_box1; exact rfl; exact hM; exact rfl; exact rfl; exact rfl; clear hM; intro gg ww hM; simp only [putT, List.set_cons_succ, List.set_cons_zero]) | (apply wl_alloc; exact rfl; exact hM; exact rfl; exact inferInstance; clear hM; intro gg ww hM; simp only [putT, List.set_cons_succ, List.set_cons_zero]) | (apply wl_ld; exact rfl; exact hM; exact rfl; exact rfl; exact inferInstance; exact inferInstance; simp only [putT, List.set_cons_succ, List.set_cons_zero]) | (apply wl_lda; exact rfl; exact hM; exact rfl; exact rfl; exact inferInstance; exact inferInstance; exact inferInstance; exact inferInstance; simp only [putT, List.set_cons_succ, List.set_cons_zero]) | (apply wl_ldr; exact rfl; exact hM; exact rfl; exact rfl; exact inferInstance; exact inferInstance; exact inferInstance; exact inferInstance; simp only [putT, List.set_cons_succ, List.set_cons_zero]) | (apply wl_st; exact rfl; exact hM; exact rfl; exact rfl; exact rfl; exact rfl; exact inferInstance; exact inferInstance; clear hM; intro ww hM; simp only [putT, List.set_cons_succ, List.set_cons_zero]) | (apply wl_sta; exact rfl; exact hM; exact rfl; exact rfl; exact rfl; exact all_oneCell_toArray One.out; exact inferInstance; exact inferInstance; exact inferInstance; clear hM; intro ww hM; simp only [putT, List.set_cons_succ, List.set_cons_zero]) | (apply wl_bs0; exact rfl; exact hM; exact rfl; exact inferInstance; clear hM; intro gg ww hM; simp only [putT, List.set_cons_succ, List.set_cons_zero]) | (apply wl_bs1a; exact rfl; exact hM; exact rfl; exact inferInstance; exact rfl; exact inferInstance; clear hM; intro gg ww hM; simp only [putT, List.set_cons_succ, List.set_cons_zero]) | (apply wl_bs11; exact rfl; exact hM; exact rfl; exact inferInstance; exact rfl; exact rfl; clear hM; intro gg ww hM; simp only [putT, List.set_cons_succ, List.set_cons_zero]) | (apply wl_conv; exact rfl; exact hM; exact rfl; exact rfl; exact inferInstance; exact inferInstance; simp only [putT, List.set_cons_succ, List.set_cons_zero])) | (rw [q1]) | (rw [e2]) | (rw [e5]) | (rw [e4]))
        go_roundw
        case rel => exact ⟨j + 1, out, A, c, by omega, rfl, by go_num, by omega, HNO, hM.tail⟩
        case measure => simp [intOf]; omega
      · have HYES := hide (hyes (by unfold abF; simp [q1]; omega))
        clear hyes hno
        have e4 : decide (sp.f < to) = true := decide_eq_true q3
        have e2 : decide (0 ≤ sp.f) = true := decide_eq_true q2
        have e5 : decide (fr ≤ sp.f) = true := decide_eq_true q5
        go_wp2_with (first | ((with_reducible refine wl_shape ?_); first | (apply wl_boxa; exact rfl; exact hM; exact rfl; exact rfl; clear hM; intro gg ww hM; simp only [putT, List.set_cons_succ, List.set_cons_zero]) | (apply wl_box1; exact rfl; exact hM; exact rfl; exact rfl; exact rfl; clear hM; intro gg ww hM; simp only [putT, List.set_cons_succ, List.set_cons_zero]) | (apply wl_alloc; exact rfl; exact hM; exact rfl; exact inferInstance; clear hM; intro gg ww hM; simp only [putT, List.set_cons_succ, List.set_cons_zero]) | (apply wl_ld; exact rfl; exact hM; exact rfl; exact rfl; exact inferInstance; exact inferInstance; simp only [putT, List.set_cons_succ, List.set_cons_zero]) | (apply wl_lda; exact rfl; exact hM; exact rfl; exact rfl; exact inferInstance; exact inferInstance; exact inferInstance; exact inferInstance; simp only [putT, List.set_cons_succ, List.set_cons_zero]) | (apply wl_ldr; exact rfl; exact hM; exact rfl; exact rfl; exact inferInstance; exact inferInstance; exact inferInstance; exact inferInstance; simp only [putT, List.set_cons_succ, List.set_cons_zero]) | (apply wl_st; exact rfl; exact hM; exact rfl; exact rfl; exact rfl; exact rfl; exact inferInstance; exact inferInstance; clear hM; intro ww hM; simp only [putT, List.set_cons_succ, List.set_cons_zero]) | (apply wl_sta; exact rfl; exact hM; exact rfl; exact rfl; exact rfl; exact all_oneCell_toArray One.out; exact inferInstance; exact inferInstance; exact inferInstance; clear hM; intro ww hM; simp only [putT, List.set_cons_succ, List.set_cons_zero]) | (apply wl_bs0; exact rfl; exact hM; exact rfl; exact inferInstance; clear hM; intro gg ww hM; simp only [putT, List.set_cons_succ, List.set_cons_zero]) | (apply wl_bs1a; exact rfl; exact hM; exact rfl; exact inferInstance; exact rfl; exact inferInstance; clear hM; intro gg ww hM; simp only [putT, List.set_cons_succ, List.set_cons_zero]) | (apply wl_bs11; exact rfl; exact hM; exact rfl; exact inferInstance; exact rfl; exact rfl; clear hM; intro gg ww hM; simp only [putT, List.set_cons_succ, List.set_cons_zero]) | (apply wl_conv; exact rfl; exact hM; exact rfl; exact rfl; exact inferInstance; exact inferInstance; simp only [putT, List.set_cons_succ, List.set_cons_zero])) | ((apply wl_app; exact rfl; exact hM; exact rfl; exact inferInstance; exact rfl; exact rfl; exact inferInstance; exact One.out; exact inferInstance; (unfold maxLen; omega); omega; exact rfl; exact rfl; clear hM; intro A4 c4 ww hM; simp only [List.set_cons_succ, List.set_cons_zero] at hM; simp only [putT, List.set_cons_succ, List.set_cons_zero])) | (rw [q1]) | (rw [e4]) | (rw [e2]) | (rw [e5]))
        go_roundw
        case rel =>
          refine ⟨j + 1, out ++ [sp], A4, c4, by omega, by simp, by go_num, by simp; omega, HYES, ?_⟩
          rw [spnCells_append, show (out ++ [sp]).length = out.length + 1 from by simp, show spnCells [sp] = spnVals sp from by simp [spnCells]]
          exact hM.tail.tail
        case measure => simp [intOf]; omega
    · have e : j = m.spans.length := by omega
      subst e
      rw [List.take_length] at ho
      go_wp2_with ((with_reducible refine wl_shape ?_); first | (apply wl_boxa; exact rfl; exact hM; exact rfl; exact rfl; clear hM; intro gg ww hM; simp only [putT, List.set_cons_succ, List.set_cons_zero]) | (apply wl_box1; exact rfl; exact hM; exact rfl; exact rfl; exact rfl; clear hM; intro gg ww hM; simp only [putT, List.set_cons_succ, List.set_cons_zero]) | (apply wl_alloc; exact rfl; exact hM; exact rfl; exact inferInstance; clear hM; intro gg ww hM; simp only [putT, List.set_cons_succ, List.set_cons_zero]) | (apply wl_ld; exact rfl; exact hM; exact rfl; exact rfl; exact inferInstance; exact inferInstance; simp only [putT, List.set_cons_succ, List.set_cons_zero]) | (apply wl_lda; exact rfl; exact hM; exact rfl; exact rfl; exact inferInstance; exact inferInstance; exact inferInstance; exact inferInstance; simp only [putT, List.set_cons_succ, List.set_cons_zero]) | (apply wl_ldr; exact rfl; exact hM; exact rfl; exact rfl; exact inferInstance; exact inferInstance; exact inferInstance; exact inferInstance; simp only [putT, List.set_cons_succ, List.set_cons_zero]) | (apply wl_st; exact rfl; exact hM; exact rfl; exact rfl; exact rfl; exact rfl; exact inferInstance; exact inferInstance; clear hM; intro ww hM; simp only [putT, List.set_cons_succ, List.set_cons_zero]) | (apply wl_sta; exact rfl; exact hM; exact rfl; exact rfl; exact rfl; exact all_oneCell_toArray One.out; exact inferInstance; exact inferInstance; exact inferInstance; clear hM; intro ww hM; simp only [putT, List.set_cons_succ, List.set_cons_zero]) | (apply wl_bs0; exact rfl; exact hM; exact rfl; exact inferInstance; clear hM; intro gg ww hM; simp only [putT, List.set_cons_succ, List.set_cons_zero]) | (apply wl_bs1a; exact rfl; exact hM; exact rfl; exact inferInstance; exact rfl; exact inferInstance; clear hM; intro gg ww hM; simp only [putT, List.set_cons_succ, List.set_cons_zero]) | (apply wl_bs11; exact rfl; exact hM; exact rfl; exact inferInstance; exact rfl; exact rfl; clear hM; intro gg ww hM; simp only [putT, List.set_cons_succ, List.set_cons_zero]) | (apply wl_conv; exact rfl; exact hM; exact rfl; exact rfl; exact inferInstance; exact inferInstance; simp only [putT, List.set_cons_succ, List.set_cons_zero]))
      go_ret
      rw [unhide ho]
      exact ⟨A, c, rfl, hM⟩
end
end Go.Proofs.Ytechglhkcjgodaa
