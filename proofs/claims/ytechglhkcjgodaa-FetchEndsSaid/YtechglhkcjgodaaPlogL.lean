/- plog: the plain law: the program's model and the reference's are one, in each log that can be. -/
import Derived.Test.YtechglhkcjgodaaPlogR5
namespace Go.Proofs.Ytechglhkcjgodaa
set_option linter.unusedSimpArgs false
set_option linter.unusedVariables false

/-- The numbers of a producer's epoch are 0, 1, 2, .. -/
def seqsOf (p e : Int) (l : List Rec) : Prop := (l.filter (meant p e)).map (·.s) = (List.range (l.filter (meant p e)).length).map Int.ofNat
def sameTx (a b : Spn) : Prop := a.p = b.p ∧ a.e = b.e ∧ a.t = b.t
structure PL.Ok (m : PL) : Prop where
  e8 : m.eps.length = 8
  recs : ∀ x ∈ m.recs, PL.isRec x = true
  len : m.recs.length ≤ 128
  seqs : ∀ p e, seqsOf p e m.recs
  spans : m.spans.Pairwise (fun a b => ¬ sameTx a b)

theorem seqs_snoc {p e : Int} {l : List Rec} {x : Rec} (h : seqsOf p e (l ++ [x])) : seqsOf p e l ∧ (meant p e x = true → x.s = ((l.filter (meant p e)).length : Int)) := by
  unfold seqsOf at h ⊢
  rw [List.filter_append] at h
  cases hx : meant p e x
  · simp [hx] at h
    exact ⟨h, fun h => by cases h⟩
  · have e1 : [x].filter (meant p e) = [x] := by simp [hx]
    rw [e1, List.map_append, List.length_append, List.length_singleton, List.range_succ, List.map_append] at h
    have := List.append_inj h (by simp)
    exact ⟨this.1, fun _ => by simpa using this.2⟩
theorem seqs_add {p e : Int} {l : List Rec} {x : Rec} (h : seqsOf p e l) (hx : meant p e x = true → x.s = ((l.filter (meant p e)).length : Int)) : seqsOf p e (l ++ [x]) := by
  unfold seqsOf at h ⊢
  rw [List.filter_append]
  cases hm : meant p e x
  · have e1 : [x].filter (meant p e) = [] := by simp [hm]
    rw [e1, List.append_nil]
    exact h
  · have e1 : [x].filter (meant p e) = [x] := by simp [hm]
    rw [e1, List.map_append, List.length_append, List.length_singleton, List.range_succ, List.map_append, h]
    simp [hx hm]
theorem seqs_get {p e : Int} {l : List Rec} (h : seqsOf p e l) {x : Rec} (hx : x ∈ l) (hm : meant p e x = true) : 0 ≤ x.s ∧ x.s < ((l.filter (meant p e)).length : Int) := by
  have h1 : x.s ∈ (l.filter (meant p e)).map (·.s) := List.mem_map.2 ⟨x, List.mem_filter.2 ⟨hx, hm⟩, rfl⟩
  rw [h] at h1
  obtain ⟨k, hk, e1⟩ := List.mem_map.1 h1
  rw [List.mem_range] at hk
  have e2 : (Int.ofNat k : Int) = (k : Int) := rfl
  rw [e2] at e1
  omega
def sameQ (p e q : Int) (x : Rec) : Bool := decide (x.p = p) && decide (x.e = e) && decide (x.s = q)
theorem sameQ_iff {p e q : Int} {x : Rec} : sameQ p e q x = true ↔ meant p e x = true ∧ x.s = q := by
  simp [sameQ, meant]
def nextL (p e q : Int) (l : List Rec) : Int × Int := l.zipIdx.foldl (nextStep p e q) (0, -1)
theorem nextL_snoc (p e q : Int) (l : List Rec) (x : Rec) : nextL p e q (l ++ [x]) = nextStep p e q (nextL p e q l) (x, l.length) := by
  unfold nextL
  rw [List.zipIdx_append, List.foldl_append]
  simp
theorem snoc_ind {α : Type} {P : List α → Prop} (h0 : P []) (h1 : ∀ l x, P l → P (l ++ [x])) : ∀ l, P l := fun l => by
  have key : ∀ n (l : List α), l.length = n → P l := by
    intro n
    induction n with
    | zero => intro l hl; rw [List.eq_nil_of_length_eq_zero hl]; exact h0
    | succ n ih =>
      intro l hl
      have hne : l ≠ [] := fun e => by rw [e] at hl; simp at hl
      rw [← List.dropLast_concat_getLast hne]
      exact h1 _ _ (ih _ (by simp [hl]))
  exact key _ l rfl
theorem nextL_spec (p e q : Int) : ∀ l : List Rec, seqsOf p e l → nextL p e q l = (((l.filter (meant p e)).length : Int), match l.findIdx? (sameQ p e q) with | some i => (i : Int) | none => -1) := by
  refine snoc_ind (fun _ => by simp [nextL]) (fun l x ih h => ?_)
  obtain ⟨hl, hx⟩ := seqs_snoc h
  rw [nextL_snoc, ih hl]
  have hmn : meant p e x = true ↔ x.p = p ∧ x.e = e := by simp [meant]
  unfold nextStep
  by_cases hm : x.p = p ∧ x.e = e
  · have hm' := hmn.2 hm
    have hs := hx hm'
    rw [if_pos hm, List.filter_append]
    have e1 : [x].filter (meant p e) = [x] := by simp [hm']
    rw [e1, List.length_append, List.length_singleton, hs]
    refine Prod.ext (by simp) ?_
    simp only
    by_cases hq : ((l.filter (meant p e)).length : Int) = q
    · have hnone : l.findIdx? (sameQ p e q) = none := by
        rw [List.findIdx?_eq_none_iff]
        intro y hy
        cases hsq : sameQ p e q y with
        | false => rfl
        | true =>
          obtain ⟨h1, h2⟩ := sameQ_iff.1 hsq
          have := (seqs_get hl hy h1).2
          omega
      have hxq : sameQ p e q x = true := sameQ_iff.2 ⟨hm', by rw [hs]; exact hq⟩
      rw [if_pos hq, List.findIdx?_append, hnone]
      simp [hxq]
    · have hxq : sameQ p e q x = false := by
        cases hsq : sameQ p e q x with
        | false => rfl
        | true => exact absurd ((sameQ_iff.1 hsq).2) (by rw [hs]; exact hq)
      rw [if_neg hq, List.findIdx?_append]
      cases l.findIdx? (sameQ p e q) <;> simp [hxq]
  · have hm' : meant p e x = false := by
      cases hh : meant p e x with
      | false => rfl
      | true => exact absurd (hmn.1 hh) hm
    have hxq : sameQ p e q x = false := by
      cases hsq : sameQ p e q x with
      | false => rfl
      | true => rw [(sameQ_iff.1 hsq).1] at hm'; cases hm'
    rw [if_neg hm, List.filter_append]
    have e1 : [x].filter (meant p e) = [] := by simp [hm']
    rw [e1, List.append_nil, List.findIdx?_append]
    cases l.findIdx? (sameQ p e q) <;> simp [hxq]
theorem nextSeq_len (m : PL) (p e : Int) (h : seqsOf p e m.recs) : m.nextSeq p e = ((m.recs.filter (meant p e)).length : Int) := by
  unfold PL.nextSeq
  have e0 : (m.recs.filter fun x => decide (x.p = p) && decide (x.e = e)) = m.recs.filter (meant p e) := rfl
  rw [e0]
  unfold seqsOf at h
  generalize hL : m.recs.filter (meant p e) = L at h ⊢
  cases hl : L.getLast? with
  | none =>
    rw [List.getLast?_eq_none_iff] at hl
    simp [hl]
  | some x =>
    have hne : L ≠ [] := fun e => by rw [e] at hl; cases hl
    have h1 : (L.map (·.s)).getLast? = some x.s := by rw [List.getLast?_map, hl]; rfl
    rw [h, List.getLast?_map] at h1
    have hpos : 0 < L.length := List.length_pos_iff.2 hne
    have h2 : (List.range L.length).getLast? = some (L.length - 1) := by
      obtain ⟨k, hk⟩ : ∃ k, L.length = k + 1 := ⟨L.length - 1, by omega⟩
      rw [hk, List.range_succ, List.getLast?_concat]
      rfl
    rw [h2] at h1
    have h3 : (Int.ofNat (L.length - 1)) = x.s := by simpa using h1
    have h4 : (Int.ofNat (L.length - 1) : Int) = ((L.length - 1 : Nat) : Int) := rfl
    simp only
    omega

theorem spanAt_uniq {m : PL} (h : m.spans.Pairwise (fun a b => ¬ sameTx a b)) {p e t : Int} {s : Spn} (hs : s ∈ m.spans) (hm : spnIs p e t s = true) : ∃ i : Nat, ∃ hi : i < m.spans.length, m.spanAt p e t = i ∧ m.spans[i] = s := by
  obtain ⟨i, hi, rfl⟩ := List.mem_iff_getElem.1 hs
  refine ⟨i, hi, ?_, rfl⟩
  have : m.spans.findIdx? (spnIs p e t) = some i := by
    rw [List.findIdx?_eq_some_iff_getElem]
    refine ⟨hi, hm, fun j hj hjm => ?_⟩
    have := List.pairwise_iff_getElem.1 h j i (by omega) hi hj
    apply this
    simp [spnIs] at hm hjm
    exact ⟨by omega, by omega, by omega⟩
  unfold PL.spanAt
  have e0 : m.spans.findIdx? (fun s => decide (s.p = p) && decide (s.e = e) && decide (s.t = t)) = m.spans.findIdx? (spnIs p e t) := rfl
  rw [e0, this]
theorem spanAt_get {m : PL} {p e t : Int} (h : 0 ≤ m.spanAt p e t) : ∃ i : Nat, ∃ hi : i < m.spans.length, m.spanAt p e t = i ∧ spnIs p e t m.spans[i] = true := by
  unfold PL.spanAt at h ⊢
  split at h
  · rename_i i hi
    rw [List.findIdx?_eq_some_iff_getElem] at hi
    exact ⟨i, hi.1, rfl, hi.2.1⟩
  · omega
theorem barred_iff {m : PL} (h : m.spans.Pairwise (fun a b => ¬ sameTx a b)) (p e t : Int) : m.barred p e t = true ↔ ((0 ≤ m.spanAt p e t ∧ (m.spans.getD (m.spanAt p e t).toNat ⟨0, 0, 0, 0, 0⟩).k ≠ 0) ∨ m.spans.any (otherIs p e t) = true) := by
  unfold PL.barred
  rw [List.any_eq_true, List.any_eq_true]
  constructor
  · rintro ⟨s, hs, hm⟩
    simp only [Bool.and_eq_true, decide_eq_true_eq, beq_iff_eq] at hm
    obtain ⟨⟨h1, h2⟩, h3⟩ := hm
    by_cases ht : s.t = t
    · left
      have hk : s.k ≠ 0 := by
        have : decide (s.k ≠ 0) = true := by rw [← h3]; simp [ht]
        exact of_decide_eq_true this
      obtain ⟨i, hi, e1, e2⟩ := spanAt_uniq h hs (p := p) (e := e) (t := t) (by simp [spnIs, h1, h2, ht])
      rw [e1]
      refine ⟨by omega, ?_⟩
      simp [hi, e2, hk]
    · right
      have hk : s.k = 0 := by
        have : decide (s.k ≠ 0) = false := by rw [← h3]; simp [ht]
        simpa using this
      exact ⟨s, hs, by simp [otherIs, h1, h2, ht, hk]⟩
  · rintro (⟨h1, h2⟩ | ⟨s, hs, hm⟩)
    · obtain ⟨i, hi, e1, e2⟩ := spanAt_get h1
      rw [e1] at h2
      refine ⟨m.spans[i], List.getElem_mem hi, ?_⟩
      simp [spnIs] at e2
      simp [hi] at h2
      simp [e2, h2]
    · simp [otherIs] at hm
      exact ⟨s, hs, by simp [hm]⟩

theorem appendR_eq {m : PL} (h : m.Ok) (r : Rec) : m.appendR r = m.append r := by
  have hsq := h.seqs r.p r.e
  have h2 : m.nextTwo r.p r.e r.s = (((m.recs.filter (meant r.p r.e)).length : Int), match m.recs.findIdx? (sameQ r.p r.e r.s) with | some i => (i : Int) | none => -1) := nextL_spec r.p r.e r.s m.recs hsq
  have h3 := nextSeq_len m r.p r.e hsq
  unfold PL.appendR PL.append
  have e0 : m.recs.findIdx? (fun x => decide (x.p = r.p) && decide (x.e = r.e) && decide (x.s = r.s)) = m.recs.findIdx? (sameQ r.p r.e r.s) := rfl
  rw [e0, h2, h3]
  by_cases c1 : PL.isRec r = false
  · simp only [if_pos c1]
  by_cases c2 : m.ep r.p < 0
  · simp only [if_neg c1, if_pos c2]
  by_cases c3 : r.e < m.ep r.p
  · simp only [if_neg c1, if_neg c2, if_pos c3]
  by_cases c4 : r.e > m.ep r.p
  · simp only [if_neg c1, if_neg c2, if_neg c3, if_pos c4]
  simp only [if_neg c1, if_neg c2, if_neg c3, if_neg c4]
  cases hf : m.recs.findIdx? (sameQ r.p r.e r.s) with
  | some i => simp
  | none =>
    simp only
    rw [if_neg (by omega)]
    by_cases c5 : r.s ≠ ((m.recs.filter (meant r.p r.e)).length : Int)
    · simp only [if_pos c5]
    simp only [if_neg c5]
    by_cases c6 : m.barred r.p r.e r.t = true
    · rw [if_pos ((barred_iff h.spans r.p r.e r.t).1 c6), if_pos c6]
    · rw [if_neg (fun hh => c6 ((barred_iff h.spans r.p r.e r.t).2 hh)), if_neg c6]

theorem ok_empty : PL.empty.Ok := ⟨rfl, fun x hx => by simp [PL.empty] at hx, by simp [PL.empty], fun p e => by simp [seqsOf, PL.empty], by simp [PL.empty]⟩
theorem ok_learn {m : PL} (h : m.Ok) (p e : Int) : (m.learn p e).1.Ok := by
  unfold PL.learn
  split
  · exact ⟨by simpa using h.e8, h.recs, h.len, h.seqs, h.spans⟩
  · exact h
theorem ok_endd {m : PL} (h : m.Ok) (p e t : Int) (c : Bool) : (m.endd p e t c).1.Ok := by
  unfold PL.endd
  generalize (if c = true then (2 : Int) else 3) = kk
  split
  · exact h
  · split
    · rename_i hf
      refine ⟨h.e8, h.recs, h.len, h.seqs, List.pairwise_append.2 ⟨h.spans, List.pairwise_singleton _ _, fun a ha b hb hs => ?_⟩⟩
      simp at hb
      subst hb
      rw [List.findIdx?_eq_none_iff] at hf
      have := hf a ha
      obtain ⟨h1, h2, h3⟩ := hs
      simp at h1 h2 h3
      simp [h1, h2, h3] at this
    · split
      · exact h
      · refine ⟨h.e8, h.recs, h.len, h.seqs, ?_⟩
        rw [List.pairwise_iff_getElem]
        intro i j hi hj hij
        have := List.pairwise_iff_getElem.1 h.spans i j (by simpa using hi) (by simpa using hj) hij
        intro hs
        apply this
        simp only [List.getElem_modify] at hs
        obtain ⟨h1, h2, h3⟩ := hs
        refine ⟨?_, ?_, ?_⟩
        · split at h1 <;> split at h1 <;> exact h1
        · split at h2 <;> split at h2 <;> exact h2
        · split at h3 <;> split at h3 <;> exact h3
theorem ok_append {m : PL} (h : m.Ok) (r : Rec) : (m.append r).1.Ok := by
  unfold PL.append
  have h3 := nextSeq_len m r.p r.e (h.seqs r.p r.e)
  split
  · exact h
  split
  · exact h
  split
  · exact h
  split
  · exact h
  split
  · split <;> exact h
  rename_i c1 _ _ _ _ hf
  split
  · exact h
  rename_i c5
  split
  · exact h
  split
  · exact h
  rename_i c7
  refine ⟨h.e8, fun x hx => ?_, by simp; omega, fun p e => seqs_add (h.seqs p e) (fun hm => ?_), ?_⟩
  · rcases List.mem_append.1 hx with hx | hx
    · exact h.recs x hx
    · simp at hx; rw [hx]; simpa using c1
  · simp [meant] at hm
    obtain ⟨rfl, rfl⟩ := hm
    rw [← h3]
    simpa using c5
  · simp only
    split
    · rename_i hsp
      refine List.pairwise_append.2 ⟨h.spans, List.pairwise_singleton _ _, fun a ha b hb hs => ?_⟩
      simp at hb
      subst hb
      obtain ⟨h1, h2, h3⟩ := hs
      simp at h1 h2 h3
      obtain ⟨i, hi, e1, _⟩ := spanAt_uniq h.spans ha (p := r.p) (e := r.e) (t := r.t) (by simp [spnIs, h1, h2, h3])
      omega
    · exact h.spans
end Go.Proofs.Ytechglhkcjgodaa
