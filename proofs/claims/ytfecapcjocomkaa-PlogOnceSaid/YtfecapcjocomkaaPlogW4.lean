/- plog's laws: PlogOnce. -/
import Derived.Test.YtfecapcjocomkaaPlogW1
import Derived.Test.YtfecapcjocomkaaPlogV1
namespace Go.Proofs.Ytfecapcjocomkaa
open Go.RowKit Go.MapKept
set_option linter.unusedSimpArgs false
set_option linter.unusedVariables false
/-! The plain law: epochs of what is there; nothing stands twice; what comes again. -/
def PL.OkE (m : PL) : Prop := ∀ r ∈ m.recs, r.e ≤ m.ep r.p
theorem oke_empty : PL.empty.OkE := fun r hr => by simp [PL.empty] at hr
theorem oke_learn {m : PL} (h : m.OkE) (p e : Int) : (m.learn p e).1.OkE := by
  unfold PL.learn
  split
  · intro r hr
    have h1 := h r hr
    have h2 : m.ep r.p ≤ ({ m with eps := m.eps.set p.toNat (max (m.ep p) e) } : PL).ep r.p := by
      unfold PL.ep
      simp only [List.getD_eq_getElem?_getD, List.getElem?_set]
      split
      · rename_i hpq
        split
        · rw [hpq]; simp; omega
        · rename_i hl
          rw [← hpq]
          rw [List.getElem?_eq_none (by omega)]
          exact Int.le_refl _
      · exact Int.le_refl _
    exact Int.le_trans h1 h2
  · exact h
theorem oke_endd {m : PL} (h : m.OkE) (p e t : Int) (c : Bool) : (m.endd p e t c).1.OkE := by
  unfold PL.endd
  generalize (if c = true then (2 : Int) else 3) = kk
  split
  · exact h
  · split
    · exact h
    · split
      · exact h
      · exact h
theorem oke_append {m : PL} (h : m.OkE) (r : Rec) : (m.append r).1.OkE := by
  unfold PL.append
  split
  · exact h
  split
  · exact h
  split
  · exact h
  split
  · exact h
  rename_i c1 c2 c3 c4
  split
  · split <;> exact h
  split
  · exact h
  split
  · exact h
  split
  · exact h
  intro x hx
  rcases List.mem_append.1 hx with hx | hx
  · exact h x hx
  · simp at hx
    subst hx
    have : ({ m with recs := m.recs ++ [x], spans := if m.spanAt x.p x.e x.t < 0 then m.spans ++ [⟨x.p, x.e, x.t, m.recs.length, 0⟩] else m.spans } : PL).ep x.p = m.ep x.p := rfl
    rw [this]
    omega
theorem oke_doing {m : PL} (h : m.OkE) (a : Doing) : (m.doing a).1.OkE := by
  unfold PL.doing
  split
  · exact oke_learn h _ _
  · split
    · exact oke_append h _
    · exact oke_endd h _ _ _ _
def onceQ (a b : Rec) : Prop := ¬ (a.p = b.p ∧ a.e = b.e ∧ a.s = b.s)
theorem once_all : ∀ l : List Rec, (∀ p e, seqsOf p e l) → l.Pairwise onceQ := by
  refine snoc_ind (fun _ => List.Pairwise.nil) (fun l x ih h => ?_)
  have h1 : ∀ p e, seqsOf p e l := fun p e => (seqs_snoc (h p e)).1
  refine List.pairwise_append.2 ⟨ih h1, by simp, fun a ha b hb => ?_⟩
  simp at hb
  subst hb
  rintro ⟨e1, e2, e3⟩
  have h2 := (seqs_snoc (h b.p b.e)).2 (by simp [meant])
  have h3 := (seqs_get (h1 b.p b.e) ha (by simp [meant, e1, e2])).2
  omega
theorem once_get {m : PL} (ok : m.Ok) {i j : Nat} (hi : i < m.recs.length) (hj : j < i) : onceQ m.recs[i] (m.recs[j]'(by omega)) := by
  have := List.pairwise_iff_getElem.1 (once_all m.recs ok.seqs) j i (by omega) hi hj
  rintro ⟨e1, e2, e3⟩
  exact this ⟨e1.symm, e2.symm, e3.symm⟩
theorem append_again {m : PL} (ok : m.Ok) (oke : m.OkE) {k : Nat} (hk : k < m.recs.length) :
    0 ≤ m.ep m.recs[k].p ∧ 0 ≤ m.recs[k].p ∧ ((m.ep m.recs[k].p ≠ m.recs[k].e ∧ m.append m.recs[k] = (m, 0, 5)) ∨ (m.ep m.recs[k].p = m.recs[k].e ∧ m.append m.recs[k] = (m, (k : Int), 0))) := by
  have hmem := List.getElem_mem hk
  have h1 := ok.recs _ hmem
  have h2 := oke _ hmem
  have h3 : 0 ≤ m.recs[k].e ∧ 0 ≤ m.recs[k].p := by
    simp [PL.isRec, PL.isProd] at h1
    omega
  have hf : m.recs.findIdx? (fun x => decide (x.p = m.recs[k].p) && decide (x.e = m.recs[k].e) && decide (x.s = m.recs[k].s)) = some k := by
    rw [List.findIdx?_eq_some_iff_getElem]
    refine ⟨hk, by simp, fun j hj => ?_⟩
    have := once_get ok hk hj
    simp only [Bool.and_eq_true, decide_eq_true_eq]
    rintro ⟨⟨e1, e2⟩, e3⟩
    exact this ⟨e1.symm, e2.symm, e3.symm⟩
  refine ⟨by omega, h3.2, ?_⟩
  by_cases he : m.ep m.recs[k].p = m.recs[k].e
  · refine .inr ⟨he, ?_⟩
    unfold PL.append
    rw [if_neg (by rw [h1]; simp), if_neg (by omega), if_neg (by omega), if_neg (by omega), hf]
    simp [hk]
  · refine .inl ⟨he, ?_⟩
    unfold PL.append
    rw [if_neg (by rw [h1]; simp), if_neg (by omega), if_pos (by omega)]
theorem and16 (e : Int) : ∃ q : Nat, bits .and .i64 e 65535 = (q : Int) ∧ q ≤ 65535 := by
  have h2 : (BitVec.ofInt 64 65535).toNat = 65535 := by decide
  have hle : (BitVec.ofInt 64 e &&& BitVec.ofInt 64 65535).toNat ≤ 65535 := by
    rw [BitVec.toNat_and, h2]
    exact Nat.and_le_right
  refine ⟨(BitVec.ofInt 64 e &&& BitVec.ofInt 64 65535).toNat, ?_, hle⟩
  show IntKind.i64.wrap ((BitVec.ofInt 64 e &&& BitVec.ofInt 64 65535).toNat : Int) = _
  generalize (BitVec.ofInt 64 e &&& BitVec.ofInt 64 65535).toNat = q at hle ⊢
  have hw : IntKind.i64.wrap (q : Int) = (q : Int) := by
    unfold IntKind.wrap
    simp [IntKind.bits, IntKind.signed]
    omega
  exact hw
/-! What told handed back, as it is read. -/
class HasAll (L : List Item) (X : List Item) : Prop where out : Item.res (blocks X) (AllOf X) ∈ L
instance {L X : List Item} : HasAll (.res (blocks X) (AllOf X) :: L) X := ⟨List.mem_cons_self ..⟩
instance (priority := low) {L X : List Item} {x : Item} [h : HasAll L X] : HasAll (x :: L) X := ⟨List.mem_cons_of_mem _ h.out⟩
theorem told_cell {b off c : Nat} {X : List Item} {vs : List Value} {rs : List Rec} (hT : Told (some ⟨b, off, none⟩) c X vs rs) {i : Nat} (hi : i < rs.length) {w0 : World} {own : Nat → Prop} {L : List Item} (h : HasAll L X) {o j : Nat} {u : Value} (hj : j < 5) (ho : o = off + i * 5 + j)
    (hu : (recVals rs[i] (vs[i]'(by rw [hT.vl]; exact hi)))[j]? = some u) : Cell w0 own L ⟨b, o, none⟩ u := ⟨fun w hM => by
  have hr := hT.recs (hM.allOf h.out)
  obtain ⟨b', off', e, _, hc⟩ := hr.cells.form (by omega) (by decide)
  injection e with e
  injection e with e1 e2 _
  subst e1; subst e2; subst ho
  have := hc (i * 5 + j) u (by rw [recCells_get _ _ hT.vl i hi j hj]; exact hu)
  rwa [← Nat.add_assoc] at this⟩
theorem told_rng {b off c : Nat} {X : List Item} {vs : List Value} {rs : List Rec} (hT : Told (some ⟨b, off, none⟩) c X vs rs) {i : Nat} (hi : i < rs.length) {w0 : World} {own : Nat → Prop} {L : List Item} (h : HasAll L X) : Rng w0 own L b (off + i * 5) (recVals rs[i] (vs[i]'(by rw [hT.vl]; exact hi))) := ⟨fun w hM => by
  have hr := hT.recs (hM.allOf h.out)
  obtain ⟨b', off', e, _, h2⟩ := rec_range hr.cells hr.vl rfl i hi
  injection e with e
  injection e with e1 e2 _
  subst e1; subst e2
  exact h2⟩
theorem told_form {A : Option Addr} {c : Nat} {X : List Item} {vs : List Value} {rs : List Rec} (hT : Told A c X vs rs) (hn : 0 < rs.length) {w : World} (hX : AllOf X w) : ∃ b off, A = some ⟨b, off, none⟩ := by
  obtain ⟨b, off, e, _⟩ := (hT.recs hX).cells.form hn (by decide)
  exact ⟨b, off, e⟩
/-- A record's bytes: how they read, and that they lie in what told handed back. -/
theorem told_val {A : Option Addr} {c : Nat} {X : List Item} {vs : List Value} {rs : List Rec} (hT : Told A c X vs rs) {i : Nat} (hi : i < rs.length) {w0 w1 : World} {own : Nat → Prop} {L1 : List Item} (hM1 : Mem w0 own w1 L1) (h1 : HasAll L1 X) :
    ∃ D n c, vs[i]'(by rw [hT.vl]; exact hi) = .slice D n c ∧ n ≤ c ∧ (∀ w L, Mem w0 own w L → HasAll L X → Bytes w w.heap.size D n rs[i].v) ∧ (0 < n → ∀ ad, D = some ad → blocks X ad.block) := by
  have hmem := hT.tr i rs[i] _ (List.getElem?_eq_getElem hi) (List.getElem?_eq_getElem (by rw [hT.vl]; exact hi))
  have hrow : w1.ownsRow 0 5 1 (vs[i]'(by rw [hT.vl]; exact hi)) rs[i].v.length (rs[i].v.map V8) := hM1.allOf h1.out _ hmem
  obtain ⟨D, c', e, hc, _⟩ := row_form hrow
  refine ⟨D, _, c', e, hc, fun w L hM h => ?_, fun hn ad ead => ⟨_, hmem, ?_⟩⟩
  · have h2 : w.ownsRow 0 5 1 (vs[i]'(by rw [hT.vl]; exact hi)) rs[i].v.length (rs[i].v.map V8) := hM.allOf h.out _ hmem
    rw [e] at h2
    exact Reads.of_own h2
  · rw [e] at hrow ⊢
    obtain ⟨g, cap, hv, _, _⟩ := hrow.form hn
    injection hv with hv
    rw [ead] at hv
    injection hv with hv
    subst hv
    rw [ead]
    rfl
end Go.Proofs.Ytfecapcjocomkaa
