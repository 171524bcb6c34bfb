/- fetch's laws: FetchEnds, the plain law. -/
import Derived.Test.YtechglhkcjgodaaFetK1
import Derived.Test.YtechglhkcjgodaaFetJ2
import Derived.Test.YtechglhkcjgodaaFetJ3
namespace Go.Proofs.Ytechglhkcjgodaa
open Go.RowKit Go.MapKept
set_option linter.unusedSimpArgs false
set_option linter.unusedVariables false
def enR (i : Nat) : Rec := ⟨0, 0, 1, i, [BitVec.ofNat 8 i]⟩
def enBase (o : Bool) : PL := if o then ⟨[⟨1, 0, 1, 0, []⟩], [⟨1, 0, 1, 0, 2⟩], [0, 0, -1, -1, -1, -1, -1, -1]⟩ else ⟨[], [], [0, 0, -1, -1, -1, -1, -1, -1]⟩
def enK (o : Bool) : Nat := if o then 1 else 0
def en (n : Nat) (o : Bool) : PL := ⟨(enBase o).recs ++ (List.range n).map enR, (enBase o).spans ++ (if n = 0 then [] else [⟨0, 0, 1, enK o, 0⟩]), [0, 0, -1, -1, -1, -1, -1, -1]⟩
deriving instance DecidableEq for PL
theorem en_next : ∀ n, n < 30 → ∀ o : Bool, ((en n o).append (enR n)).1 = en (n + 1) o := by decide +kernel
theorem en_start0 : ((PL.empty.learn 0 0).1.learn 1 0).1 = en 0 false := by decide +kernel
theorem en_start1 : (((en 0 false).append ⟨1, 0, 1, 0, []⟩).1.endd 1 0 1 true).1 = en 0 true := by decide +kernel
def enF (kd n : Nat) (o : Bool) : PL := if kd = 0 then en n o else ((en n o).endd 0 0 1 (kd == 1)).1
def enChk (kd n : Nat) (o : Bool) : Bool :=
  (comF (enF kd n o) 0 100).1.length == (if kd = 1 then enK o + n else enK o) && (comF (enF kd n o) 0 100).2 == (if kd = 0 then enK o else enK o + n) &&
  aborted (enF kd n o) 0 100 == (if kd = 2 then [⟨0, 0, 1, enK o, 3⟩] else []) && (enF kd n o).recs.length == enK o + n
theorem en_chk : ∀ n, n < 31 → ∀ kd, kd < 3 → ∀ o : Bool, 1 ≤ n → enChk kd n o = true := by decide +kernel
theorem en_ok (o : Bool) : ∀ n, n ≤ 30 → (en n o).Ok
  | 0, _ => by
    cases o
    · rw [← en_start0]
      exact ok_learn (ok_learn ok_empty _ _) _ _
    · rw [← en_start1, ← en_start0]
      exact ok_endd (ok_append (ok_learn (ok_learn ok_empty _ _) _ _) _) _ _ _ _
  | n + 1, h => by
    rw [← en_next n (by omega) o]
    exact ok_append (en_ok o n (by omega)) _
theorem en_spans (n : Nat) (o : Bool) : (en n o).spans.length ≤ 2 := by
  unfold en enBase
  cases o <;> by_cases h : n = 0 <;> simp [h]
theorem enF_ok (kd n : Nat) (o : Bool) (hn : n ≤ 30) : (enF kd n o).Ok := by
  unfold enF
  split
  · exact en_ok o n hn
  · exact ok_endd (en_ok o n hn) _ _ _ _
theorem enF_spans (kd n : Nat) (o : Bool) : (enF kd n o).spans.length ≤ 3 := by
  unfold enF
  split
  · exact Nat.le_trans (en_spans n o) (by decide)
  · exact Nat.le_trans (spans_endd _ _ _ _ _) (by have := en_spans n o; omega)
theorem en_recs (n : Nat) (o : Bool) : (en n o).recs.length = enK o + n := by
  unfold en enBase enK
  cases o
  · simp
  · simp; omega
structure EnF (kd n : Nat) (o : Bool) : Prop where
  com : (comF (enF kd n o) 0 100).1.length = if kd = 1 then enK o + n else enK o
  at_ : (comF (enF kd n o) 0 100).2 = if kd = 0 then enK o else enK o + n
  ab : aborted (enF kd n o) 0 100 = if kd = 2 then [⟨0, 0, 1, enK o, 3⟩] else []
  len : (enF kd n o).recs.length = enK o + n
theorem en_all (kd n : Nat) (o : Bool) (h1 : 1 ≤ n) (h2 : n ≤ 30) (h3 : kd ≤ 2) : EnF kd n o := by
  have h := en_chk n (by omega) kd (by omega) o h1
  unfold enChk at h
  simp only [Bool.and_eq_true, beq_iff_eq] at h
  exact ⟨h.1.1.1, h.1.1.2, h.1.2, h.2⟩
section
variable {w0 w : World} {own : Nat → Prop} {L : List Item} {g gg : Nat} {F : Nat → Prop} {m m' : PL}
theorem Learn_to (hM : Mem w0 own w (.res F (LogP F g m) :: L)) (ok : m.Ok) {p e : Int} (h : (m.learn p e).1 = m') : Calls Try.prog 27 #[.pointer (some ⟨g, 0, none⟩), .int .i64 p, .int .i64 e] w fun x w' => (∃ z, x = .returned (.int .i64 z)) ∧ ∃ F', Mem w0 own w' (.res F' (LogP F' g m') :: L) := by
  subst h
  exact (Learn_mem 0 hM rfl ok p e).mono fun x w' ⟨hx, F', h⟩ => ⟨⟨_, hx⟩, F', h⟩
theorem End_to (hM : Mem w0 own w (.res F (LogP F g m) :: L)) (hsl : m.spans.length ≤ 1000000) {p e t : Int} {c : Bool} (h : (m.endd p e t c).1 = m') : Calls Try.prog 29 #[.pointer (some ⟨g, 0, none⟩), .int .i64 p, .int .i64 e, .int .i64 t, .bool c] w fun x w' => (∃ z, x = .returned (.int .i64 z)) ∧ ∃ F', Mem w0 own w' (.res F' (LogP F' g m') :: L) := by
  subst h
  exact (End_mem 0 hM rfl hsl p e t c).mono fun x w' ⟨hx, F', h⟩ => ⟨⟨_, hx⟩, F', h⟩
theorem Append_none (hM : Mem w0 own w (.res F (LogP F g m) :: L)) (ok : m.Ok) (hsl : m.spans.length ≤ 1000000) {p e t s : Int} (h : (m.append ⟨p, e, t, s, []⟩).1 = m') : Calls Try.prog 28 #[.pointer (some ⟨g, 0, none⟩), .agg #[.int .i64 p, .int .i64 e, .int .i64 t, .int .i64 s, .slice none 0 0]] w fun x w' => (∃ y z, x = .returned (.tuple #[.int .i64 y, .int .i64 z])) ∧ ∃ F', Mem w0 own w' (.res F' (LogP F' g m') :: L) := by
  subst h
  exact (Append_mem 0 hM rfl ok hsl ⟨p, e, t, s, []⟩ 0 0 none Reads.none_ (Nat.le_refl _) (fun _ ad e => nomatch e)).mono fun x w' ⟨hx, F', h⟩ => ⟨⟨_, _, hx⟩, F', h⟩
theorem Append_row1 {n : Nat} (hM : Mem w0 own w (.row (.slice (some ⟨gg, 0, none⟩) 1 1) 5 1 1 [.int .u8 (n : Nat)] :: .res F (LogP F g m) :: L)) (ok : m.Ok) (hsl : m.spans.length ≤ 1000000) (hn : n < 256) {p e t s : Int} (h : (m.append ⟨p, e, t, s, [BitVec.ofNat 8 n]⟩).1 = m') :
    Calls Try.prog 28 #[.pointer (some ⟨g, 0, none⟩), .agg #[.int .i64 p, .int .i64 e, .int .i64 t, .int .i64 s, .slice (some ⟨gg, 0, none⟩) 1 1]] w fun x w' => (∃ y z, x = .returned (.tuple #[.int .i64 y, .int .i64 z])) ∧ ∃ F', Mem w0 own w' (.res F' (LogP F' g m') :: L) := by
  subst h
  have hb : Bytes w w.heap.size (some ⟨gg, 0, none⟩) 1 [BitVec.ofNat 8 n] := by
    have h0 := Reads.of_own (hM.row 0 rfl)
    unfold Bytes
    rw [V8_mk n hn] at h0
    exact h0
  exact (Append_mem 1 hM rfl ok hsl ⟨p, e, t, s, [BitVec.ofNat 8 n]⟩ 1 1 (some ⟨gg, 0, none⟩) hb (Nat.le_refl _) (fun _ ad e => by
    injection e with e
    subst e
    exact hM.ne 0 1 rfl rfl (by decide) rfl)).mono fun x w' ⟨hx, F', h⟩ => ⟨⟨_, _, hx⟩, F', Mem.tail h⟩
theorem Com_to (hM : Mem w0 own w (.res F (LogP F g m) :: L)) (ok : m.Ok) (hsl : m.spans.length ≤ 1000000) {a b : Nat} (h1 : (comF m 0 100).1.length = a) (h2 : (comF m 0 100).2 = b) :
    Calls Try.prog 12 #[.pointer (some ⟨g, 0, none⟩), .int .i64 0, .int .i64 100] w fun e w' => ∃ A c, e = .returned (.tuple #[.slice A a c, .int .i64 b]) ∧ Mem w0 own w' (.res F (LogP F g m) :: L) := by
  subst h1 h2
  exact (Committed_any hM ok hsl 0 100).mono fun e w' ⟨A, c, vs, h1, h2, h3⟩ => ⟨A, c, h1, h3.sub (List.sublist_append_right _ _)⟩
theorem Abo_to (hM : Mem w0 own w (.res F (LogP F g m) :: L)) (hsl : m.spans.length ≤ 1000000) {out : List Spn} (h1 : aborted m 0 100 = out) :
    Calls Try.prog 21 #[.pointer (some ⟨g, 0, none⟩), .int .i64 0, .int .i64 100] w fun e w' => ∃ A c, e = .returned (.slice A out.length c) ∧ Mem w0 own w' (.row (.slice A out.length c) 39 5 out.length (spnCells out) :: .res F (LogP F g m) :: L) := by
  subst h1
  exact Aborted_any hM hsl 0 100
theorem Len_to {k : Nat} (i : Nat) (hM : Mem w0 own w L) (hi : L[i]? = some (.res F (LogP F g m))) (h : m.recs.length = k) : Calls Try.prog 30 #[.pointer (some ⟨g, 0, none⟩)] w fun x w' => x = .returned (.int .i64 k) ∧ Grow w noOwn w' := by
  subst h
  exact Len_mem i hM hi
end
end Go.Proofs.Ytechglhkcjgodaa
