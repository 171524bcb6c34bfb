/- plog: both logs among what is at hand. -/
import Derived.Test.YtechglhkcjgodaaPlogA
namespace Go.Proofs.Ytechglhkcjgodaa
open Go.RowKit Go.MapKept
set_option linter.unusedSimpArgs false
attribute [local irreducible] wpList Code.wp GW Calls

theorem Reads.stay2 {w w' : World} {size n : Nat} {D : Option Addr} {xs : List Value} (h : Reads w w.heap.size size D n xs) (hk : ∀ ad, D = some ad → ad.block < w.heap.size → w'.heap[ad.block]? = w.heap[ad.block]?) : Reads w' w'.heap.size size D n xs :=
  ⟨h.1, fun hn => by
    obtain ⟨ad, e, hb, hc⟩ := h.2 hn
    exact ⟨ad, e, lt_of_same hb (hk ad e hb), fun j u hu => (World.cell?_of_block (by rw [block_of_add]; exact hk ad e hb)).trans (hc j u hu)⟩⟩
/-- The program's log on blocks F. -/
def LogP (F : Nat → Prop) (g : Nat) (m : PL) (w : World) : Prop := ∃ S V, LogAt w g m S V ∧ ∀ i, S i ∨ V i → F i
/-- The reference's log on blocks F. -/
def RefP (F : Nat → Prop) (g : Nat) (m : PL) (w : World) : Prop := ∃ V, RefAt w g m V ∧ ∀ i, i = g ∨ V i → F i
theorem LogP.stays (F : Nat → Prop) (g : Nat) (m : PL) : Stays F (LogP F g m) := by
  rintro w1 w2 hl hk ⟨S, V, ⟨gm, A, B, ca, cb, vs, h⟩, hF⟩
  refine ⟨S, V, ⟨gm, A, B, ca, cb, vs, h.vl, ⟨Grow.refl _ _, fun x hx => Item.keep (h.mem.has x hx) (fun i e => hk i (hF i (.inl ((h.mem.mine x hx i e).resolve_right (by have := Item.at_lt (h.mem.has x hx) i e; omega))))), h.mem.apart, fun x hx i e => .inl ((h.mem.mine x hx i e).resolve_right (by have := Item.at_lt (h.mem.has x hx) i e; omega))⟩,
   fun i hi => lt_of_same (h.low i hi) (hk i (hF i hi)), h.apart, fun i hi => ?_⟩, hF⟩
  obtain ⟨D, n, c, e, hc, hb, hv⟩ := h.vals i hi
  exact ⟨D, n, c, e, hc, Reads.stay2 hb (fun ad e2 _ => hk _ (hF _ (.inr (hv ad e2)))), hv⟩
theorem RefP.stays (F : Nat → Prop) (g : Nat) (m : PL) : Stays F (RefP F g m) := by
  rintro w1 w2 hl hk ⟨V, ⟨A, B, ca, cb, vs, h⟩, hF⟩
  refine ⟨V, ⟨A, B, ca, cb, vs, ⟨⟨h.vl, h.recs.stay2 (fun ad e _ => hk _ (hF _ (.inr (h.va ad e)))), h.spans.stay2 (fun ad e _ => hk _ (hF _ (.inr (h.vb ad e)))), fun i hi => ?_⟩, h.e8, (hk g (hF g (.inl rfl))).trans h.blk⟩, fun i hi => lt_of_same (h.low i hi) (hk i (hF i (.inr hi))), h.far, h.va, h.vb, h.vv, h.cap⟩, hF⟩
  obtain ⟨D, n, c, e, hc, hb⟩ := h.vals i hi
  obtain ⟨D', n', c', e', hv⟩ := h.vv i hi
  rw [e] at e'
  injection e' with e1 _ _
  exact ⟨D, n, c, e, hc, Reads.stay2 hb (fun ad e2 _ => hk _ (hF _ (.inr (hv ad (by rw [← e1]; exact e2)))))⟩

section
variable {w0 w w' : World} {own : Nat → Prop} {L : List Item} {i g : Nat} {F : Nat → Prop} {m m' : PL}
theorem Mem.logP (hM : Mem w0 own w L) (hi : L[i]? = some (.res F (LogP F g m))) : LogP F g m w := (hM.at_ i hi).2.1
theorem Mem.refP (hM : Mem w0 own w L) (hi : L[i]? = some (.res F (RefP F g m))) : RefP F g m w := (hM.at_ i hi).2.1
theorem log_step (hM : Mem w0 own w L) (hi : L[i]? = some (.res F (LogP F g m))) {S V : Nat → Prop} (hF : ∀ i, S i ∨ V i → F i) (hs : Step w g m' S V w') : ∃ F', Mem w0 own w' (L.set i (.res F' (LogP F' g m'))) := by
  obtain ⟨S', V', h, hg, h1, h2⟩ := hs
  refine ⟨fun i => S' i ∨ V' i, hM.callAt i hi (F := S) (fun j hj => .inl (hF j (.inl hj))) hg ⟨fun j hj => h.low j hj, ⟨S', V', h, fun _ h => h⟩, LogP.stays _ _ _⟩ (fun j hj => ?_)⟩
  rcases hj with hj | hj
  · rcases h1 j hj with h3 | h3
    · exact .inl (hF j (.inl h3))
    · exact .inr h3
  · rcases h2 j hj with h3 | h3
    · exact .inl (hF j (.inr h3))
    · exact .inr h3
theorem ref_step (hM : Mem w0 own w L) (hi : L[i]? = some (.res F (RefP F g m))) {V : Nat → Prop} (hF : ∀ i, i = g ∨ V i → F i) (hs : StepR w g m' V w') : ∃ F', Mem w0 own w' (L.set i (.res F' (RefP F' g m'))) := by
  obtain ⟨V', h, hg, h2⟩ := hs
  refine ⟨fun i => i = g ∨ V' i, hM.callAt i hi (F := own1 g) (fun j hj => .inl (hF j (.inl hj))) hg ⟨fun j hj => h.low j hj, ⟨V', h, fun _ h => h⟩, RefP.stays _ _ _⟩ (fun j hj => ?_)⟩
  rcases hj with hj | hj
  · exact .inl (hF j (.inl hj))
  · rcases h2 j hj with h3 | h3
    · exact .inl (hF j (.inr h3))
    · exact .inr h3
theorem New_mem (hM : Mem w0 own w L) : Calls Try.prog 26 #[] w fun e w' => ∃ g F, e = .returned (.pointer (some ⟨g, 0, none⟩)) ∧ Mem w0 own w' (.res F (LogP F g PL.empty) :: L) :=
  (New_any w).mono fun e w' ⟨g, S, V, he, h, hg, h1, h2⟩ => ⟨g, fun i => S i ∨ V i, he, hM.push (hM.grow.then_ hg) (fun k hk => hg.block k hk (fun e => e)) ⟨fun j hj => h.low j hj, ⟨S, V, h, fun _ h => h⟩, LogP.stays _ _ _⟩ (fun j hj => by
    rcases hj with hj | hj
    · exact h1 j hj
    · exact h2 j hj)⟩
theorem NewR_mem (hM : Mem w0 own w L) : Calls Try.prog 31 #[] w fun e w' => ∃ g F, e = .returned (.pointer (some ⟨g, 0, none⟩)) ∧ Mem w0 own w' (.res F (RefP F g PL.empty) :: L) :=
  (NewR_any w).mono fun e w' ⟨g, V, he, h, hg, h1, h2⟩ => ⟨g, fun i => i = g ∨ V i, he, hM.push (hM.grow.then_ hg) (fun k hk => hg.block k hk (fun e => e)) ⟨fun j hj => h.low j hj, ⟨V, h, fun _ h => h⟩, RefP.stays _ _ _⟩ (fun j hj => by
    rcases hj with hj | hj
    · rw [hj]; exact h1
    · exact h2 j hj)⟩
theorem Learn_mem (i : Nat) (hM : Mem w0 own w L) (hi : L[i]? = some (.res F (LogP F g m))) (ok : m.Ok) (p e : Int) : Calls Try.prog 27 #[.pointer (some ⟨g, 0, none⟩), .int .i64 p, .int .i64 e] w fun x w' => x = .returned (.int .i64 (m.learn p e).2) ∧ ∃ F', Mem w0 own w' (L.set i (.res F' (LogP F' g (m.learn p e).1))) := by
  obtain ⟨S, V, ⟨gm, A, B, ca, cb, vs, h⟩, hF⟩ := hM.logP hi
  exact (Learn_any w g gm A B ca cb m vs S V h ok.e8 p e).mono fun x w' ⟨hx, hs⟩ => ⟨hx, log_step hM hi hF hs⟩
theorem End_mem (i : Nat) (hM : Mem w0 own w L) (hi : L[i]? = some (.res F (LogP F g m))) (hsl : m.spans.length ≤ 1000000) (p e t : Int) (c : Bool) : Calls Try.prog 29 #[.pointer (some ⟨g, 0, none⟩), .int .i64 p, .int .i64 e, .int .i64 t, .bool c] w fun x w' => x = .returned (.int .i64 (m.endd p e t c).2) ∧ ∃ F', Mem w0 own w' (L.set i (.res F' (LogP F' g (m.endd p e t c).1))) := by
  obtain ⟨S, V, ⟨gm, A, B, ca, cb, vs, h⟩, hF⟩ := hM.logP hi
  exact (End_any w g gm A B ca cb m vs S V h p e t c hsl).mono fun x w' ⟨hx, hs⟩ => ⟨hx, log_step hM hi hF hs⟩
theorem Append_mem (i : Nat) (hM : Mem w0 own w L) (hi : L[i]? = some (.res F (LogP F g m))) (ok : m.Ok) (hsl : m.spans.length ≤ 1000000) (r : Rec) (n c : Nat) (D : Option Addr) (hb : Bytes w w.heap.size D n r.v) (hnc : n ≤ c) (hD : 0 < n → ∀ ad, D = some ad → ¬ F ad.block) :
    Calls Try.prog 28 #[.pointer (some ⟨g, 0, none⟩), .agg #[.int .i64 r.p, .int .i64 r.e, .int .i64 r.t, .int .i64 r.s, .slice D n c]] w fun x w' => x = .returned (.tuple #[.int .i64 (m.append r).2.1, .int .i64 (m.append r).2.2]) ∧ ∃ F', Mem w0 own w' (L.set i (.res F' (LogP F' g (m.append r).1))) := by
  obtain ⟨S, V, h, hF⟩ := hM.logP hi
  exact (Append_any w g m S V h ok hsl r n c D hb hnc (fun hn ad e hS => hD hn ad e (hF _ (.inl hS)))).mono fun x w' ⟨hx, hs⟩ => ⟨hx, log_step hM hi hF hs⟩
theorem LearnR_mem (i : Nat) (hM : Mem w0 own w L) (hi : L[i]? = some (.res F (RefP F g m))) (p e : Int) : Calls Try.prog 32 #[.pointer (some ⟨g, 0, none⟩), .int .i64 p, .int .i64 e] w fun x w' => x = .returned (.int .i64 (m.learn p e).2) ∧ ∃ F', Mem w0 own w' (L.set i (.res F' (RefP F' g (m.learn p e).1))) := by
  obtain ⟨V, h, hF⟩ := hM.refP hi
  exact (LearnR_any w g m V h p e).mono fun x w' ⟨hx, hs⟩ => ⟨hx, ref_step hM hi hF hs⟩
theorem EndR_mem (i : Nat) (hM : Mem w0 own w L) (hi : L[i]? = some (.res F (RefP F g m))) (hsl : m.spans.length ≤ 1000000) (p e t : Int) (c : Bool) : Calls Try.prog 34 #[.pointer (some ⟨g, 0, none⟩), .int .i64 p, .int .i64 e, .int .i64 t, .bool c] w fun x w' => x = .returned (.int .i64 (m.endd p e t c).2) ∧ ∃ F', Mem w0 own w' (L.set i (.res F' (RefP F' g (m.endd p e t c).1))) := by
  obtain ⟨V, h, hF⟩ := hM.refP hi
  exact (EndR_any w g m V h hsl p e t c).mono fun x w' ⟨hx, hs⟩ => ⟨hx, ref_step hM hi hF hs⟩
theorem AppendR_mem (i : Nat) (hM : Mem w0 own w L) (hi : L[i]? = some (.res F (RefP F g m))) (ok : m.Ok) (hsl : m.spans.length ≤ 1000000) (r : Rec) (n c : Nat) (D : Option Addr) (hb : Bytes w w.heap.size D n r.v) (hD : 0 < n → ∀ ad, D = some ad → ¬ F ad.block) :
    Calls Try.prog 33 #[.pointer (some ⟨g, 0, none⟩), .agg #[.int .i64 r.p, .int .i64 r.e, .int .i64 r.t, .int .i64 r.s, .slice D n c]] w fun x w' => x = .returned (.tuple #[.int .i64 (m.append r).2.1, .int .i64 (m.append r).2.2]) ∧ ∃ F', Mem w0 own w' (L.set i (.res F' (RefP F' g (m.append r).1))) := by
  obtain ⟨V, h, hF⟩ := hM.refP hi
  exact (AppendR_any w g m V h ok hsl r n c D hb (fun hn ad e hS => hD hn ad e (hF _ (.inl hS)))).mono fun x w' ⟨hx, hs⟩ => ⟨hx, ref_step hM hi hF hs⟩
theorem Len_mem (i : Nat) (hM : Mem w0 own w L) (hi : L[i]? = some (.res F (LogP F g m))) : Calls Try.prog 30 #[.pointer (some ⟨g, 0, none⟩)] w fun x w' => x = .returned (.int .i64 m.recs.length) ∧ Grow w noOwn w' := by
  obtain ⟨S, V, ⟨gm, A, B, ca, cb, vs, h⟩, hF⟩ := hM.logP hi
  exact (Len_any w g gm A B ca cb m vs h.read).mono fun x w' ⟨hx, hs⟩ => ⟨hx, hs ▸ Grow.refl _ _⟩
theorem Stable_mem (i : Nat) (hM : Mem w0 own w L) (hi : L[i]? = some (.res F (LogP F g m))) (hsl : m.spans.length ≤ 1000000) : Calls Try.prog 37 #[.pointer (some ⟨g, 0, none⟩)] w fun x w' => x = .returned (.int .i64 m.stable) ∧ Grow w noOwn w' := by
  obtain ⟨S, V, ⟨gm, A, B, ca, cb, vs, h⟩, hF⟩ := hM.logP hi
  exact Stable_any w g gm A B ca cb m vs h.read (by omega)
theorem Spans_mem (i : Nat) (hM : Mem w0 own w L) (hi : L[i]? = some (.res F (LogP F g m))) (hsl : m.spans.length ≤ 1000000) : Calls Try.prog 18 #[.pointer (some ⟨g, 0, none⟩)] w fun x w' => ∃ A' c', x = .returned (.slice A' m.spans.length c') ∧ Grow w noOwn w' ∧ Reads w' w'.heap.size 5 A' m.spans.length (spnCells m.spans) := by
  obtain ⟨S, V, ⟨gm, A, B, ca, cb, vs, h⟩, hF⟩ := hM.logP hi
  exact (Spans_any w g gm A B ca cb m vs h.read (by omega)).mono fun x w' ⟨⟨A', c', hx, _, hr⟩, hs⟩ => ⟨A', c', hx, hs, hr⟩
theorem StableR_mem (i : Nat) (hM : Mem w0 own w L) (hi : L[i]? = some (.res F (RefP F g m))) (hsl : m.spans.length ≤ 1000000) : Calls Try.prog 19 #[.pointer (some ⟨g, 0, none⟩)] w fun x w' => x = .returned (.int .i64 m.stable) ∧ Grow w noOwn w' := by
  obtain ⟨V, ⟨A, B, ca, cb, vs, h⟩, hF⟩ := hM.refP hi
  exact (StableR_any w g A B ca cb m vs h.toRefR (by omega)).mono fun x w' ⟨hx, hs⟩ => ⟨hx, hs ▸ Grow.refl _ _⟩
end
theorem spans_append (m : PL) (r : Rec) : (m.append r).1.spans.length ≤ m.spans.length + 1 := by
  unfold PL.append
  repeat' split
  all_goals (try simp only)
  all_goals (try split)
  all_goals (first | (simp; done) | (simp; omega) | omega)
theorem spans_endd (m : PL) (p e t : Int) (c : Bool) : (m.endd p e t c).1.spans.length ≤ m.spans.length + 1 := by
  unfold PL.endd
  generalize (if c = true then (2 : Int) else 3) = kk
  repeat' split
  all_goals (first | (simp; done) | (simp; omega) | omega)
theorem spans_learn (m : PL) (p e : Int) : (m.learn p e).1.spans = m.spans := (learn_rows m p e).2

def kn1 : PL := (PL.empty.learn 0 0).1
def kn2 : PL := (kn1.append ⟨0, 0, 1, 0, []⟩).1
def kn3 : PL := (kn2.append ⟨0, 0, 1, 1, []⟩).1
def kn4 : PL := (kn3.endd 0 0 1 true).1
theorem kn_1 : (PL.empty.learn 0 0).2 = 0 := by decide
theorem kn_2 : (kn1.append ⟨0, 0, 1, 0, []⟩).2 = (0, 0) := by decide
theorem kn_3 : (kn2.append ⟨0, 0, 1, 1, []⟩).2 = (1, 0) := by decide
theorem kn_4 : (kn3.endd 0 0 1 true).2 = 0 := by decide
theorem kn_5 : kn3.stable = 0 := by decide
theorem kn_6 : kn4.stable = 2 := by decide
theorem kn_7 : kn1.spans.length ≤ 10 ∧ kn2.spans.length ≤ 10 ∧ kn3.spans.length ≤ 10 ∧ kn4.spans.length ≤ 10 := by decide
theorem kn_ok1 : kn1.Ok := ok_learn ok_empty _ _
theorem kn_ok2 : kn2.Ok := ok_append kn_ok1 _
theorem kn_ok3 : kn3.Ok := ok_append kn_ok2 _
section
variable {w0 w : World} {own : Nat → Prop} {L : List Item} {g : Nat} {F : Nat → Prop}
theorem kn_c1 (hM : Mem w0 own w (.res F (LogP F g PL.empty) :: L)) : Calls Try.prog 27 #[.pointer (some ⟨g, 0, none⟩), .int .i64 0, .int .i64 0] w fun x w' => x = .returned (.int .i64 0) ∧ ∃ F', Mem w0 own w' (.res F' (LogP F' g kn1) :: L) := by
  have := Learn_mem 0 hM rfl ok_empty 0 0
  rw [kn_1] at this
  exact this
theorem kn_c2 (hM : Mem w0 own w (.res F (LogP F g kn1) :: L)) : Calls Try.prog 28 #[.pointer (some ⟨g, 0, none⟩), .agg #[.int .i64 0, .int .i64 0, .int .i64 1, .int .i64 0, .slice none 0 0]] w fun x w' => x = .returned (.tuple #[.int .i64 0, .int .i64 0]) ∧ ∃ F', Mem w0 own w' (.res F' (LogP F' g kn2) :: L) := by
  have := Append_mem 0 hM rfl kn_ok1 (by have := kn_7; omega) ⟨0, 0, 1, 0, []⟩ 0 0 none Reads.none_ (Nat.le_refl _) (fun _ ad e => nomatch e)
  rw [kn_2] at this
  exact this
theorem kn_c3 (hM : Mem w0 own w (.res F (LogP F g kn2) :: L)) : Calls Try.prog 28 #[.pointer (some ⟨g, 0, none⟩), .agg #[.int .i64 0, .int .i64 0, .int .i64 1, .int .i64 1, .slice none 0 0]] w fun x w' => x = .returned (.tuple #[.int .i64 1, .int .i64 0]) ∧ ∃ F', Mem w0 own w' (.res F' (LogP F' g kn3) :: L) := by
  have := Append_mem 0 hM rfl kn_ok2 (by have := kn_7; omega) ⟨0, 0, 1, 1, []⟩ 0 0 none Reads.none_ (Nat.le_refl _) (fun _ ad e => nomatch e)
  rw [kn_3] at this
  exact this
theorem kn_c4 (hM : Mem w0 own w (.res F (LogP F g kn3) :: L)) : Calls Try.prog 29 #[.pointer (some ⟨g, 0, none⟩), .int .i64 0, .int .i64 0, .int .i64 1, .bool true] w fun x w' => x = .returned (.int .i64 0) ∧ ∃ F', Mem w0 own w' (.res F' (LogP F' g kn4) :: L) := by
  have := End_mem 0 hM rfl (by have := kn_7; omega) 0 0 1 true
  rw [kn_4] at this
  exact this
theorem kn_c5 (hM : Mem w0 own w (.res F (LogP F g kn3) :: L)) : Calls Try.prog 37 #[.pointer (some ⟨g, 0, none⟩)] w fun x w' => x = .returned (.int .i64 0) ∧ Grow w noOwn w' := by
  have := Stable_mem 0 hM rfl (by have := kn_7; omega)
  rwa [kn_5] at this
theorem kn_c6 (hM : Mem w0 own w (.res F (LogP F g kn4) :: L)) : Calls Try.prog 37 #[.pointer (some ⟨g, 0, none⟩)] w fun x w' => x = .returned (.int .i64 2) ∧ Grow w noOwn w' := by
  have := Stable_mem 0 hM rfl (by have := kn_7; omega)
  rwa [kn_6] at this
end
end Go.Proofs.Ytechglhkcjgodaa
