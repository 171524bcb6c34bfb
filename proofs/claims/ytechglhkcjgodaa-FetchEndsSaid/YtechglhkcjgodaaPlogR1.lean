/- plog: the reference's log; its functions that read. -/
import Derived.Test.YtechglhkcjgodaaPlog9
import Derived.Test.YtechglhkcjgodaaTypes
namespace Go.Proofs.Ytechglhkcjgodaa
open Go.RowKit Go.MapKept
set_option linter.unusedSimpArgs false
attribute [local irreducible] wpList Code.wp GW Calls

/-- The reference's log, as it is read. -/
structure RefR (w : World) (g : Nat) (A B : Option Addr) (ca cb : Nat) (m : PL) (vs : List Value) : Prop extends Rows w A B m vs where
  e8 : m.eps.length = 8
  blk : Blk w g 45 (.slice A m.recs.length ca :: .slice B m.spans.length cb :: m.eps.map (Value.int .i64)).toArray
theorem RefR.grow {w w' : World} {g : Nat} {A B : Option Addr} {ca cb : Nat} {m : PL} {vs : List Value} (h : RefR w g A B ca cb m vs) (hg : Grow w noOwn w') : RefR w' g A B ca cb m vs :=
  ⟨h.toRows.grow hg, h.e8, hg.blk h.blk (fun e => e)⟩
theorem spn_cells5 {w : World} {A : Option Addr} {n B0 : Nat} {l : List Spn} (hb : Reads w B0 5 A n (spnCells l)) (hl : l.length = n) (k : Nat) (hk : k < l.length) :
    ∃ b off, A = some ⟨b, off, none⟩ ∧ b < B0 ∧ w.cell? ⟨b, off + k * 5, none⟩ = some (.int .i64 l[k].p) ∧ w.cell? ⟨b, off + k * 5 + 1, none⟩ = some (.int .i64 l[k].e) ∧ w.cell? ⟨b, off + k * 5 + 2, none⟩ = some (.int .i64 l[k].t) ∧ w.cell? ⟨b, off + k * 5 + 3, none⟩ = some (.int .i64 l[k].f) ∧ w.cell? ⟨b, off + k * 5 + 4, none⟩ = some (.int .i64 l[k].k) := by
  obtain ⟨b, off, rfl, hbB, h⟩ := spn_cells hb hl k hk
  exact ⟨b, off, rfl, hbB, h 0 _ rfl, h 1 _ rfl, h 2 _ rfl, h 3 _ rfl, h 4 _ rfl⟩

theorem in_any (n a b : Int) (w : World) : Calls Try.prog 52 #[.int .i64 n, .int .i64 a, .int .i64 b] w fun x w' => x = .returned (.bool (decide (a ≤ n) && decide (n ≤ b))) ∧ w = w' := by
  by_cases h1 : a ≤ n <;> by_cases h2 : n ≤ b
  all_goals
    simp only [h1, h2, decide_true, decide_false, Bool.and_true, Bool.and_false]
    go_enter Try.func52, Try.ntmps52
    go_wp2
    go_ret
    exact ⟨rfl, rfl⟩

def spnIs (p e t : Int) (s : Spn) : Bool := decide (s.p = p) && decide (s.e = e) && decide (s.t = t)
theorem PL.spanAt_idx (m : PL) (p e t : Int) : m.spanAt p e t = idx m.spans (spnIs p e t) := rfl
set_option maxRecDepth 100000 in
set_option maxHeartbeats 4000000 in
theorem spanR_any (w : World) (g : Nat) (A B : Option Addr) (ca cb : Nat) (m : PL) (vs : List Value) (h : RefR w g A B ca cb m vs) (hs : m.spans.length ≤ 1000000000) (p e t : Int) :
    Calls Try.prog 42 #[.pointer (some ⟨g, 0, none⟩), .int .i64 p, .int .i64 e, .int .i64 t] w fun x w' => x = .returned (.int .i64 (m.spanAt p e t)) ∧ w = w' := by
  have c1 : w.cell? ⟨g, 1, none⟩ = some (.slice B m.spans.length cb) := h.blk.cell 1
  rw [m.spanAt_idx]
  obtain ⟨n, hn⟩ : ∃ n, m.spans.length = n := ⟨_, rfl⟩
  rw [hn] at c1 hs
  have HN := hide hn
  clear hn
  go_enter Try.func42, Try.ntmps42
  go_wp2
  go_loopw [9] (fun v wr => ∃ k : Nat, k ≤ n ∧ v = .int .i64 k ∧ w = wr ∧ Hid (∀ x ∈ m.spans.take k, spnIs p e t x = false)) (fun v _ => n - (intOf v).toNat)
  case atStart => exact ⟨0, Nat.zero_le _, rfl, rfl, hide (by simp)⟩
  case round =>
    obtain ⟨k, hk, rfl, rfl, hnone⟩ := hrel
    by_cases hlt : k < n
    · have hkl : k < m.spans.length := by rw [unhide HN]; exact hlt
      obtain ⟨b, off, rfl, hbB, d0, d1, d2, _, _⟩ := spn_cells5 h.spans rfl k hkl
      obtain ⟨s, hs0⟩ : ∃ s, s = m.spans[k] := ⟨_, rfl⟩
      rw [← hs0] at d0 d1 d2
      have hnext : Hid (spnIs p e t s = false → ∀ x ∈ m.spans.take (k + 1), spnIs p e t x = false) := hide (fun hh x hx => by
        rw [List.take_succ_eq_append_getElem hkl] at hx
        rcases List.mem_append.1 hx with hx | hx
        · exact unhide hnone x hx
        · simp at hx; rw [hx, ← hs0]; exact hh)
      have hfound : Hid (spnIs p e t s = true → idx m.spans (spnIs p e t) = k) := hide (fun hh => by
        unfold idx
        rw [take_none (unhide hnone) hkl (by rw [← hs0]; exact hh)])
      have HS : Hid (∀ b, spnIs p e t s = b ↔ (decide (s.p = p) && decide (s.e = e) && decide (s.t = t)) = b) := hide (fun b => Iff.rfl)
      clear hs0 hnone
      obtain ⟨sp, se, st, sf, sk⟩ := s
      rcases (if e1 : sp = p then if e2 : se = e then if e3 : st = t then .inr (.inr (.inr ⟨e1, e2, e3⟩)) else .inr (.inr (.inl ⟨e1, e2, e3⟩)) else .inr (.inl ⟨e1, e2⟩) else .inl e1 : ¬ sp = p ∨ (sp = p ∧ ¬ se = e) ∨ (sp = p ∧ se = e ∧ ¬ st = t) ∨ sp = p ∧ se = e ∧ st = t) with e1 | ⟨rfl, e1⟩ | ⟨rfl, rfl, e1⟩ | ⟨rfl, rfl, rfl⟩
      · have hh : Hid (spnIs p e t ⟨sp, se, st, sf, sk⟩ = false) := hide (((unhide HS) _).2 (by simp [e1]))
        go_wp2
        go_roundw
        case rel => exact ⟨k + 1, by omega, by go_num, trivial, hide (unhide hnext (unhide hh))⟩
        case measure => simp [intOf]; omega
      · have hh : Hid (spnIs sp e t ⟨sp, se, st, sf, sk⟩ = false) := hide (((unhide HS) _).2 (by simp [e1]))
        go_wp2
        go_roundw
        case rel => exact ⟨k + 1, by omega, by go_num, trivial, hide (unhide hnext (unhide hh))⟩
        case measure => simp [intOf]; omega
      · have hh : Hid (spnIs sp se t ⟨sp, se, st, sf, sk⟩ = false) := hide (((unhide HS) _).2 (by simp [e1]))
        go_wp2
        go_roundw
        case rel => exact ⟨k + 1, by omega, by go_num, trivial, hide (unhide hnext (unhide hh))⟩
        case measure => simp [intOf]; omega
      · have hh : Hid (spnIs sp se st ⟨sp, se, st, sf, sk⟩ = true) := hide (((unhide HS) _).2 (by simp))
        go_wp2
        go_ret
        exact ⟨congrArg (fun b => Ending.returned (.int .i64 b)) (unhide hfound (unhide hh)).symm, rfl⟩
    · obtain rfl : k = n := by omega
      go_wp2
      go_ret
      refine ⟨congrArg (fun b => Ending.returned (.int .i64 b)) ?_, rfl⟩
      unfold idx
      rw [List.findIdx?_eq_none_iff.2 (fun x hx => unhide hnone x (by rw [List.take_of_length_le (by rw [unhide HN]; exact Nat.le_refl _)]; exact hx))]

def otherIs (p e t : Int) (s : Spn) : Bool := decide (s.p = p) && decide (s.e = e) && decide (s.t ≠ t) && decide (s.k = 0)
set_option maxRecDepth 100000 in
set_option maxHeartbeats 4000000 in
theorem other_any (w : World) (g : Nat) (A B : Option Addr) (ca cb : Nat) (m : PL) (vs : List Value) (h : RefR w g A B ca cb m vs) (hs : m.spans.length ≤ 1000000000) (p e t : Int) :
    Calls Try.prog 54 #[.pointer (some ⟨g, 0, none⟩), .int .i64 p, .int .i64 e, .int .i64 t] w fun x w' => x = .returned (.bool (m.spans.any (otherIs p e t))) ∧ w = w' := by
  have c1 : w.cell? ⟨g, 1, none⟩ = some (.slice B m.spans.length cb) := h.blk.cell 1
  obtain ⟨n, hn⟩ : ∃ n, m.spans.length = n := ⟨_, rfl⟩
  rw [hn] at c1 hs
  have HN := hide hn
  clear hn
  obtain ⟨ans, hans⟩ : ∃ ans, ans = m.spans.any (otherIs p e t) := ⟨_, rfl⟩
  rw [← hans]
  have HA := hide hans
  clear hans
  go_enter Try.func54, Try.ntmps54
  go_wp2
  go_loopw [9] (fun v wr => ∃ k : Nat, k ≤ n ∧ v = .int .i64 k ∧ w = wr ∧ Hid (ans = (m.spans.drop k).any (otherIs p e t))) (fun v _ => n - (intOf v).toNat)
  case atStart => exact ⟨0, Nat.zero_le _, rfl, rfl, hide (by simpa using unhide HA)⟩
  case round =>
    obtain ⟨k, hk, rfl, rfl, hrest⟩ := hrel
    by_cases hlt : k < n
    · have hkl : k < m.spans.length := by rw [unhide HN]; exact hlt
      obtain ⟨b, off, rfl, hbB, d0, d1, d2, _, d4⟩ := spn_cells5 h.spans rfl k hkl
      obtain ⟨s, hs0⟩ : ∃ s, s = m.spans[k] := ⟨_, rfl⟩
      rw [← hs0] at d0 d1 d2 d4
      have hnext : Hid (ans = (otherIs p e t s || (m.spans.drop (k + 1)).any (otherIs p e t))) := hide (by
        rw [unhide hrest, List.drop_eq_getElem_cons hkl, List.any_cons, hs0])
      clear hs0 hrest
      obtain ⟨sp, se, st, sf, sk⟩ := s
      rcases (if e1 : sp = p then if e2 : se = e then if e3 : st = t then .inr (.inr (.inr (.inl ⟨e1, e2, e3⟩))) else if e4 : sk = 0 then .inr (.inr (.inr (.inr ⟨e1, e2, e3, e4⟩))) else .inr (.inr (.inl ⟨e1, e2, e3, e4⟩)) else .inr (.inl ⟨e1, e2⟩) else .inl e1 : ¬ sp = p ∨ (sp = p ∧ ¬ se = e) ∨ (sp = p ∧ se = e ∧ ¬ st = t ∧ ¬ sk = 0) ∨ (sp = p ∧ se = e ∧ st = t) ∨ (sp = p ∧ se = e ∧ ¬ st = t ∧ sk = 0)) with e1 | ⟨rfl, e1⟩ | ⟨rfl, rfl, e1, e2⟩ | ⟨rfl, rfl, rfl⟩ | ⟨rfl, rfl, e1, rfl⟩
      · have hh : Hid (ans = (m.spans.drop (k + 1)).any (otherIs p e t)) := hide (by have := unhide hnext; simpa [otherIs, e1] using this)
        go_wp2
        go_roundw
        case rel => exact ⟨k + 1, by omega, by go_num, trivial, hh⟩
        case measure => simp [intOf]; omega
      · have hh : Hid (ans = (m.spans.drop (k + 1)).any (otherIs sp e t)) := hide (by have := unhide hnext; simpa [otherIs, e1] using this)
        go_wp2
        go_roundw
        case rel => exact ⟨k + 1, by omega, by go_num, trivial, hh⟩
        case measure => simp [intOf]; omega
      · have hh : Hid (ans = (m.spans.drop (k + 1)).any (otherIs sp se t)) := hide (by have := unhide hnext; simpa [otherIs, e2] using this)
        have b1 := bne_iff_ne.2 e1
        go_wp2
        go_roundw
        case rel => exact ⟨k + 1, by omega, by go_num, trivial, hh⟩
        case measure => simp [intOf]; omega
      · have hh : Hid (ans = (m.spans.drop (k + 1)).any (otherIs sp se st)) := hide (by have := unhide hnext; simpa [otherIs] using this)
        go_wp2
        go_roundw
        case rel => exact ⟨k + 1, by omega, by go_num, trivial, hh⟩
        case measure => simp [intOf]; omega
      · have hh : Hid (ans = true) := hide (by have := unhide hnext; simpa [otherIs, e1] using this)
        have b1 := bne_iff_ne.2 e1
        go_wp2
        go_ret
        exact ⟨congrArg (fun b => Ending.returned (.bool b)) (unhide hh).symm, rfl⟩
    · obtain rfl : k = n := by omega
      go_wp2
      go_ret
      refine ⟨congrArg (fun b => Ending.returned (.bool b)) ?_, rfl⟩
      rw [unhide hrest, List.drop_of_length_le (by rw [unhide HN]; exact Nat.le_refl _)]
      rfl

/-- What next tells: the number behind the last one of a producer and epoch, and where a number stands last. -/
def nextStep (p e q : Int) (a : Int × Int) (x : Rec × Nat) : Int × Int := if x.1.p = p ∧ x.1.e = e then (x.1.s + 1, if x.1.s = q then (x.2 : Int) else a.2) else a
def PL.nextTwo (m : PL) (p e q : Int) : Int × Int := m.recs.zipIdx.foldl (nextStep p e q) (0, -1)
set_option maxRecDepth 100000 in
set_option maxHeartbeats 4000000 in
theorem next_any (w : World) (g : Nat) (A B : Option Addr) (ca cb : Nat) (m : PL) (vs : List Value) (h : RefR w g A B ca cb m vs) (hin : ∀ x ∈ m.recs, PL.isRec x = true) (hs : m.recs.length ≤ 1000000000) (p e q : Int) :
    Calls Try.prog 53 #[.pointer (some ⟨g, 0, none⟩), .int .i64 p, .int .i64 e, .int .i64 q] w fun x w' => x = .returned (.tuple #[.int .i64 (m.nextTwo p e q).1, .int .i64 (m.nextTwo p e q).2]) ∧ w = w' := by
  have c1 : w.cell? ⟨g, 0, none⟩ = some (.slice A m.recs.length ca) := h.blk.cell 0
  obtain ⟨n, hn⟩ : ∃ n, m.recs.length = n := ⟨_, rfl⟩
  rw [hn] at c1 hs
  have HN := hide hn
  clear hn
  obtain ⟨ans, hans⟩ : ∃ ans, ans = m.nextTwo p e q := ⟨_, rfl⟩
  rw [← hans]
  have HA := hide hans
  clear hans
  go_enter Try.func53, Try.ntmps53
  go_wp2
  go_loopw [10, 11, 12] (fun u1 u2 v wr => ∃ (k : Nat) (a1 a2 : Int), k ≤ n ∧ u1 = .int .i64 a1 ∧ u2 = .int .i64 a2 ∧ v = .int .i64 k ∧ w = wr ∧ Hid (ans = ((m.recs.zipIdx).drop k).foldl (nextStep p e q) (a1, a2))) (fun _ _ v _ => n - (intOf v).toNat)
  case atStart => exact ⟨0, 0, -1, Nat.zero_le _, rfl, rfl, rfl, rfl, hide (by simpa [PL.nextTwo] using unhide HA)⟩
  case round =>
    obtain ⟨k, a1, a2, hk, rfl, rfl, rfl, rfl, hrest⟩ := hrel
    by_cases hlt : k < n
    · have hkl : k < m.recs.length := by rw [unhide HN]; exact hlt
      obtain ⟨b, off, rfl, hbB, d0, d1, _, d3, _⟩ := rec_cells h.recs h.vl rfl k hkl
      obtain ⟨s, hs0⟩ : ∃ s, s = m.recs[k] := ⟨_, rfl⟩
      have hx := hin _ (List.getElem_mem hkl)
      rw [← hs0] at d0 d1 d3 hx
      simp only [PL.isRec, Bool.and_eq_true, decide_eq_true_eq] at hx
      have hx1 : 0 ≤ s.s := hx.1.1.2
      have hx2 : s.s ≤ 1048576 := hx.1.2
      clear hx
      have hnext : Hid (ans = ((m.recs.zipIdx).drop (k + 1)).foldl (nextStep p e q) (nextStep p e q (a1, a2) (s, k))) := hide (by
        rw [unhide hrest, List.drop_eq_getElem_cons (by simpa using hkl), List.foldl_cons, hs0]
        simp)
      clear hs0 hrest
      obtain ⟨sp, se, st, ss, sv⟩ := s
      dsimp only at hx1 hx2
      rcases (if e1 : sp = p then if e2 : se = e then if e3 : ss = q then .inr (.inr (.inr ⟨e1, e2, e3⟩)) else .inr (.inr (.inl ⟨e1, e2, e3⟩)) else .inr (.inl ⟨e1, e2⟩) else .inl e1 : ¬ sp = p ∨ (sp = p ∧ ¬ se = e) ∨ (sp = p ∧ se = e ∧ ¬ ss = q) ∨ sp = p ∧ se = e ∧ ss = q) with e1 | ⟨rfl, e1⟩ | ⟨rfl, rfl, e1⟩ | ⟨rfl, rfl, rfl⟩
      · have hh : Hid (ans = ((m.recs.zipIdx).drop (k + 1)).foldl (nextStep p e q) (a1, a2)) := hide (by have := unhide hnext; simpa [nextStep, e1] using this)
        go_wp2
        go_roundw
        case rel => exact ⟨k + 1, a1, a2, by omega, rfl, rfl, by go_num, trivial, hh⟩
        case measure => simp [intOf]; omega
      · have hh : Hid (ans = ((m.recs.zipIdx).drop (k + 1)).foldl (nextStep sp e q) (a1, a2)) := hide (by have := unhide hnext; simpa [nextStep, e1] using this)
        go_wp2
        go_roundw
        case rel => exact ⟨k + 1, a1, a2, by omega, rfl, rfl, by go_num, trivial, hh⟩
        case measure => simp [intOf]; omega
      · have hh : Hid (ans = ((m.recs.zipIdx).drop (k + 1)).foldl (nextStep sp se q) (ss + 1, a2)) := hide (by have := unhide hnext; simpa [nextStep, e1] using this)
        go_wp2
        go_roundw
        case rel => exact ⟨k + 1, ss + 1, a2, by omega, by go_num, rfl, by go_num, trivial, hh⟩
        case measure => simp [intOf]; omega
      · have hh : Hid (ans = ((m.recs.zipIdx).drop (k + 1)).foldl (nextStep sp se ss) (ss + 1, (k : Int))) := hide (by have := unhide hnext; simpa [nextStep] using this)
        go_wp2
        go_roundw
        case rel => exact ⟨k + 1, ss + 1, k, by omega, by go_num, rfl, by go_num, trivial, hh⟩
        case measure => simp [intOf]; omega
    · obtain rfl : k = n := by omega
      go_wp2
      go_ret2
      have : ans = (a1, a2) := by
        rw [unhide hrest, List.drop_of_length_le (by simp [unhide HN])]
        rfl
      rw [this]
      exact ⟨rfl, rfl⟩

set_option maxRecDepth 100000 in
set_option maxHeartbeats 4000000 in
theorem StableR_any (w : World) (g : Nat) (A B : Option Addr) (ca cb : Nat) (m : PL) (vs : List Value) (h : RefR w g A B ca cb m vs) (hs : m.spans.length ≤ 1000000000) :
    Calls Try.prog 19 #[.pointer (some ⟨g, 0, none⟩)] w fun x w' => x = .returned (.int .i64 m.stable) ∧ w = w' := by
  have c0 : w.cell? ⟨g, 0, none⟩ = some (.slice A m.recs.length ca) := h.blk.cell 0
  have c1 : w.cell? ⟨g, 1, none⟩ = some (.slice B m.spans.length cb) := h.blk.cell 1
  rw [m.stable_eq]
  obtain ⟨n, hn⟩ : ∃ n, m.spans.length = n := ⟨_, rfl⟩
  obtain ⟨q, hq⟩ : ∃ q, m.recs.length = q := ⟨_, rfl⟩
  rw [hn] at c1 hs
  rw [hq] at c0
  have HN := hide hn
  obtain ⟨ans, hans⟩ : ∃ ans, ans = m.spans.foldl stab m.recs.length := ⟨_, rfl⟩
  rw [← hans]
  rw [hq] at hans
  have HA := hide hans
  clear hans hn hq
  go_enter Try.func19, Try.ntmps19
  go_wp2
  go_loopw [3, 4] (fun u v wr => ∃ (k : Nat) (a : Int), k ≤ n ∧ u = .int .i64 a ∧ v = .int .i64 k ∧ w = wr ∧ Hid (ans = (m.spans.drop k).foldl stab a)) (fun _ v _ => n - (intOf v).toNat)
  case atStart => exact ⟨0, q, Nat.zero_le _, rfl, rfl, rfl, hide (by simpa using unhide HA)⟩
  case round =>
    obtain ⟨k, a, hk, rfl, rfl, rfl, hrest⟩ := hrel
    by_cases hlt : k < n
    · have hkl : k < m.spans.length := by rw [unhide HN]; exact hlt
      obtain ⟨b, off, rfl, hbB, _, _, _, d3, d4⟩ := spn_cells5 h.spans rfl k hkl
      obtain ⟨s, hs0⟩ : ∃ s, s = m.spans[k] := ⟨_, rfl⟩
      rw [← hs0] at d3 d4
      have hnext : Hid (ans = (m.spans.drop (k + 1)).foldl stab (stab a s)) := hide (by rw [unhide hrest, List.drop_eq_getElem_cons hkl, List.foldl_cons, hs0])
      clear hs0 hrest
      obtain ⟨sp, se, st, sf, sk⟩ := s
      by_cases e1 : sk = 0
      · subst e1
        have hh : Hid (ans = (m.spans.drop (k + 1)).foldl stab (min a sf)) := hnext
        go_wp2
        go_roundw
        case rel => exact ⟨k + 1, min a sf, by omega, rfl, by go_num, trivial, hh⟩
        case measure => simp [intOf]; omega
      · have hh : Hid (ans = (m.spans.drop (k + 1)).foldl stab a) := hide (by have := unhide hnext; rwa [show stab a ⟨sp, se, st, sf, sk⟩ = a from if_neg e1] at this)
        go_wp2
        go_roundw
        case rel => exact ⟨k + 1, a, by omega, rfl, by go_num, trivial, hh⟩
        case measure => simp [intOf]; omega
    · obtain rfl : k = n := by omega
      go_wp2
      go_ret
      refine ⟨congrArg (fun b => Ending.returned (.int .i64 b)) ?_, rfl⟩
      rw [unhide hrest, List.drop_of_length_le (by rw [unhide HN]; exact Nat.le_refl _)]
      rfl
end Go.Proofs.Ytechglhkcjgodaa
