/- plog: the last record of a producer. -/
import Derived.Test.YtechglhkcjgodaaPlog5
namespace Go.Proofs.Ytechglhkcjgodaa
open Go.RowKit
set_option linter.unusedSimpArgs false

def noRec : Rec := ⟨0, 0, 0, 0, []⟩
/-- The last one of the first k that is meant. -/
def lastUp (l : List Rec) (f : Rec → Bool) : Nat → Int
  | 0 => -1
  | k + 1 => if f (l.getD k noRec) then k else lastUp l f k
def meant (p e : Int) (x : Rec) : Bool := decide (x.p = p) && decide (x.e = e)
def PL.lastAt (m : PL) (p e : Int) : Int := lastUp m.recs (meant p e) m.recs.length
theorem lastUp_lt (l : List Rec) (f : Rec → Bool) : ∀ k, lastUp l f k < k
  | 0 => by simp [lastUp]
  | k + 1 => by
    unfold lastUp
    split
    · omega
    · have := lastUp_lt l f k; omega
theorem lastUp_ge (l : List Rec) (f : Rec → Bool) : ∀ k, -1 ≤ lastUp l f k
  | 0 => by simp [lastUp]
  | k + 1 => by
    unfold lastUp
    split
    · omega
    · exact lastUp_ge l f k
theorem lastUp_last (l : List Rec) (f : Rec → Bool) : ∀ k, k ≤ l.length → ((l.take k).filter f).getLast? = if 0 ≤ lastUp l f k then some (l.getD (lastUp l f k).toNat noRec) else none
  | 0, _ => by simp [lastUp]
  | k + 1, h => by
    have ih := lastUp_last l f k (by omega)
    rw [List.take_succ_eq_append_getElem (by omega), List.filter_append]
    have hg : l.getD k noRec = l[k] := by simp [show k < l.length by omega]
    unfold lastUp
    rw [hg]
    cases hf : f l[k]
    · simp [hf, ih]
    · simp [hf, show k < l.length by omega]
theorem PL.nextSeq_last (m : PL) (p e : Int) : m.nextSeq p e = if 0 ≤ m.lastAt p e then (m.recs.getD (m.lastAt p e).toNat noRec).s + 1 else 0 := by
  unfold PL.nextSeq PL.lastAt
  have := lastUp_last m.recs (meant p e) m.recs.length (Nat.le_refl _)
  rw [List.take_length] at this
  have e2 : (fun x : Rec => decide (x.p = p) && decide (x.e = e)) = meant p e := rfl
  rw [e2, this]
  split <;> rename_i hq <;> split at hq <;> simp_all <;> (intros; omega)

theorem rec_cells {w : World} {A : Option Addr} {n : Nat} {l : List Rec} {vs : List Value} (hb : Reads w w.heap.size 5 A n (recCells l vs)) (hv : vs.length = l.length) (hl : l.length = n) (k : Nat) (hk : k < l.length) :
    ∃ b off, A = some ⟨b, off, none⟩ ∧ b < w.heap.size ∧ w.cell? ⟨b, off + k * 5, none⟩ = some (.int .i64 l[k].p) ∧ w.cell? ⟨b, off + k * 5 + 1, none⟩ = some (.int .i64 l[k].e) ∧ w.cell? ⟨b, off + k * 5 + 2, none⟩ = some (.int .i64 l[k].t) ∧ w.cell? ⟨b, off + k * 5 + 3, none⟩ = some (.int .i64 l[k].s) ∧ w.cell? ⟨b, off + k * 5 + 4, none⟩ = some (vs[k]'(by omega)) := by
  obtain ⟨b, off, rfl, hbB, hcell⟩ := hb.form (by omega) (by decide)
  have h : ∀ j v, j < 5 → (recVals l[k] (vs[k]'(by omega)))[j]? = some v → w.cell? ⟨b, off + k * 5 + j, none⟩ = some v := fun j v hj hv' => by
    rw [Nat.add_assoc]
    exact hcell _ v (by rw [recCells_get l vs hv k hk j hj]; exact hv')
  exact ⟨b, off, rfl, hbB, h 0 _ (by omega) rfl, h 1 _ (by omega) rfl, h 2 _ (by omega) rfl, h 3 _ (by omega) rfl, h 4 _ (by omega) rfl⟩

set_option maxRecDepth 100000 in
set_option maxHeartbeats 4000000 in
theorem last_any (w : World) (g gm : Nat) (A B : Option Addr) (ca cb : Nat) (m : PL) (vs : List Value) (h : LogR w g gm A B ca cb m vs) (hs : m.recs.length ≤ 1000) (p e : Int) :
    Calls Try.prog 58 #[.pointer (some ⟨g, 0, none⟩), .int .i64 p, .int .i64 e] w fun x w' => x = .returned (.int .i64 (m.lastAt p e)) ∧ w = w' := by
  have c0 : w.cell? ⟨g, 0, none⟩ = some (.slice A m.recs.length ca) := h.blk.cell 0
  generalize hla : m.lastAt p e = la
  have HA := hide hla
  clear hla
  obtain ⟨n, hn⟩ : ∃ n, m.recs.length = n := ⟨_, rfl⟩
  rw [hn] at c0 hs
  have HN := hide hn
  clear hn
  go_enter Try.func58, Try.ntmps58
  go_wp2
  go_loopw [7] (fun v wr => ∃ z : Int, v = .int .i64 z ∧ -1 ≤ z ∧ z < n ∧ w = wr ∧ Hid (lastUp m.recs (meant p e) (z + 1).toNat = la)) (fun v _ => (intOf v + 1).toNat)
  case atStart => exact ⟨n - 1, by go_num, by omega, by omega, rfl, hide (by rw [show ((n : Int) - 1 + 1).toNat = n by omega, ← unhide HN]; exact unhide HA)⟩
  case round =>
    obtain ⟨z, rfl, hz1, hz2, rfl, hla⟩ := hrel
    by_cases hz : z < 0
    · obtain rfl : z = -1 := by omega
      go_wp2
      go_ret
      exact ⟨congrArg (fun b => Ending.returned (.int .i64 b)) (unhide hla), rfl⟩
    · obtain ⟨k, rfl⟩ : ∃ k : Nat, z = k := ⟨z.toNat, by omega⟩
      have hkl : k < m.recs.length := by rw [unhide HN]; omega
      obtain ⟨b, off, rfl, hbB, d0, d1, _, _, _⟩ := rec_cells h.recs h.vl rfl k hkl
      have hup : lastUp m.recs (meant p e) (k + 1) = if meant p e m.recs[k] then (k : Int) else lastUp m.recs (meant p e) k := by
        rw [lastUp]
        simp [hkl]
      have hla' : Hid ((if meant p e m.recs[k] then (k : Int) else lastUp m.recs (meant p e) k) = la) := hide (by rw [← hup]; exact unhide hla)
      clear hup hla
      have hmt : Hid (∀ x : Rec, meant p e x = (decide (x.p = p) && decide (x.e = e))) := hide (fun _ => rfl)
      by_cases e1 : (m.recs[k]).p = p
      · by_cases e2 : (m.recs[k]).e = e
        · have hm : Hid (meant p e m.recs[k] = true) := hide (by rw [unhide hmt]; simp [e1, e2])
          rw [e1] at d0
          rw [e2] at d1
          clear e1 e2
          go_wp2
          go_ret
          exact ⟨congrArg (fun b => Ending.returned (.int .i64 b)) (by have := unhide hla'; rw [unhide hm] at this; exact this), rfl⟩
        · have hm : Hid (meant p e m.recs[k] = false) := hide (by rw [unhide hmt]; simp [e2])
          rw [e1] at d0
          clear e1
          go_wp2
          go_roundw
          case rel => exact ⟨k - 1, by go_num, by omega, by omega, trivial, hide (by have := unhide hla'; rw [unhide hm] at this; rw [show ((k : Int) - 1 + 1).toNat = k by omega]; exact this)⟩
          case measure => simp [intOf] <;> omega
      · have hm : Hid (meant p e m.recs[k] = false) := hide (by rw [unhide hmt]; simp [e1])
        go_wp2
        go_roundw
        case rel => exact ⟨k - 1, by go_num, by omega, by omega, trivial, hide (by have := unhide hla'; rw [unhide hm] at this; rw [show ((k : Int) - 1 + 1).toNat = k by omega]; exact this)⟩
        case measure => simp [intOf] <;> omega
end Go.Proofs.Ytechglhkcjgodaa
