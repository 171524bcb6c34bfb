/- hold's laws: tables made by setting one pair after the other. -/
import Derived.Test.YtnmnknjgibkkaaaKeyI
namespace Go.Proofs.Ytnmnknjgibkkaaa
open Go.RowKit Go.MapKept
set_option linter.unusedSimpArgs false
set_option linter.unusedVariables false
/-- What is there when these pairs have been set, one after the other. -/
def tbOf {β : Type} (ps : List (Int × β)) : List (Int × β) := ps.foldl (fun tb p => tset p.1 p.2 tb) []
section
variable {β : Type}
theorem tbOf_snoc (ps : List (Int × β)) (p : Int × β) : tbOf (ps ++ [p]) = tset p.1 p.2 (tbOf ps) := by simp [tbOf]
theorem tbOf_ind {Q : List (Int × β) → List (Int × β) → Prop} (h0 : Q [] []) (hs : ∀ ps p, Q ps (tbOf ps) → Q (ps ++ [p]) (tset p.1 p.2 (tbOf ps))) (ps : List (Int × β)) : Q ps (tbOf ps) := by
  have key : ∀ n (ps : List (Int × β)), ps.length = n → Q ps (tbOf ps) := by
    intro n
    induction n with
    | zero => intro ps h; rw [List.length_eq_zero_iff.1 h]; exact h0
    | succ n ih =>
      intro ps h
      have hne : ps ≠ [] := by intro e; rw [e] at h; cases h
      obtain ⟨ps', p, rfl⟩ : ∃ ps' p, ps = ps' ++ [p] := ⟨ps.dropLast, ps.getLast hne, (List.dropLast_concat_getLast hne).symm⟩
      rw [tbOf_snoc]
      exact hs ps' p (ih ps' (by simpa using h))
  exact key _ ps rfl
theorem tbOf_rise (ps : List (Int × β)) : Rise (tbOf ps) := tbOf_ind (Q := fun _ tb => Rise tb) List.Pairwise.nil (fun ps p h => tset_rise h) ps
theorem tbOf_len (ps : List (Int × β)) : (tbOf ps).length ≤ ps.length := tbOf_ind (Q := fun ps tb => tb.length ≤ ps.length) (Nat.le_refl _) (fun ps p h => by
  have := tset_len (k := p.1) (v := p.2) (tbOf ps)
  simp only [List.length_append, List.length_cons, List.length_nil]
  omega) ps
theorem tbOf_mem (ps : List (Int × β)) : ∀ p ∈ tbOf ps, p ∈ ps := tbOf_ind (Q := fun ps tb => ∀ p ∈ tb, p ∈ ps) (fun p h => h) (fun ps p h q hq => by
  rcases tset_mem hq with rfl | hq
  · simp
  · exact List.mem_append_left _ (h q hq)) ps
theorem tbOf_get (ps : List (Int × β)) : ∀ p ∈ ps, ∃ v, tget (tbOf ps) p.1 = some v := tbOf_ind (Q := fun ps tb => ∀ p ∈ ps, ∃ v, tget tb p.1 = some v) (fun p h => by cases h) (fun ps p h q hq => by
  rw [tget_tset]
  by_cases e : q.1 = p.1
  · exact ⟨_, if_pos e⟩
  · rw [if_neg e]
    rcases List.mem_append.1 hq with hq | hq
    · exact h q hq
    · simp at hq; rw [hq] at e; exact (e rfl).elim) ps
end
theorem one_cell {w : World} {B n : Nat} {A : Option Addr} {α : Type} {f : α → Value} {l : List α} (h : Reads w B 1 A n (l.map f)) (hl : l.length = n) (k : Nat) (hk : k < l.length) : ∃ b off, A = some ⟨b, off, none⟩ ∧ b < B ∧ w.cell? ⟨b, off + k, none⟩ = some (f l[k]) := by
  obtain ⟨b, off, e, hb, hc⟩ := h.form (by omega) (by decide)
  exact ⟨b, off, e, hb, hc k _ (by simp [hk])⟩
end Go.Proofs.Ytnmnknjgibkkaaa
