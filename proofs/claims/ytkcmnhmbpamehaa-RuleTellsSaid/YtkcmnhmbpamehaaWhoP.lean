/- Who, as it is told: rising, each once. -/
import Derived.Test.YtkcmnhmbpamehaaKnL
namespace Go.Proofs.Ytkcmnhmbpamehaa
open Go.RowKit Go.MapKept
set_option linter.unusedSimpArgs false
set_option linter.unusedVariables false
theorem ddx_mem (x : Int) : ∀ (xs acc : List Int), x ∈ xs.foldl (fun acc x => if acc.contains x then acc else acc ++ [x]) acc ↔ x ∈ acc ∨ x ∈ xs
  | [], acc => by simp
  | y :: xs, acc => by
    rw [List.foldl_cons, ddx_mem x xs]
    by_cases h : acc.contains y
    · rw [if_pos h]
      have h2 : y ∈ acc := by simpa using h
      constructor
      · rintro (h | h)
        · exact .inl h
        · exact .inr (List.mem_cons_of_mem _ h)
      · rintro (h | h)
        · exact .inl h
        · rcases List.mem_cons.1 h with rfl | h
          · exact .inl h2
          · exact .inr h
    · rw [if_neg h]
      simp only [List.mem_append, List.mem_cons, List.not_mem_nil, or_false]
      constructor
      · rintro ((h | h) | h)
        · exact .inl h
        · exact .inr (.inl h)
        · exact .inr (.inr h)
      · rintro (h | h | h)
        · exact .inl (.inl h)
        · exact .inl (.inr h)
        · exact .inr h
theorem ddx_nodup : ∀ (xs acc : List Int), acc.Nodup → (xs.foldl (fun acc x => if acc.contains x then acc else acc ++ [x]) acc).Nodup
  | [], acc, h => h
  | y :: xs, acc, h => by
    rw [List.foldl_cons]
    refine ddx_nodup xs _ ?_
    by_cases hc : acc.contains y
    · rw [if_pos hc]; exact h
    · rw [if_neg hc]
      have hy : y ∉ acc := by simpa using hc
      rw [List.nodup_append]
      refine ⟨h, by simp, fun a ha b hb => ?_⟩
      have : b = y := by simpa using hb
      subst this
      rintro rfl
      exact hy ha
theorem who_plain {ks : List (List (BitVec 8))} {lv : List Vt} {k s v : Int} {sum : List (BitVec 8)} {L : List Int} (hL : L.Pairwise (· < ·)) (hm : ∀ x, x ∈ L ↔ x ∈ onOf ks lv k s v sum) : whoOf ks lv k s v sum = L := by
  have hnd : L.Nodup := hL.imp (fun {a b} h => by omega)
  have hp : (ddx (onOf ks lv k s v sum)).Perm L := (List.perm_ext_iff_of_nodup (ddx_nodup _ [] (by simp)) hnd).2 fun x => by
    rw [ddx_mem x _ [], hm x]
    simp
  unfold whoOf
  refine List.Perm.eq_of_pairwise (le := fun a b => leI a b = true) (fun a b _ _ h1 h2 => ?_) (List.pairwise_mergeSort ?_ ?_ _) (hL.imp fun {a b} h => decide_eq_true (by omega)) ((List.mergeSort_perm _ _).trans hp)
  · have h1' := of_decide_eq_true h1
    have h2' := of_decide_eq_true h2
    omega
  · intro a b c h1 h2
    have h1' := of_decide_eq_true h1
    have h2' := of_decide_eq_true h2
    exact decide_eq_true (by omega)
  · intro a b
    unfold leI
    rcases Int.le_total a b with h | h
    · simp [h]
    · simp [h]
theorem on_mem {ks : List (List (BitVec 8))} {lv : List Vt} {k s v : Int} {sum : List (BitVec 8)} {x : Int} : x ∈ onOf ks lv k s v sum ↔ ∃ u ∈ lv.take 10, votes ks k s v sum u = true ∧ u.f = x := by
  unfold onOf
  simp [List.mem_map, List.mem_filter, and_assoc]
theorem votes_in {ks : List (List (BitVec 8))} {k s v : Int} {sum : List (BitVec 8)} {u : Vt} (h : votes ks k s v sum u = true) : 0 ≤ u.f ∧ u.f < ks.length := by
  unfold votes goodOf checkOf at h
  simp at h
  omega
/-- The nodes of the ring that voted so. -/
def whoR (ks : List (List (BitVec 8))) (lv : List Vt) (k s v : Int) (sum : List (BitVec 8)) (m : Nat) : List Int := ((List.range m).filter fun n : Nat => (lv.take 10).any fun u => decide (u.f = (n : Int)) && votes ks k s v sum u).map fun n : Nat => (n : Int)
theorem whoR_sorted (ks : List (List (BitVec 8))) (lv : List Vt) (k s v : Int) (sum : List (BitVec 8)) (m : Nat) : (whoR ks lv k s v sum m).Pairwise (· < ·) := by
  unfold whoR
  rw [List.pairwise_map]
  refine List.Pairwise.filter _ (List.pairwise_lt_range.imp fun {a b} h => by omega)
theorem whoR_eq (ks : List (List (BitVec 8))) (lv : List Vt) (k s v : Int) (sum : List (BitVec 8)) : whoOf ks lv k s v sum = whoR ks lv k s v sum ks.length := by
  refine who_plain (whoR_sorted ..) fun x => ?_
  rw [on_mem]
  unfold whoR
  simp only [List.mem_map, List.mem_filter, List.mem_range, List.any_eq_true, Bool.and_eq_true, decide_eq_true_eq]
  constructor
  · rintro ⟨n, ⟨hn, u, hu, he, hv⟩, rfl⟩
    exact ⟨u, hu, hv, he⟩
  · rintro ⟨u, hu, hv, rfl⟩
    have := votes_in hv
    exact ⟨u.f.toNat, ⟨by omega, u, hu, by omega, hv⟩, by omega⟩
end Go.Proofs.Ytkcmnhmbpamehaa
