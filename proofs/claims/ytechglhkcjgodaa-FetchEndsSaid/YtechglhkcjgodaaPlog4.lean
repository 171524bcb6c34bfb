/- plog: the first record that is meant. -/
import Derived.Test.YtechglhkcjgodaaPlog3
namespace Go.Proofs.Ytechglhkcjgodaa
open Go.RowKit
set_option linter.unusedSimpArgs false
set_option maxRecDepth 100000 in
theorem IndexR_any (w : World) (n c F : Nat) (A : Option Addr) (caps : Array Value) (l : List Rec) (vs : List Value) (hv : vs.length = l.length) (p : Rec → Bool) (hl : l.length = n) (hn : n ≤ 1000000000) (hb : Reads w w.heap.size 5 A n (recCells l vs)) (hF : ∀ args w, (callFunc F args).run Try.prog w = .ok (.enter F args) w)
    (hp : ∀ w' i (hi : i < l.length), Grow w noOwn w' → Calls Try.prog F (#[.agg (recVals l[i] (vs[i]'(by rw [hv]; exact hi))).toArray] ++ caps) w' fun e w'' => e = .returned (.bool (p l[i])) ∧ Grow w' noOwn w'') :
    Calls Try.prog 56 #[.slice A n c, .func (.func F) #[] caps] w fun e w' => e = .returned (.int .i64 (idx l p)) ∧ Grow w noOwn w' := by
  have H := hide hl
  clear hl
  go_enter Try.func56, Try.ntmps56
  go_wp2
  go_loopw [8] (fun v wr => ∃ k : Nat, k ≤ n ∧ v = .int .i64 k ∧ Grow w noOwn wr ∧ Hid (∀ x ∈ l.take k, p x = false)) (fun v _ => n - (intOf v).toNat)
  case atStart => exact ⟨0, Nat.zero_le _, rfl, Grow.refl _ _, hide (by simp)⟩
  case round =>
    obtain ⟨k, hk, rfl, hg, hnone⟩ := hrel
    by_cases hlt : k < n
    · have hkl : k < l.length := by rw [unhide H]; exact hlt
      obtain ⟨b, off, rfl, hbB, hcell⟩ := hb.form (by omega) (by decide)
      have hcr : wr.rangeAt b (off + k * 5) (recVals l[k] (vs[k]'(by rw [hv]; exact hkl))) := fun j v hj => by
        have hj5 : j < 5 := by have := (List.getElem?_eq_some_iff.1 hj).1; simpa [recVals] using this
        rw [Nat.add_assoc]
        exact (hg.keep (p := ⟨b, off + (k * 5 + j), none⟩) hbB (fun e => e)).trans (hcell _ v (by rw [recCells_get l vs hv k hkl j hj5]; exact hj))
      cases hpk : p l[k]
      all_goals
        have HP := hide hpk
        clear hpk
        go_wp2_with (first
          | (refine BigFrame.wpList_want rfl fun _ hK => wp_load_mid 42 _ rfl b (off + k * 5) rfl (recVals l[k] (vs[k]'(by rw [hv]; exact hkl))) _ hcr Try.underlying42 rfl (by kernel_rfl) (hK _ _ ?_))
          | (with_reducible refine (hp wr k hkl hg).mono ?_; rintro e w1 ⟨rfl, hg1⟩; rw [unhide HP]))
      · go_roundw
        case rel =>
          refine ⟨k + 1, by omega, by go_num, hg.then_ hg1, hide ?_⟩
          intro x hx
          rw [List.take_succ_eq_append_getElem hkl] at hx
          rcases List.mem_append.1 hx with hx | hx
          · exact unhide hnone x hx
          · simp at hx; rw [hx]; exact unhide HP
        case measure => simp [intOf]; omega
      · go_ret
        refine ⟨?_, hg.then_ hg1⟩
        unfold idx
        rw [take_none (unhide hnone) hkl (unhide HP)]
        rfl
    · obtain rfl : k = n := by omega
      go_wp2
      go_ret
      refine ⟨?_, hg⟩
      have : l.findIdx? p = none := by
        rw [List.findIdx?_eq_none_iff]
        intro x hx
        have := unhide hnone x (by rw [List.take_of_length_le (by rw [unhide H]; exact Nat.le_refl _)]; exact hx)
        exact this
      unfold idx
      rw [this]
      rfl
end Go.Proofs.Ytechglhkcjgodaa
