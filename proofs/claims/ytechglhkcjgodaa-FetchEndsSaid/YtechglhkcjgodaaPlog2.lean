/- plog: what is called of the library. -/
import Derived.Test.YtechglhkcjgodaaPlog1
import Derived.Lib.SliceRun
import Derived.Test.YtechglhkcjgodaaStr
import Derived.IntWalk
namespace Go.Proofs.Ytechglhkcjgodaa
open Go.RowKit
set_option linter.unusedSimpArgs false
/-- A slice against nil. -/
@[go_sem] theorem eql_nil_bytes (w : World) (a : Option Addr) (n c m d : Nat) : (binOp .eql 40 (.slice a n c) (.slice none m d)).run Try.prog w = .ok (.bool a.isNone) w := Lib.run_eql_slice_nil w _ _ a n c m d Try.underlying40
@[go_sem] theorem eql_nil_spans (w : World) (a : Option Addr) (n c m d : Nat) : (binOp .eql 36 (.slice a n c) (.slice none m d)).run Try.prog w = .ok (.bool a.isNone) w := Lib.run_eql_slice_nil w _ _ a n c m d Try.underlying36
/-- bytes.Clone. -/
theorem Clone_any (w : World) (n c : Nat) (A : Option Addr) (l : List (BitVec 8)) (hc : n ≤ c) (hb : Bytes w w.heap.size A n l) (hn : n ≤ 140737488350000) :
    Calls Try.prog 50 #[.slice A n c] w fun e w' => (∃ A' c', e = .returned (.slice A' n c') ∧ n ≤ c' ∧ Bytes w' w'.heap.size A' n l ∧ (∀ g, A' = some g → w.heap.size ≤ g.block)) ∧ Grow w noOwn w' := by
  have hM := Mem.nil w noOwn
  cases A with
  | none =>
    have hn0 : n = 0 := by
      rcases Nat.eq_zero_or_pos n with h | h
      · exact h
      · obtain ⟨ad, e, _⟩ := hb.2 h; cases e
    subst hn0
    go_enter Try.func50, Try.ntmps50
    go_wp2
    go_ret
    exact ⟨⟨none, 0, rfl, Nat.le_refl _, by simpa using hb, by simp⟩, hM.grow⟩
  | some ad =>
    have H := hide hc
    clear hc
    go_enter Try.func50, Try.ntmps50
    go_wp2_with (first
      | (refine wpList_buildSlice_row rfl 40 0 #[] rfl hM 5 Try.underlying40 (.int .u8 0) 1 1 u8row (by omega) (by omega) [] (by simp [slCells, Instr.fill]) rfl ?_; clear hM; intro g1 w1 hM)
      | (refine wpList_append_row rfl _ _ 40 rfl hM 0 _ 5 1 0 [] rfl rfl Try.underlying40 (.int .u8 0) 1 u8row rfl (by decide) w.heap.size (some ad) n c (l.map V8) rfl (hM.reads hb (Nat.le_refl _) (fun _ _ e => e)) (oneCells_V8 l) (by unfold maxLen; omega) (by omega) n (by omega) (l.map V8) (by simp) ?_; clear hM; intro A2 c2 w2 hM))
    have hrow := hM.row 0 rfl
    go_ret
    refine ⟨⟨A2, c2, rfl, (row_cap hrow).1, Reads.of_own hrow, fun g hg => ?_⟩, hM.grow⟩
    subst hg
    exact (hM.own_ 0 rfl rfl).resolve_left (fun e => e)

/-- bytes.Equal. -/
theorem Equal_any (w : World) (n1 c1 n2 c2 : Nat) (A1 A2 : Option Addr) (l1 l2 : List (BitVec 8)) (h1 : Bytes w w.heap.size A1 n1 l1) (h2 : Bytes w w.heap.size A2 n2 l2) :
    Calls Try.prog 47 #[.slice A1 n1 c1, .slice A2 n2 c2] w fun e w' => e = .returned (.bool (l1 == l2)) ∧ w = w' := by
  have tok1 : True := trivial
  have HB := hide (strOf_beq l1 l2)
  go_enter Try.func47, Try.ntmps47
  go_wp2_with (first
    | (have _t := tok1; refine wpList_conv_str rfl 40 9 5 _ rfl (by kernel_rfl) (by kernel_rfl) (by kernel_rfl) w.heap.size n1 c1 A1 l1 rfl h1 ?_; clear tok1)
    | (refine wpList_conv_str rfl 40 9 5 _ rfl (by kernel_rfl) (by kernel_rfl) (by kernel_rfl) w.heap.size n2 c2 A2 l2 rfl h2 ?_))
  go_ret
  exact ⟨congrArg (fun b => Ending.returned (.bool b)) (unhide HB), rfl⟩

/-- slices.Clone of transactions. -/
theorem CloneS_any (w : World) (n c : Nat) (A : Option Addr) (xs : List Value) (hx : xs.length = n * 5) (hb : Reads w w.heap.size 5 A n xs) (h1 : ∀ u ∈ xs, u.oneCell' = true) (hn : n ≤ 2000000000000) :
    Calls Try.prog 41 #[.slice A n c] w fun e w' => (∃ A' c', e = .returned (.slice A' n c') ∧ n ≤ c' ∧ Reads w' w'.heap.size 5 A' n xs) ∧ Grow w noOwn w' := by
  have hM := Mem.nil w noOwn
  cases A with
  | none =>
    have hn0 : n = 0 := by
      rcases Nat.eq_zero_or_pos n with h | h
      · exact h
      · obtain ⟨ad, e, _⟩ := hb.2 h; cases e
    subst hn0
    go_enter Try.func41, Try.ntmps41
    go_wp2
    go_ret
    exact ⟨⟨none, 0, rfl, Nat.le_refl _, by simpa using hb⟩, hM.grow⟩
  | some ad =>
    go_enter Try.func41, Try.ntmps41
    go_wp2_with (first
      | (refine wpList_buildSlice_row rfl 36 0 #[] rfl hM 39 Try.underlying36 _ 5 40 spnrow (by omega) (by omega) [] (by simp [slCells, Instr.fill]) rfl ?_; clear hM; intro g1 w1 hM)
      | (refine wpList_append_row rfl _ _ 36 rfl hM 0 _ 39 5 0 [] rfl rfl Try.underlying36 _ 40 spnrow rfl (by decide) w.heap.size (some ad) n c xs rfl (hM.reads hb (Nat.le_refl _) (fun _ _ e => e)) h1 (by unfold maxLen; omega) (by omega) n (by omega) xs (by simp) ?_; clear hM; intro A2 c2 w2 hM))
    have hrow := hM.row 0 rfl
    go_ret
    exact ⟨⟨A2, c2, rfl, (row_cap hrow).1, Reads.of_own hrow⟩, hM.grow⟩

/-- Where the first element is that is meant. -/
def idx {α : Type} (l : List α) (p : α → Bool) : Int := match l.findIdx? p with
  | some i => i
  | none => -1
theorem take_none {α : Type} {l : List α} {p : α → Bool} {k : Nat} (h : ∀ x ∈ l.take k, p x = false) (hk : k < l.length) (hp : p (l[k]) = true) : l.findIdx? p = some k := by
  rw [List.findIdx?_eq_some_iff_getElem]
  refine ⟨hk, hp, fun j hj => ?_⟩
  have := h l[j] (List.mem_iff_getElem.2 ⟨j, by simp; omega, by simp⟩)
  simp [this]
set_option maxRecDepth 100000 in
theorem IndexS_any (w : World) (n c F : Nat) (A : Option Addr) (caps : Array Value) (l : List Spn) (p : Spn → Bool) (hl : l.length = n) (hn : n ≤ 1000000000) (hb : Reads w w.heap.size 5 A n (spnCells l)) (hF : ∀ args w, (callFunc F args).run Try.prog w = .ok (.enter F args) w)
    (hp : ∀ w' s, Grow w noOwn w' → s ∈ l → Calls Try.prog F (#[.agg (spnVals s).toArray] ++ caps) w' fun e w'' => e = .returned (.bool (p s)) ∧ Grow w' noOwn w'') :
    Calls Try.prog 61 #[.slice A n c, .func (.func F) #[] caps] w fun e w' => e = .returned (.int .i64 (idx l p)) ∧ Grow w noOwn w' := by
  have H := hide hl
  clear hl
  go_enter Try.func61, Try.ntmps61
  go_wp2
  go_loopw [8] (fun v wr => ∃ k : Nat, k ≤ n ∧ v = .int .i64 k ∧ Grow w noOwn wr ∧ Hid (∀ x ∈ l.take k, p x = false)) (fun v _ => n - (intOf v).toNat)
  case atStart => exact ⟨0, Nat.zero_le _, rfl, Grow.refl _ _, hide (by simp)⟩
  case round =>
    obtain ⟨k, hk, rfl, hg, hnone⟩ := hrel
    by_cases hlt : k < n
    · have hkl : k < l.length := by rw [unhide H]; exact hlt
      obtain ⟨b, off, rfl, hbB, hcell⟩ := hb.form (by omega) (by decide)
      have hcr : wr.rangeAt b (off + k * 5) (spnVals l[k]) := fun j v hj => by
        have hj5 : j < 5 := by have := (List.getElem?_eq_some_iff.1 hj).1; simpa [spnVals] using this
        rw [Nat.add_assoc]
        exact (hg.keep (p := ⟨b, off + (k * 5 + j), none⟩) hbB (fun e => e)).trans (hcell _ v (by rw [spnCells_get l k hkl j hj5]; exact hj))
      cases hpk : p l[k]
      all_goals
        have HP := hide hpk
        clear hpk
        go_wp2_with (first
          | (refine BigFrame.wpList_want rfl fun _ hK => wp_load_mid 39 _ rfl b (off + k * 5) rfl (spnVals l[k]) _ hcr Try.underlying39 rfl (by kernel_rfl) (hK _ _ ?_))
          | (with_reducible refine (hp wr l[k] hg (List.getElem_mem hkl)).mono ?_; rintro e w1 ⟨rfl, hg1⟩; rw [unhide HP]))
      · go_roundw
        case rel =>
          refine ⟨k + 1, by omega, by go_num, hg.then_ hg1, hide ?_⟩
          intro x hx
          rw [List.take_succ_eq_append_getElem hkl] at hx
          rcases List.mem_append.1 hx with hx | hx
          · exact unhide hnone x hx
          · simp at hx; rw [hx]; exact unhide HP
        case measure => simp [intOf]; omega
      · go_ret
        refine ⟨?_, hg.then_ hg1⟩
        unfold idx
        rw [take_none (unhide hnone) hkl (unhide HP)]
        rfl
    · obtain rfl : k = n := by omega
      go_wp2
      go_ret
      refine ⟨?_, hg⟩
      have : l.findIdx? p = none := by
        rw [List.findIdx?_eq_none_iff]
        intro x hx
        have := unhide hnone x (by rw [List.take_of_length_le (by rw [unhide H]; exact Nat.le_refl _)]; exact hx)
        exact this
      unfold idx
      rw [this]
      rfl
end Go.Proofs.Ytechglhkcjgodaa
