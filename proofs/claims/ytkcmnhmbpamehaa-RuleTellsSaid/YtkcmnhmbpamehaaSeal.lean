/- The rings: New of both. -/
import Derived.Test.YtkcmnhmbpamehaaGhost2
import Derived.Test.YtkcmnhmbpamehaaRMac
import Derived.IntWalk
import Derived.Test.YtkcmnhmbpamehaaMxMn
namespace Go.Proofs.Ytkcmnhmbpamehaa
open Go.RowKit

theorem V8_wrap (i : Nat) : Value.int .u8 (IntKind.u8.wrap (i : Int)) = V8 (BitVec.ofNat 8 i) := by
  unfold V8
  rw [IntKind.wrap_u8]
  simp
/-- How many nodes a ring of n has. -/
def cnt (n : Int) : Nat := (min (max n 1) 10).toNat
theorem cnt_le (n : Int) : cnt n ≤ 10 := by unfold cnt; omega
theorem cnt_pos (n : Int) : 1 ≤ cnt n := by unfold cnt; omega
theorem cnt_int (n : Int) : ((cnt n : Nat) : Int) = min (max n 1) 10 := by unfold cnt; omega
/-- The i-th key of a seed. -/
def keyOf (seed : List (BitVec 8)) (i : Nat) : List (BitVec 8) := sha (seed ++ [BitVec.ofNat 8 i])
def keysOf (seed : List (BitVec 8)) (m : Nat) : List (List (BitVec 8)) := (List.range m).map (keyOf seed)
def flat (ks : List (List (BitVec 8))) : List Value := ks.flatMap fun k => k.map V8
theorem keysOf_length (seed : List (BitVec 8)) (m : Nat) : (keysOf seed m).length = m := by simp [keysOf]
theorem keysOf_succ (seed : List (BitVec 8)) (m : Nat) : keysOf seed (m + 1) = keysOf seed m ++ [keyOf seed m] := by simp [keysOf, List.range_succ]
theorem flat_succ (seed : List (BitVec 8)) (m : Nat) : flat (keysOf seed m) ++ (keyOf seed m).map V8 = flat (keysOf seed (m + 1)) := by
  rw [keysOf_succ]; simp [flat]
theorem flat_length (ks : List (List (BitVec 8))) (h : ∀ k ∈ ks, k.length = 32) : (flat ks).length = ks.length * 32 := by
  induction ks with
  | nil => rfl
  | cons k ks ih =>
    have := ih (fun x hx => h x (List.mem_cons_of_mem _ hx))
    have hk := h k (List.mem_cons_self ..)
    simp only [flat, List.flatMap_cons, List.length_append, List.length_map, List.length_cons] at this ⊢
    omega
theorem hashrow : Row3 Try.prog 26 (.agg (hv (List.replicate 32 0))) 32 32 := by unfold Row3; kernel_rfl

theorem keysOf_32 (seed : List (BitVec 8)) (m : Nat) : ∀ k ∈ keysOf seed m, k.length = 32 := by
  intro k hk
  obtain ⟨i, _, rfl⟩ := List.mem_map.1 hk
  exact sha_length _
/-- A ring of keys lies there. -/
structure RingIs (w : World) (g : Nat) (A : Option Addr) (c : Nat) (T : TypeId) (ks : List (List (BitVec 8))) : Prop where
  blk : Blk w g T #[.slice A ks.length c]
  reads : Reads w w.heap.size 32 A ks.length (flat ks)
  cap : ks.length ≤ c
  key : ∀ k ∈ ks, k.length = 32
def RingAt (w : World) (p : Value) (T : TypeId) (ks : List (List (BitVec 8))) : Prop := ∃ g A c, p = .pointer (some ⟨g, 0, none⟩) ∧ RingIs w g A c T ks
theorem ringAt_mk {w w' : World} {A : Option Addr} {i c g : Nat} {T : TypeId} {ks : List (List (BitVec 8))} {x : Item} (hM : Mem w noOwn w' [.row (.slice A i c) 26 32 i (flat ks), .blk g T #[.slice A i c], x]) (hl : ks.length = i) (hk : ∀ k ∈ ks, k.length = 32) : RingAt w' (.pointer (some ⟨g, 0, none⟩)) T ks := by
  subst hl
  exact ⟨g, A, c, rfl, hM.blk 1 rfl, Reads.of_own (hM.row 0 rfl), (row_cap (hM.row 0 rfl)).1, hk⟩
theorem RingIs.grow {w w' : World} {g : Nat} {A : Option Addr} {c : Nat} {T : TypeId} {ks : List (List (BitVec 8))} (h : RingIs w g A c T ks) (hg : Grow w noOwn w') : RingIs w' g A c T ks :=
  ⟨hg.blk h.blk (fun e => e), (h.reads.grow hg (Nat.le_refl _)).more hg.size, h.cap, h.key⟩

set_option maxRecDepth 100000 in
set_option maxHeartbeats 1000000 in
theorem New_any (w : World) (n : Int) (seed : List (BitVec 8)) (hh : seed.length = 32) :
    Calls Try.prog 8 #[.int .i64 n, .agg (hv seed)] w fun e w' => (∃ p, e = .returned p ∧ RingAt w' p 56 (keysOf seed (cnt n))) ∧ Grow w noOwn w' := by
  have hM := Mem.nil w noOwn
  go_enter Try.func8, Try.ntmps8
  go_wp2_with (first
    | (refine wpList_box_mem hM rfl 26 _ rfl (.agg (hv seed)) rfl (hv seed) rfl ?_; clear hM; intro gs w1 hM)
    | (refine wpList_build_to rfl 56 _ rfl #[.slice none 0 0] (by kernel_rfl) ?_)
    | (refine wpList_box_mem hM rfl 56 _ rfl (.agg #[.slice none 0 0]) rfl #[.slice none 0 0] rfl ?_; clear hM; intro gr w2 hM))
  have hc := hide (cnt_int n)
  rw [← unhide hc]
  clear hc
  obtain ⟨m, hm⟩ : ∃ m, m = cnt n := ⟨_, rfl⟩
  have hm10 : m ≤ 10 := by rw [hm]; exact cnt_le n
  rw [← hm]
  have HM := hide hm
  clear hm
  go_loopw [12] (fun v wr => ∃ (i : Nat) (A : Option Addr) (c : Nat), i ≤ m ∧ v = .int .i64 i ∧ Mem w noOwn wr [.row (.slice A i c) 26 32 i (flat (keysOf seed i)), .blk gr 56 #[.slice A i c], .blk gs 26 (hv seed)]) (fun v _ => m - (intOf v).toNat)
  case atStart => exact ⟨0, none, 0, by omega, rfl, hM.pushNil 26 32⟩
  case round =>
    clear hM
    obtain ⟨i, A, c, him, rfl, hM⟩ := hrel
    by_cases hlt : i < m
    · go_wp2_with fail
      have hrow := hM.row 0 rfl
      have hM2 := hM.tail
      have hne : ∀ x ∈ [Item.blk gr 56 #[.slice A i c], Item.blk gs 26 (hv seed)], ∀ g, x.foot g → ¬ (Value.slice A i c).ownBlock = some g := fun x hx g h1 h2 => (List.pairwise_cons.1 hM.apart).1 x hx g h2 h1
      have hown : ∀ g, g < w.heap.size → (Value.slice A i c).ownBlock = some g → noOwn g := fun g hg h2 => (hM.own_ 0 rfl h2).resolve_right (by omega)
      have hq : Quiet (fun w' => Mem w noOwn w' [Item.blk gr 56 #[.slice A i c], Item.blk gs 26 (hv seed)] ∧ wr.heap.size ≤ w'.heap.size) (fun w1 w2 => Grow w1 noOwn w2) (fun _ _ => True) := ⟨fun w _ => Grow.refl w _, fun _ _ => trivial⟩
      have hCR : ∀ w1 w2, (Mem w noOwn w1 [Item.blk gr 56 #[.slice A i c], Item.blk gs 26 (hv seed)] ∧ wr.heap.size ≤ w1.heap.size) → Grow w1 noOwn w2 → (Mem w noOwn w2 [Item.blk gr 56 #[.slice A i c], Item.blk gs 26 (hv seed)] ∧ wr.heap.size ≤ w2.heap.size) ∧ Grow w1 noOwn w2 := fun w1 w2 h k => ⟨⟨h.1.call k, Nat.le_trans h.2 k.size⟩, k⟩
      refine wp_region_ghost_tail 15 _ rfl (by kernel_rfl) (C := fun w' => Mem w noOwn w' [Item.blk gr 56 #[.slice A i c], Item.blk gs 26 (hv seed)] ∧ wr.heap.size ≤ w'.heap.size) (D := fun w' => w'.ownsRow 0 26 32 (.slice A i c) i (flat (keysOf seed i)))
        (R := fun w1 w2 => Grow w1 noOwn w2) (R' := fun _ _ => True) [12] [8, 9, 11, 12] [12] (by kernel_rfl) (by kernel_rfl) (by kernel_rfl) (by kernel_rfl) ⟨hM2.drew, Nat.le_refl _⟩ (hM.drew.row 0 rfl) (fun w1 w2 _ _ hg h => ownsRow_grow h hg) hq.1 hq.2 ?_
      simp only [List.take_succ_cons, List.take_zero, initS, List.map_cons, List.map_nil]
      have hki : (keyOf seed i).length = 32 := sha_length _
      repeat (first
        | (refine gw_move hq rfl _ (.inl rfl) _ rfl ?_; simp only [setD, List.set_cons_succ, List.set_cons_zero])
        | (refine gw_load1 hq rfl 54 _ rfl ⟨gr, 0, none⟩ rfl _ Try.underlying54 rfl (.slice A i c) (fun w' hC => hC.1.cell 0 rfl 0) ?_; simp only [setD, List.set_cons_succ, List.set_cons_zero])
        | (refine gw_row1 wr.heap.size 1 rfl (by rfl) (by rfl) (fun w' hC => hC.2) hCR (fun _ _ h => h) 22 5 _ rfl _ rfl Try.underlying22 (.int .u8 0) 1 u8row (by decide) (by decide) [V8 (BitVec.ofNat 8 i)] (by rw [← V8_wrap]; rfl) rfl ?_; simp only [setD, List.set_cons_succ, List.set_cons_zero])
        | (refine gw_append_full wr.heap.size 1 rfl (by rfl) (by rfl) (fun w' hC => hC.2) hCR (fun _ _ h => h) 23 22 rfl 5 (some ⟨gs, 0, none⟩) 32 rfl (seed.map V8) (by decide) (fun w' hC => (hC.1.blk 1 rfl).bytes 0 32 (by rw [hh])) wr.heap.size 1 [V8 (BitVec.ofNat 8 i)] (by decide) rfl Try.underlying22 (.int .u8 0) 1 u8row rfl (by decide) (by decide) (by decide) ?_; simp only [setD, List.set_cons_succ, List.set_cons_zero])
        | (refine gw_call_row wr.heap.size 1 rfl (by rfl) 25 24 _ rfl 5 (32 + 1) (seed.map V8 ++ [V8 (BitVec.ofNat 8 i)]) rfl (.agg (hv (keyOf seed i))) (fun v w0 => run_callFunc Try.func25 (by kernel_rfl) rfl #[v] w0) (fun v w' hC hv' => by
            obtain ⟨A', c', rfl, hc', hr'⟩ := hv'.slice
            refine (Sum_any w' _ c' A' (seed ++ [BitVec.ofNat 8 i]) (by unfold Bytes; rw [List.map_append]; exact hr') hc' (by decide)).mono fun e w'' he => ⟨he.1, hCR w' w'' hC he.2⟩) ?_; simp only [setD, List.set_cons_succ, List.set_cons_zero])
        | (refine gw_row1 wr.heap.size 32 rfl (by rfl) (by rfl) (fun w' hC => hC.2) hCR (fun _ _ h => h) 54 26 _ rfl _ rfl Try.underlying54 _ 32 hashrow (by decide) (by decide) ((keyOf seed i).map V8) rfl (by simp [hki]) ?_; simp only [setD, List.set_cons_succ, List.set_cons_zero])
        | (refine gw_append_own wr.heap.size 32 rfl (by rfl) (by rfl) (by rfl) (.slice A i c) (fun w' hC => hC.2) (fun w1 w2 hC _ hg => ⟨⟨hC.1.callFar hg hne hown, Nat.le_trans hC.2 hg.size⟩, trivial⟩) (fun _ _ h => h) 26 54 rfl 26 i rfl (flat (keysOf seed i)) (fun w' _ h => h) wr.heap.size 1 ((keyOf seed i).map V8) rfl (fun u hu => by obtain ⟨x, _, rfl⟩ := List.mem_map.1 hu; rfl) Try.underlying54 _ 32 hashrow rfl (by decide) (by unfold maxLen; omega) (by omega) ?_; simp only [setD, List.set_cons_succ, List.set_cons_zero])
        | (refine gw_pure_ex hq rfl (fun K hK => ?_); go_simp; refine hK _ ?_; clear hK K; simp only [setD, List.set_cons_succ, List.set_cons_zero]))
      intro γ w4 hC4 hk4
      have hv4 := hk4 12 27 _ rfl rfl rfl
      obtain ⟨A4, c4, e4, _, _⟩ := row_form hv4.1
      rw [flat_succ] at hv4
      have hM4 := hM.addRow (hC4.1) hv4
      rw [e4] at hM4
      clear hk4 hv4 hM hM2 hrow hne hown hq hCR
      simp only [slAct, slVals, Slot.get, Nat.reduceAdd, e4]
      refine wp_store1 54 _ _ rfl hM4 1 gr 0 _ _ rfl (by simp) rfl (.slice A4 (i + 1) c4) rfl rfl (by kernel_rfl) ?_
      intro w5 hM5
      clear hM4 hC4
      have H5 := hide hM5
      clear hM5
      go_wp2_with fail
      go_roundw
      case rel => exact ⟨i + 1, A4, c4, by omega, by go_num, unhide H5⟩
      case measure => simp [intOf]; omega
    · obtain rfl : i = m := by omega
      go_wp2_with fail
      go_ret
      rw [← unhide HM]
      exact ⟨⟨_, rfl, ringAt_mk hM (keysOf_length seed i) (keysOf_32 seed i)⟩, hM.grow⟩
set_option maxRecDepth 100000 in
set_option maxHeartbeats 1000000 in
theorem RNew_any (w : World) (n : Int) (seed : List (BitVec 8)) (hh : seed.length = 32) :
    Calls Try.prog 9 #[.int .i64 n, .agg (hv seed)] w fun e w' => (∃ p, e = .returned p ∧ RingAt w' p 58 (keysOf seed (cnt n))) ∧ Grow w noOwn w' := by
  have hM := Mem.nil w noOwn
  go_enter Try.func9, Try.ntmps9
  go_wp2_with (first
    | (refine wpList_box_mem hM rfl 26 _ rfl (.agg (hv seed)) rfl (hv seed) rfl ?_; clear hM; intro gs w1 hM)
    | (refine wpList_build_to rfl 58 _ rfl #[.slice none 0 0] (by kernel_rfl) ?_)
    | (refine wpList_box_mem hM rfl 58 _ rfl (.agg #[.slice none 0 0]) rfl #[.slice none 0 0] rfl ?_; clear hM; intro gr w2 hM))
  have hc := cnt_int n
  obtain ⟨m, hm⟩ : ∃ m, m = cnt n := ⟨_, rfl⟩
  have hm10 : m ≤ 10 := by rw [hm]; exact cnt_le n
  rw [← hm] at hc
  have HM := hide hm
  have HC := hide hc
  clear hm hc
  go_loopw [6] (fun v wr => ∃ (i : Nat) (A : Option Addr) (c : Nat), i ≤ m ∧ v = .int .i64 i ∧ Mem w noOwn wr [.row (.slice A i c) 26 32 i (flat (keysOf seed i)), .blk gr 58 #[.slice A i c], .blk gs 26 (hv seed)]) (fun v _ => m - (intOf v).toNat)
  case atStart => exact ⟨0, none, 0, by omega, rfl, hM.pushNil 26 32⟩
  case round =>
    clear hM
    obtain ⟨i, A, c, him, rfl, hM⟩ := hrel
    by_cases hlt : i < m
    · have hlt2 : (i : Int) < min (max n 1) 10 := by rw [← unhide HC]; omega
      go_wp2_with fail
      have hrow := hM.row 0 rfl
      have hM2 := hM.tail
      have hne : ∀ x ∈ [Item.blk gr 58 #[.slice A i c], Item.blk gs 26 (hv seed)], ∀ g, x.foot g → ¬ (Value.slice A i c).ownBlock = some g := fun x hx g h1 h2 => (List.pairwise_cons.1 hM.apart).1 x hx g h2 h1
      have hown : ∀ g, g < w.heap.size → (Value.slice A i c).ownBlock = some g → noOwn g := fun g hg h2 => (hM.own_ 0 rfl h2).resolve_right (by omega)
      have hq : Quiet (fun w' => Mem w noOwn w' [Item.blk gr 58 #[.slice A i c], Item.blk gs 26 (hv seed)] ∧ wr.heap.size ≤ w'.heap.size) (fun w1 w2 => Grow w1 noOwn w2) (fun _ _ => True) := ⟨fun w _ => Grow.refl w _, fun _ _ => trivial⟩
      have hCR : ∀ w1 w2, (Mem w noOwn w1 [Item.blk gr 58 #[.slice A i c], Item.blk gs 26 (hv seed)] ∧ wr.heap.size ≤ w1.heap.size) → Grow w1 noOwn w2 → (Mem w noOwn w2 [Item.blk gr 58 #[.slice A i c], Item.blk gs 26 (hv seed)] ∧ wr.heap.size ≤ w2.heap.size) ∧ Grow w1 noOwn w2 := fun w1 w2 h k => ⟨⟨h.1.call k, Nat.le_trans h.2 k.size⟩, k⟩
      refine wp_region_ghost_tail 14 _ rfl (by kernel_rfl) (C := fun w' => Mem w noOwn w' [Item.blk gr 58 #[.slice A i c], Item.blk gs 26 (hv seed)] ∧ wr.heap.size ≤ w'.heap.size) (D := fun w' => w'.ownsRow 0 26 32 (.slice A i c) i (flat (keysOf seed i)))
        (R := fun w1 w2 => Grow w1 noOwn w2) (R' := fun _ _ => True) [11] [8, 10, 11] [11] (by kernel_rfl) (by kernel_rfl) (by kernel_rfl) (by kernel_rfl) ⟨hM2.drew, Nat.le_refl _⟩ (hM.drew.row 0 rfl) (fun w1 w2 _ _ hg h => ownsRow_grow h hg) hq.1 hq.2 ?_
      simp only [List.take_succ_cons, List.take_zero, initS, List.map_cons, List.map_nil]
      have hki : (keyOf seed i).length = 32 := sha_length _
      repeat (first
        | (refine gw_move hq rfl _ (.inl rfl) _ rfl ?_; simp only [setD, List.set_cons_succ, List.set_cons_zero])
        | (refine gw_load1 hq rfl 54 _ rfl ⟨gr, 0, none⟩ rfl _ Try.underlying54 rfl (.slice A i c) (fun w' hC => hC.1.cell 0 rfl 0) ?_; simp only [setD, List.set_cons_succ, List.set_cons_zero])
        | (refine gw_row1 wr.heap.size 1 rfl (by rfl) (by rfl) (fun w' hC => hC.2) hCR (fun _ _ h => h) 22 5 _ rfl _ rfl Try.underlying22 (.int .u8 0) 1 u8row (by decide) (by decide) [V8 (BitVec.ofNat 8 i)] (by rw [← V8_wrap]; rfl) rfl ?_; simp only [setD, List.set_cons_succ, List.set_cons_zero])
        | (refine gw_load_blk hq rfl 26 _ rfl gs 26 (hv seed) rfl (fun w' hC => hC.1.blk 1 rfl) _ Try.underlying26 rfl (size32 _ hh) ?_; simp only [setD, List.set_cons_succ, List.set_cons_zero])
        | (refine gw_call_row2 wr.heap.size 1 rfl (by rfl) 26 24 _ rfl (.agg (hv seed)) rfl 5 1 [V8 (BitVec.ofNat 8 i)] rfl (.agg (hv (keyOf seed i))) (fun v w0 => run_callFunc Try.func26 (by kernel_rfl) rfl #[.agg (hv seed), v] w0) (fun v w' hC hv' => by
            obtain ⟨A', c', rfl, hc', hr'⟩ := hv'.slice
            refine (RLink_any w' 1 c' A' seed [BitVec.ofNat 8 i] hh hr' (by decide)).mono fun e w'' he => ⟨he.1, hCR w' w'' hC he.2⟩) ?_; simp only [setD, List.set_cons_succ, List.set_cons_zero])
        | (refine gw_row1 wr.heap.size 32 rfl (by rfl) (by rfl) (fun w' hC => hC.2) hCR (fun _ _ h => h) 54 26 _ rfl _ rfl Try.underlying54 _ 32 hashrow (by decide) (by decide) ((keyOf seed i).map V8) rfl (by simp [hki]) ?_; simp only [setD, List.set_cons_succ, List.set_cons_zero])
        | (refine gw_append_own wr.heap.size 32 rfl (by rfl) (by rfl) (by rfl) (.slice A i c) (fun w' hC => hC.2) (fun w1 w2 hC _ hg => ⟨⟨hC.1.callFar hg hne hown, Nat.le_trans hC.2 hg.size⟩, trivial⟩) (fun _ _ h => h) 26 54 rfl 26 i rfl (flat (keysOf seed i)) (fun w' _ h => h) wr.heap.size 1 ((keyOf seed i).map V8) rfl (fun u hu => by obtain ⟨x, _, rfl⟩ := List.mem_map.1 hu; rfl) Try.underlying54 _ 32 hashrow rfl (by decide) (by unfold maxLen; omega) (by omega) ?_; simp only [setD, List.set_cons_succ, List.set_cons_zero])
        | (refine gw_pure_ex hq rfl (fun K hK => ?_); go_simp; refine hK _ ?_; clear hK K; simp only [setD, List.set_cons_succ, List.set_cons_zero]))
      intro γ w4 hC4 hk4
      have hv4 := hk4 11 27 _ rfl rfl rfl
      obtain ⟨A4, c4, e4, _, _⟩ := row_form hv4.1
      rw [flat_succ] at hv4
      have hM4 := hM.addRow (hC4.1) hv4
      rw [e4] at hM4
      clear hk4 hv4 hM hM2 hrow hne hown hq hCR
      simp only [slAct, slVals, Slot.get, Nat.reduceAdd, e4]
      refine wp_store1 54 _ _ rfl hM4 1 gr 0 _ _ rfl (by simp) rfl (.slice A4 (i + 1) c4) rfl rfl (by kernel_rfl) ?_
      intro w5 hM5
      clear hM4 hC4
      have H5 := hide hM5
      clear hM5
      go_wp2_with fail
      go_roundw
      case rel => exact ⟨i + 1, A4, c4, by omega, by go_num, unhide H5⟩
      case measure => simp [intOf]; omega
    · obtain rfl : i = m := by omega
      have hlt2 : ¬ (i : Int) < min (max n 1) 10 := by rw [← unhide HC]; omega
      go_wp2_with fail
      go_ret
      rw [← unhide HM]
      exact ⟨⟨_, rfl, ringAt_mk hM (keysOf_length seed i) (keysOf_32 seed i)⟩, hM.grow⟩
end Go.Proofs.Ytkcmnhmbpamehaa
