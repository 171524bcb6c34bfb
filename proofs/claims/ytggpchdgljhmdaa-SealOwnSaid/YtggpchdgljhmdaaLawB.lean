/- DigestSums, DigestMacs: the walks. -/
import Derived.Test.YtggpchdgljhmdaaLawA
import Derived.BigQuiet
import Derived.IntWalk
namespace Go.Proofs.Ytggpchdgljhmdaa
open Go.RowKit

theorem roomy_cut {w : World} {A : Option Addr} {n : Nat} {l : List (BitVec 8)} (h : Bytes w w.heap.size A (n + 1) (l ++ [171])) (hl : l.length = n) : Bytes w w.heap.size A n l := by
  have ht := h.take (show n ≤ n + 1 by omega)
  rwa [List.take_left' hl] at ht

set_option maxRecDepth 100000 in
theorem DigestSums_any (w : World) (n c : Nat) (A : Option Addr) (l : List (BitVec 8)) (hb : Bytes w w.heap.size A n l) :
    Calls Try.prog 3 #[.slice A n c] w fun e w' => e = .returned (.bool true) ∧ Grow w noOwn w' := by
  by_cases hn : n ≤ 1500
  · have hg0 := Grow.refl w noOwn
    have hl := hb.len
    go_enter Try.func3, Try.ntmps3
    go_wp2_with (go_at_call 14; refine (roomy_any w n c A l hb (by omega)).mono ?_; rintro e w1 ⟨A1, c1, rfl, hb1, hc1, hg1⟩; obtain ⟨b1, o1, rfl, hlt1, _⟩ := hb1.form (by omega); have hb2 := roomy_cut hb1 hl; have hb0 := hb.grow hg1 (Nat.le_refl _) (fun _ _ e => e))
    go_wp2_with (first
      | (go_at_call 15; refine (Sum_any w1 n c1 _ l hb2 (by omega) (by omega)).mono ?_; rintro e w2 ⟨rfl, hg2⟩; replace hb0 := (hb0.more hg1.size).grow hg2 (Nat.le_refl _) (fun _ _ e => e); replace hb1 := hb1.grow hg2 (Nat.le_refl _) (fun _ _ e => e); have hg12 := hg1.then_ hg2)
      | (go_at_call 16; refine (RSum_any w2 n c _ l (hb0.more hg2.size) (by omega)).mono ?_; rintro e w3 ⟨rfl, hg3⟩; replace hb0 := (hb0.more hg2.size).grow hg3 (Nat.le_refl _) (fun _ _ e => e); replace hb1 := (hb1.more hg2.size).grow hg3 (Nat.le_refl _) (fun _ _ e => e); have hg13 := hg12.then_ hg3; have hs := sha_length l)
      | (go_at_call 17; refine (stands_any w3 n c1 c _ _ l (hb1.more hg3.size) hc1 (hb0.more hg3.size) (by omega)).mono ?_; rintro e w4 ⟨rfl, k, rfl⟩)
      | (go_at_call 18; refine (known_any _).mono ?_; rintro e w5 ⟨rfl, hg5⟩))

    go_ret
    exact ⟨rfl, (hg13.drewN k).then_ hg5⟩
  · go_enter Try.func3, Try.ntmps3
    go_wp2_with fail
    go_ret
    exact ⟨rfl, Grow.refl ..⟩

/-! ### A region that draws its order and whose callees lay memory -/
def gro (w : World) (p : Regrown) : World := Sort.grow (redrawn w p.d) p.os
theorem grow_gro (w : World) (p : Regrown) : Grow w noOwn (Sort.grow (redrawn w p.d) p.os) := Grow.of_below (below_regrown w p.d p.os) _
theorem Bytes.gro {w : World} {n : Nat} {A : Option Addr} {l : List (BitVec 8)} (h : Bytes w w.heap.size A n l) (p : Regrown) : Bytes (Sort.grow (redrawn w p.d) p.os) (Sort.grow (redrawn w p.d) p.os).heap.size A n l :=
  (h.grow (grow_gro w p) (Nat.le_refl _) (fun _ _ e => e)).more (grow_gro w p).size
theorem call_gro {P : Program} {f : FuncId} {args : Array Value} {w : World} {p : Regrown} {v : Value}
    (h : Calls P f args (Sort.grow (redrawn w p.d) p.os) fun e w' => e = .returned v ∧ Grow (Sort.grow (redrawn w p.d) p.os) noOwn w') : Calls P f args (Sort.grow (redrawn w p.d) p.os) fun e w'' => e = .returned v ∧ ∃ q : Regrown, w'' = Sort.grow (redrawn w q.d) q.os :=
  Calls.regrown_of (h.mono fun _ _ ⟨he, hg⟩ => ⟨he, hg.below⟩)
theorem call_drew {P : Program} {f : FuncId} {args : Array Value} {w : World} {p : Regrown} {v : Value}
    (h : Calls P f args (Sort.grow (redrawn w p.d) p.os) fun e w' => e = .returned v ∧ ∃ k, w' = (Sort.grow (redrawn w p.d) p.os).drewN k) : Calls P f args (Sort.grow (redrawn w p.d) p.os) fun e w'' => e = .returned v ∧ ∃ q : Regrown, w'' = Sort.grow (redrawn w q.d) q.os :=
  call_gro (h.mono fun _ _ ⟨he, k, hk⟩ => ⟨he, by rw [hk]; exact (Grow.refl _ _).drewN k⟩)

set_option maxRecDepth 100000 in
set_option maxHeartbeats 400000 in
theorem DigestMacs_any (w : World) (n1 c1 n2 c2 : Nat) (A B : Option Addr) (l1 l2 : List (BitVec 8)) (hb1 : Bytes w w.heap.size A n1 l1) (hb2 : Bytes w w.heap.size B n2 l2) (hm1 : n1 ≤ 140737488351232) (hm2 : n2 ≤ 140737488351232) :
    Calls Try.prog 4 #[.slice A n1 c1, .slice B n2 c2] w fun e w' => e = .returned (.bool true) ∧ Grow w noOwn w' := by
  by_cases hn : n1 + n2 ≤ 1500
  · have hl1 := hb1.len
    have hl2 := hb2.len
    go_enter Try.func4, Try.ntmps4
    go_wp2_with (first
      | (go_at_call 14; refine (roomy_any w n1 c1 A l1 hb1 (by omega)).mono ?_; rintro e w1 ⟨A1, d1, rfl, hx1, hd1, hg1⟩; obtain ⟨b1, o1, rfl, hlt1, _⟩ := hx1.form (by omega); replace hb1 := (hb1.grow hg1 (Nat.le_refl _) (fun _ _ e => e)).more hg1.size; replace hb2 := (hb2.grow hg1 (Nat.le_refl _) (fun _ _ e => e)).more hg1.size)
      | (go_at_call 14; refine (roomy_any w1 n2 c2 B l2 hb2 (by omega)).mono ?_; rintro e w2 ⟨A2, d2, rfl, hx2, hd2, hg2⟩; obtain ⟨b2, o2, rfl, hlt2, _⟩ := hx2.form (by omega); replace hb1 := (hb1.grow hg2 (Nat.le_refl _) (fun _ _ e => e)).more hg2.size; replace hb2 := (hb2.grow hg2 (Nat.le_refl _) (fun _ _ e => e)).more hg2.size; replace hx1 := (hx1.grow hg2 (Nat.le_refl _) (fun _ _ e => e)).more hg2.size))
    have hs : (mac l1 l2).length = 32 := sha_length _
    have hy1 := roomy_cut hx1 hl1
    have hy2 := roomy_cut hx2 hl2
    refine wp_region_quiet_below (by kernel_rfl) (by kernel_rfl) ?_
    repeat (go_big_quiet_step (first
      | (go_at_call 19; with_reducible exact call_gro (Mac_any _ n1 d1 n2 d2 _ _ l1 l2 (hy1.gro _) (by omega) (by omega) (hy2.gro _) (by omega)))
      | (go_at_call 20; with_reducible exact call_gro (RMac_any _ n1 c1 n2 c2 _ _ l1 l2 (hb1.gro _) (by omega) (hb2.gro _) (by omega)))
      | (go_at_call 17; with_reducible exact call_drew (stands_any _ n1 d1 c1 _ _ l1 (hx1.gro _) hd1 (hb1.gro _) (by omega)))
      | (go_at_call 17; with_reducible exact call_drew (stands_any _ n2 d2 c2 _ _ l2 (hx2.gro _) hd2 (hb2.gro _) (by omega)))
      | (go_at_call 18; with_reducible exact call_gro (known_any _))))
    refine wpQuiet_nil ?_
    intro w3 hw3
    obtain ⟨p, rfl⟩ := hw3
    go_wp2_with fail
    go_ret
    exact ⟨rfl, (hg1.then_ hg2).then_ (grow_gro w2 p)⟩
  · have hw : wrap64 ((n1 : Int) + n2) = n1 + n2 := by unfold wrap64; omega
    have hlt : (1500 : Int) < n1 + n2 := by omega
    go_enter Try.func4, Try.ntmps4
    go_wp2_with fail
    go_ret
    exact ⟨rfl, Grow.refl ..⟩
end Go.Proofs.Ytggpchdgljhmdaa
