/- DigestSums, DigestMacs: the walks. -/
import Derived.Test.YtggpchdgljhmdaaLawA
import Derived.BigQuiet
import Derived.IntWalk
namespace Go.Proofs.Ytggpchdgljhmdaa
open Go.RowKit

theorem roomy_cut {w : World} {A : Option Addr} {n : Nat} {l : List (BitVec 8)} (h : Bytes w w.heap.size A (n + 1) (l ++ [171])) (hl : l.length = n) : Bytes w w.heap.size A n l := by
  have ht := h.take (show n ≤ n + 1 by omega)
  rwa [List.take_left' hl] at ht

set_option maxRecDepth 100000 in
theorem DigestSums_any (w : World) (n c : Nat) (A : Option Addr) (l : List (BitVec 8)) (hb : Bytes w w.heap.size A n l) :
    Calls Try.prog 3 #[.slice A n c] w fun e w' => e = .returned (.bool true) ∧ Grow w noOwn w' := by
  by_cases hn : n ≤ 1500
  · have hg0 := Grow.refl w noOwn
    have hl := hb.len
    go_enter Try.func3, Try.ntmps3
    go_wp2_with (go_at_call 14; refine (roomy_any w n c A l hb (by omega)).mono ?_; rintro e w1 ⟨A1, c1, rfl, hb1, hc1, hg1⟩; obtain ⟨b1, o1, rfl, hlt1, _⟩ := hb1.form (by omega); have hb2 := roomy_cut hb1 hl; have hb0 := hb.grow hg1 (Nat.le_refl _) (fun _ _ e => e))
    go_wp2_with (first
      | (go_at_call 15; refine (Sum_any w1 n c1 _ l hb2 (by omega) (by omega)).mono ?_; rintro e w2 ⟨rfl, hg2⟩; replace hb0 := (hb0.more hg1.size).grow hg2 (Nat.le_refl _) (fun _ _ e => e); replace hb1 := hb1.grow hg2 (Nat.le_refl _) (fun _ _ e => e); have hg12 := hg1.then_ hg2)
      | (go_at_call 16; refine (RSum_any w2 n c _ l (hb0.more hg2.size) (by omega)).mono ?_; rintro e w3 ⟨rfl, hg3⟩; replace hb0 := (hb0.more hg2.size).grow hg3 (Nat.le_refl _) (fun _ _ e => e); replace hb1 := (hb1.more hg2.size).grow hg3 (Nat.le_refl _) (fun _ _ e => e); have hg13 := hg12.then_ hg3; have hs := sha_length l)
      | (go_at_call 17; refine (stands_any w3 n c1 c _ _ l (hb1.more hg3.size) hc1 (hb0.more hg3.size) (by omega)).mono ?_; rintro e w4 ⟨rfl, k, rfl⟩)
      | (go_at_call 18; refine (known_any _).mono ?_; rintro e w5 ⟨rfl, hg5⟩))

    go_ret
    exact ⟨rfl, (hg13.drewN k).then_ hg5⟩
  · go_enter Try.func3, Try.ntmps3
    go_wp2_with fail
    go_ret
    exact ⟨rfl, Grow.refl ..⟩
end Go.Proofs.Ytggpchdgljhmdaa
