/- The reference's Link. -/
import Derived.Test.YtkcmnhmbpamehaaRSum
import Derived.Test.YtkcmnhmbpamehaaApp2
namespace Go.Proofs.Ytkcmnhmbpamehaa
open Go.RowKit

theorem bytes_app {w : World} {B n : Nat} {A : Option Addr} {l p : List (BitVec 8)} (h : Reads w B 1 A n (l.map V8 ++ p.map V8)) : Bytes w B A n (l ++ p) := by
  unfold Bytes; rw [List.map_append]; exact h
theorem hvz (l : List (BitVec 8)) (h : l.length = 32) : (hv (List.replicate 32 0)).size = (hv l).size := by rw [hv_size, hv_size, h, List.length_replicate]
theorem hvz2 (l m : List (BitVec 8)) (h : l.length = 32) (h2 : m.length = 32) : (hv l).size = (hv m).size := by rw [hv_size, hv_size, h, h2]

set_option maxRecDepth 100000 in
theorem RLink_any (w : World) (n c : Nat) (A : Option Addr) (h p : List (BitVec 8)) (hh : h.length = 32) (hb : Bytes w w.heap.size A n p) (hn2 : n ≤ 140737488340000) :
    Calls Try.prog 26 #[.agg (hv h), .slice A n c] w fun e w' => e = .returned (.agg (hv (sha (h ++ p)))) ∧ Grow w noOwn w' := by
  have hM := Mem.nil w noOwn
  go_enter Try.func26, Try.ntmps26
  go_wp2_with (first
    | (refine wpList_box_mem hM rfl 26 _ rfl (.agg (hv h)) rfl (hv h) rfl ?_; clear hM; intro g2 w2 hM)
    | (refine wpList_alloc_mem hM rfl 26 rfl _ zero32 ?_; clear hM; intro g4 w4 hM)
    | (refine wpList_buildSlice_row rfl 22 0 _ rfl hM 5 Try.underlying22 _ 1 1 u8row (by decide) (by decide) [] (by kernel_rfl) rfl ?_; clear hM; intro g5 w5 hM)
    | (refine wpList_append_row rfl (.tmp 5) (.tmp 6) 22 rfl hM 0 _ 5 1 0 [] rfl rfl Try.underlying22 _ 1 u8row rfl (by decide) _ (some ⟨g2, 0, none⟩) 32 32 (h.map V8) rfl ((hM.blk 2 rfl).bytes 0 32 (by omega)) (one8 _) (by simp only [maxLen]; omega) (by omega) 32 (Nat.zero_add _) (h.map V8) rfl ?_; clear hM; intro A7 c7 w7 hM)
    | (refine wpList_append_row rfl (.tmp 7) (.tmp 8) 22 rfl hM 0 _ 5 1 32 (h.map V8) rfl rfl Try.underlying22 _ 1 u8row rfl (by decide) w.heap.size A n c (p.map V8) rfl (hM.reads hb (Nat.le_refl _) (fun _ _ e => e)) (one8 _) (by simp only [maxLen]; omega) (by omega) (32 + n) rfl ((h ++ p).map V8) (List.map_append).symm ?_; clear hM; intro A9 c9 w9 hM)
    | (go_at_call 29; refine (RSum_any _ _ _ _ (h ++ p) (Reads.of_own (hM.row 0 rfl)) (by omega)).mono ?_; rintro e1 w10 ⟨rfl, hg⟩; replace hM := hM.call hg; clear hg)
    | (refine wpList_store_mem rfl 26 _ _ rfl hM 1 _ _ _ (hv (sha (h ++ p))) rfl rfl rfl (size32 _ (sha_length _)) (hvz _ (sha_length _)) (oneCells8 _) ?_; clear hM; intro w11 hM _))
  exact bodyPost_row rfl rfl _ _ _ (hM.blk 1 rfl) rfl (.array 32 5) (by kernel_rfl) rfl (size32 _ (sha_length _)) ⟨rfl, hM.grow⟩
end Go.Proofs.Ytkcmnhmbpamehaa
