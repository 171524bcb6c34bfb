/- The rounds' numbers. -/
import Derived.Test.YtkcmnhmbpamehaaProg
import Derived.Test.YtkcmnhmbpamehaaSha
import Derived.Test.YtkcmnhmbpamehaaMem
namespace Go.Proofs.Ytkcmnhmbpamehaa
open Go.RowKit

def vals (l : List (BitVec 32)) : Array Value := (l.map V32).toArray
theorem vals_size (l : List (BitVec 32)) : (vals l).size = l.length := by simp [vals]
theorem K64_lit : vals K64 = #[.int .u32 1116352408, .int .u32 1899447441, .int .u32 3049323471, .int .u32 3921009573, .int .u32 961987163, .int .u32 1508970993, .int .u32 2453635748, .int .u32 2870763221, .int .u32 3624381080, .int .u32 310598401, .int .u32 607225278, .int .u32 1426881987, .int .u32 1925078388, .int .u32 2162078206, .int .u32 2614888103, .int .u32 3248222580, .int .u32 3835390401, .int .u32 4022224774, .int .u32 264347078, .int .u32 604807628, .int .u32 770255983, .int .u32 1249150122, .int .u32 1555081692, .int .u32 1996064986, .int .u32 2554220882, .int .u32 2821834349, .int .u32 2952996808, .int .u32 3210313671, .int .u32 3336571891, .int .u32 3584528711, .int .u32 113926993, .int .u32 338241895, .int .u32 666307205, .int .u32 773529912, .int .u32 1294757372, .int .u32 1396182291, .int .u32 1695183700, .int .u32 1986661051, .int .u32 2177026350, .int .u32 2456956037, .int .u32 2730485921, .int .u32 2820302411, .int .u32 3259730800, .int .u32 3345764771, .int .u32 3516065817, .int .u32 3600352804, .int .u32 4094571909, .int .u32 275423344, .int .u32 430227734, .int .u32 506948616, .int .u32 659060556, .int .u32 883997877, .int .u32 958139571, .int .u32 1322822218, .int .u32 1537002063, .int .u32 1747873779, .int .u32 1955562222, .int .u32 2024104815, .int .u32 2227730452, .int .u32 2361852424, .int .u32 2428436474, .int .u32 2756734187, .int .u32 3204031479, .int .u32 3329325298] := rfl

theorem vals_list_size (s : St) : (vals s.list).size = 8 := rfl
theorem vals_zero8_size : (vals (List.replicate 8 0)).size = 8 := rfl
theorem zero64 : ((Try.prog.info? 72).bind (·.zero)).map (·.cells) = some (vals (List.replicate 64 0)) := by kernel_rfl
theorem size64 : (Try.prog.info? 72).map (·.size) = some (vals K64).size := by kernel_rfl

theorem oneCells (l : List (BitVec 32)) : (vals l).all (·.oneCell') = true := by
  rw [Array.all_eq_true_iff_forall_mem]
  intro v hv
  obtain ⟨x, _, rfl⟩ := List.mem_map.1 (by simpa [vals] using hv)
  rfl

set_option maxRecDepth 100000 in
theorem numbers_any (w : World) :
    Calls Try.prog 37 #[] w fun e w' => e = .returned (.agg (vals K64)) ∧ Grow w noOwn w' := by
  have hM := Mem.nil w noOwn
  go_enter Try.func37, Try.ntmps37
  go_wp2_with (first
    | (refine wpList_alloc rfl 72 rfl _ zero64 ?_; replace hM := hM.alloc 72 (vals (List.replicate 64 0)))
    | (refine wpList_build_to rfl 72 _ rfl (vals K64) (by kernel_rfl) ?_)
    | (refine wpList_store_mem rfl 72 _ _ rfl hM 0 _ _ _ (vals K64) rfl rfl rfl size64 rfl (oneCells _) ?_; clear hM; intro w1 hM _))
  exact bodyPost_row rfl rfl _ _ _ (hM.blk 0 rfl) rfl (.array 64 69) (by kernel_rfl) rfl size64 ⟨rfl, hM.grow⟩


set_option maxRecDepth 100000 in
theorem refk_any (w : World) :
    Calls Try.prog 42 #[] w fun e w' => e = .returned (.agg (vals K64)) ∧ Grow w noOwn w' := by
  have hM := Mem.nil w noOwn
  go_enter Try.func42, Try.ntmps42
  go_wp2_with (first
    | (refine wpList_alloc rfl 72 rfl _ zero64 ?_; replace hM := hM.alloc 72 (vals (List.replicate 64 0)))
    | (refine wpList_build_to rfl 72 _ rfl (vals K64) (by kernel_rfl) ?_)
    | (refine wpList_store_mem rfl 72 _ _ rfl hM 0 _ _ _ (vals K64) rfl rfl rfl size64 rfl (oneCells _) ?_; clear hM; intro w1 hM _))
  exact bodyPost_row rfl rfl _ _ _ (hM.blk 0 rfl) rfl (.array 64 69) (by kernel_rfl) rfl size64 ⟨rfl, hM.grow⟩

end Go.Proofs.Ytkcmnhmbpamehaa
