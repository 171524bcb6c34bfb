/- max and min of integers, unsplit. -/
import Derived.Test.YtnmnknjgibkkaaaGhost2
import Derived.IntWalk
namespace Go.Proofs.Ytnmnknjgibkkaaa
open Go.RowKit
@[go_sem high] theorem run_max_mx {P : Program} {w : World} (ts : Array TypeId) (t : TypeId) (k k' : IntKind) (x y : Int) : (Builtin.max_ ts t #[.int k x, .int k' y]).run P w = .ok (.int k (max x y)) w := by
  rw [run_max_int2]
  congr 2
  split <;> omega
@[go_sem high] theorem run_min_mn {P : Program} {w : World} (ts : Array TypeId) (t : TypeId) (k k' : IntKind) (x y : Int) : (Builtin.min_ ts t #[.int k x, .int k' y]).run P w = .ok (.int k (min x y)) w := by
  rw [run_min_int2]
  congr 2
  split <;> omega
end Go.Proofs.Ytnmnknjgibkkaaa
