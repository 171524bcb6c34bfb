/-
  No cell of these rows narrows 'for every input' (looked for: loops, veiled, ifaces, maps, wideKeys, modest, calm, conditions, laid).
  DERIVED. THE GIVEN ROWS OF THIS SEAT. 7 by the template 'for every input the law returns true; each argument reads behind the call as it read before'; 0 by the template 'total and deterministic' (their statements: YtechglhkcjgodaaTotals.lean).
  GIVEN WITH THE SEED: the statements are not yours to turn. If you find one false, say at which input.
  Laid BY PROGRAM, IN A SANDBOX (cutbox-rows.mjs): the forced cells as the released guide's own fill.sh prints them over the translation b43c460443725300… (all of the seat's roots in one cut). By AI agents, Wed Nov 11 2026. No macro, syntax, notation, axiom, sorry.
-/
import Derived.Test.YtechglhkcjgodaaChecked
import GoSem.Claim
import GoSem.ClaimJoined
import GoSem.ClaimMapViews
import Derived.JoinedTies
import Derived.KernelRfl
namespace Go.Proofs.Ytechglhkcjgodaa
/- THE CELL 'sum', in the pinned program and in every row, IS THE sha256 OF THE DUMP (.gsa) THAT YtechglhkcjgodaaProg.lean LOADS. Nothing in Lean hashes anything: it is a label: what it is worth is what the hold of that sum in a sandbox is worth. -/
noncomputable def Try.pinned : Pinned := { name := "ytechglhkcjgodaa", sum := "b43c46044372530080e5e474f88a32873b528bc448144bcf11bd8e8bf87810fb", checked := Try.checked }
namespace Rows
def none {H : Type} : Left H := { results := [], args := [] }

/-- 'seneschallaw12.FetchPieces': WHATEVER THE INPUT: true; the input reads as it did. -/
def fetchPiecesSpec : ChangeSpec := { name := "fetchPieces", fn := fun _ => fun
  | [d1, d2, d3] => { results := [.lit (.bool true)], args := [d1, d2, d3] }
  | _ => none }
def fetchPiecesRow : OpenClaim := { program := "ytechglhkcjgodaa", sum := "b43c46044372530080e5e474f88a32873b528bc448144bcf11bd8e8bf87810fb", func := "seneschal/seneschallaw12.FetchPieces", spec := "fetchPieces", unfollowed := true, recurses := true, plainKeys := false, apart := false }
def FetchPiecesSaid : Prop := fetchPiecesRow.holds Try.pinned (OpenSpec.ofChange fetchPiecesSpec)

/-- ITS FALSE NEIGHBOUR: 'it returns false'. Refute it at one input. -/
def fetchPiecesWrong : ChangeSpec := { name := "fetchPieces", fn := fun _ => fun
  | [d1, d2, d3] => { results := [.lit (.bool false)], args := [d1, d2, d3] }
  | _ => none }
def FetchPiecesWrongFalsely : Prop := fetchPiecesRow.holds Try.pinned (OpenSpec.ofChange fetchPiecesWrong)

/-- 'seneschallaw12.FetchNever': WHATEVER THE INPUT: true; the input reads as it did. -/
def fetchNeverSpec : ChangeSpec := { name := "fetchNever", fn := fun _ => fun
  | [d] => { results := [.lit (.bool true)], args := [d] }
  | _ => none }
def fetchNeverRow : OpenClaim := { program := "ytechglhkcjgodaa", sum := "b43c46044372530080e5e474f88a32873b528bc448144bcf11bd8e8bf87810fb", func := "seneschal/seneschallaw12.FetchNever", spec := "fetchNever", unfollowed := true, recurses := true, plainKeys := false, apart := false }
def FetchNeverSaid : Prop := fetchNeverRow.holds Try.pinned (OpenSpec.ofChange fetchNeverSpec)

/-- ITS FALSE NEIGHBOUR: 'it returns false'. Refute it at one input. -/
def fetchNeverWrong : ChangeSpec := { name := "fetchNever", fn := fun _ => fun
  | [d] => { results := [.lit (.bool false)], args := [d] }
  | _ => none }
def FetchNeverWrongFalsely : Prop := fetchNeverRow.holds Try.pinned (OpenSpec.ofChange fetchNeverWrong)

/-- 'seneschallaw12.FetchOfNothing': WHATEVER THE INPUT: true; the input reads as it did. -/
def fetchOfNothingSpec : ChangeSpec := { name := "fetchOfNothing", fn := fun _ => fun
  | [d1, d2] => { results := [.lit (.bool true)], args := [d1, d2] }
  | _ => none }
def fetchOfNothingRow : OpenClaim := { program := "ytechglhkcjgodaa", sum := "b43c46044372530080e5e474f88a32873b528bc448144bcf11bd8e8bf87810fb", func := "seneschal/seneschallaw12.FetchOfNothing", spec := "fetchOfNothing", unfollowed := true, recurses := true, plainKeys := false, apart := false }
def FetchOfNothingSaid : Prop := fetchOfNothingRow.holds Try.pinned (OpenSpec.ofChange fetchOfNothingSpec)

/-- ITS FALSE NEIGHBOUR: 'it returns false'. Refute it at one input. -/
def fetchOfNothingWrong : ChangeSpec := { name := "fetchOfNothing", fn := fun _ => fun
  | [d1, d2] => { results := [.lit (.bool false)], args := [d1, d2] }
  | _ => none }
def FetchOfNothingWrongFalsely : Prop := fetchOfNothingRow.holds Try.pinned (OpenSpec.ofChange fetchOfNothingWrong)

/-- 'seneschallaw12.FetchTells': WHATEVER THE INPUT: true; the input reads as it did. -/
def fetchTellsSpec : ChangeSpec := { name := "fetchTells", fn := fun _ => fun
  | [d1, d2, d3, d4] => { results := [.lit (.bool true)], args := [d1, d2, d3, d4] }
  | _ => none }
def fetchTellsRow : OpenClaim := { program := "ytechglhkcjgodaa", sum := "b43c46044372530080e5e474f88a32873b528bc448144bcf11bd8e8bf87810fb", func := "seneschal/seneschallaw12.FetchTells", spec := "fetchTells", unfollowed := true, recurses := true, plainKeys := false, apart := false }
def FetchTellsSaid : Prop := fetchTellsRow.holds Try.pinned (OpenSpec.ofChange fetchTellsSpec)

/-- ITS FALSE NEIGHBOUR: 'it returns false'. Refute it at one input. -/
def fetchTellsWrong : ChangeSpec := { name := "fetchTells", fn := fun _ => fun
  | [d1, d2, d3, d4] => { results := [.lit (.bool false)], args := [d1, d2, d3, d4] }
  | _ => none }
def FetchTellsWrongFalsely : Prop := fetchTellsRow.holds Try.pinned (OpenSpec.ofChange fetchTellsWrong)

/-- 'seneschallaw12.FetchEnds': WHATEVER THE INPUT: true; the input reads as it did. -/
def fetchEndsSpec : ChangeSpec := { name := "fetchEnds", fn := fun _ => fun
  | [d1, d2, d3] => { results := [.lit (.bool true)], args := [d1, d2, d3] }
  | _ => none }
def fetchEndsRow : OpenClaim := { program := "ytechglhkcjgodaa", sum := "b43c46044372530080e5e474f88a32873b528bc448144bcf11bd8e8bf87810fb", func := "seneschal/seneschallaw12.FetchEnds", spec := "fetchEnds", unfollowed := true, recurses := true, plainKeys := false, apart := false }
def FetchEndsSaid : Prop := fetchEndsRow.holds Try.pinned (OpenSpec.ofChange fetchEndsSpec)

/-- ITS FALSE NEIGHBOUR: 'it returns false'. Refute it at one input. -/
def fetchEndsWrong : ChangeSpec := { name := "fetchEnds", fn := fun _ => fun
  | [d1, d2, d3] => { results := [.lit (.bool false)], args := [d1, d2, d3] }
  | _ => none }
def FetchEndsWrongFalsely : Prop := fetchEndsRow.holds Try.pinned (OpenSpec.ofChange fetchEndsWrong)

/-- 'seneschallaw12.FetchEach': WHATEVER THE INPUT: true; the input reads as it did. -/
def fetchEachSpec : ChangeSpec := { name := "fetchEach", fn := fun _ => fun
  | [d1, d2, d3] => { results := [.lit (.bool true)], args := [d1, d2, d3] }
  | _ => none }
def fetchEachRow : OpenClaim := { program := "ytechglhkcjgodaa", sum := "b43c46044372530080e5e474f88a32873b528bc448144bcf11bd8e8bf87810fb", func := "seneschal/seneschallaw12.FetchEach", spec := "fetchEach", unfollowed := true, recurses := true, plainKeys := false, apart := false }
def FetchEachSaid : Prop := fetchEachRow.holds Try.pinned (OpenSpec.ofChange fetchEachSpec)

/-- ITS FALSE NEIGHBOUR: 'it returns false'. Refute it at one input. -/
def fetchEachWrong : ChangeSpec := { name := "fetchEach", fn := fun _ => fun
  | [d1, d2, d3] => { results := [.lit (.bool false)], args := [d1, d2, d3] }
  | _ => none }
def FetchEachWrongFalsely : Prop := fetchEachRow.holds Try.pinned (OpenSpec.ofChange fetchEachWrong)

/-- 'seneschallaw12.FetchAny': WHATEVER THE INPUT: true; the input reads as it did. -/
def fetchAnySpec : ChangeSpec := { name := "fetchAny", fn := fun _ => fun
  | [d] => { results := [.lit (.bool true)], args := [d] }
  | _ => none }
def fetchAnyRow : OpenClaim := { program := "ytechglhkcjgodaa", sum := "b43c46044372530080e5e474f88a32873b528bc448144bcf11bd8e8bf87810fb", func := "seneschal/seneschallaw12.FetchAny", spec := "fetchAny", unfollowed := true, recurses := true, plainKeys := false, apart := false }
def FetchAnySaid : Prop := fetchAnyRow.holds Try.pinned (OpenSpec.ofChange fetchAnySpec)

/-- ITS FALSE NEIGHBOUR: 'it returns false'. Refute it at one input. -/
def fetchAnyWrong : ChangeSpec := { name := "fetchAny", fn := fun _ => fun
  | [d] => { results := [.lit (.bool false)], args := [d] }
  | _ => none }
def FetchAnyWrongFalsely : Prop := fetchAnyRow.holds Try.pinned (OpenSpec.ofChange fetchAnyWrong)

/- THE SECOND FORM. 'bulk': how many values and letters a reading holds, each counted each time it is reached (what is shared counts as often as it is met; a slice's spare places count too). A statement '..UptoSaid' is the law's where the arguments, and the package variables that the reading takes, are together of bulk at most 1048576: NARROWER than '..Said'. Prove '..Said' where nothing that the law and all that it calls make is longer than what came in: it says more and counts as full. Else prove '..UptoSaid'. A law counts once. -/
mutual
def uptoBulk {H : Type} : DataW H → Nat
  | .lit (.string bytes) => bytes.length + 1
  | .lit _ => 1
  | .nil => 1
  | .ptr d => uptoBulk d + 1
  | .slice elems spare => uptoBulkAll elems + uptoBulkAll spare + 1
  | .agg parts => uptoBulkAll parts + 1
  | .iface _ d => uptoBulk d + 1
  | .map entries => uptoBulkEntries entries + 1
  | .held _ => 1
def uptoBulkAll {H : Type} : List (DataW H) → Nat
  | [] => 0
  | d :: r => uptoBulk d + uptoBulkAll r
def uptoBulkEntries {H : Type} : List (Lit × DataW H) → Nat
  | [] => 0
  | x :: r => uptoBulkEntry x + uptoBulkEntries r
def uptoBulkEntry {H : Type} : Lit × DataW H → Nat
  | (.string bytes, d) => bytes.length + uptoBulk d + 1
  | (_, d) => uptoBulk d + 1
 end
def uptoSmall : (H : Type) → List (DataW H) → Bool := fun _ ds => decide (uptoBulkAll ds ≤ 1048576)
def OpenSpec.upto (s : _root_.Go.ChangeSpec) : _root_.Go.OpenSpec := { _root_.Go.OpenSpec.ofChange s with cond := some uptoSmall }

/-- 'seneschallaw12.FetchPieces', WHERE WHAT IT READS IS OF BULK AT MOST 1048576: true; the input reads as it did. -/
def fetchPiecesUptoRow : OpenClaim := { program := "ytechglhkcjgodaa", sum := "b43c46044372530080e5e474f88a32873b528bc448144bcf11bd8e8bf87810fb", func := "seneschal/seneschallaw12.FetchPieces", spec := "fetchPieces", unfollowed := true, recurses := true, plainKeys := false, apart := false, narrowed := true }
def FetchPiecesUptoSaid : Prop := fetchPiecesUptoRow.holds Try.pinned (OpenSpec.upto fetchPiecesSpec)

/-- 'seneschallaw12.FetchNever', WHERE WHAT IT READS IS OF BULK AT MOST 1048576: true; the input reads as it did. -/
def fetchNeverUptoRow : OpenClaim := { program := "ytechglhkcjgodaa", sum := "b43c46044372530080e5e474f88a32873b528bc448144bcf11bd8e8bf87810fb", func := "seneschal/seneschallaw12.FetchNever", spec := "fetchNever", unfollowed := true, recurses := true, plainKeys := false, apart := false, narrowed := true }
def FetchNeverUptoSaid : Prop := fetchNeverUptoRow.holds Try.pinned (OpenSpec.upto fetchNeverSpec)

/-- 'seneschallaw12.FetchOfNothing', WHERE WHAT IT READS IS OF BULK AT MOST 1048576: true; the input reads as it did. -/
def fetchOfNothingUptoRow : OpenClaim := { program := "ytechglhkcjgodaa", sum := "b43c46044372530080e5e474f88a32873b528bc448144bcf11bd8e8bf87810fb", func := "seneschal/seneschallaw12.FetchOfNothing", spec := "fetchOfNothing", unfollowed := true, recurses := true, plainKeys := false, apart := false, narrowed := true }
def FetchOfNothingUptoSaid : Prop := fetchOfNothingUptoRow.holds Try.pinned (OpenSpec.upto fetchOfNothingSpec)

/-- 'seneschallaw12.FetchTells', WHERE WHAT IT READS IS OF BULK AT MOST 1048576: true; the input reads as it did. -/
def fetchTellsUptoRow : OpenClaim := { program := "ytechglhkcjgodaa", sum := "b43c46044372530080e5e474f88a32873b528bc448144bcf11bd8e8bf87810fb", func := "seneschal/seneschallaw12.FetchTells", spec := "fetchTells", unfollowed := true, recurses := true, plainKeys := false, apart := false, narrowed := true }
def FetchTellsUptoSaid : Prop := fetchTellsUptoRow.holds Try.pinned (OpenSpec.upto fetchTellsSpec)

/-- 'seneschallaw12.FetchEnds', WHERE WHAT IT READS IS OF BULK AT MOST 1048576: true; the input reads as it did. -/
def fetchEndsUptoRow : OpenClaim := { program := "ytechglhkcjgodaa", sum := "b43c46044372530080e5e474f88a32873b528bc448144bcf11bd8e8bf87810fb", func := "seneschal/seneschallaw12.FetchEnds", spec := "fetchEnds", unfollowed := true, recurses := true, plainKeys := false, apart := false, narrowed := true }
def FetchEndsUptoSaid : Prop := fetchEndsUptoRow.holds Try.pinned (OpenSpec.upto fetchEndsSpec)

/-- 'seneschallaw12.FetchEach', WHERE WHAT IT READS IS OF BULK AT MOST 1048576: true; the input reads as it did. -/
def fetchEachUptoRow : OpenClaim := { program := "ytechglhkcjgodaa", sum := "b43c46044372530080e5e474f88a32873b528bc448144bcf11bd8e8bf87810fb", func := "seneschal/seneschallaw12.FetchEach", spec := "fetchEach", unfollowed := true, recurses := true, plainKeys := false, apart := false, narrowed := true }
def FetchEachUptoSaid : Prop := fetchEachUptoRow.holds Try.pinned (OpenSpec.upto fetchEachSpec)

/-- 'seneschallaw12.FetchAny', WHERE WHAT IT READS IS OF BULK AT MOST 1048576: true; the input reads as it did. -/
def fetchAnyUptoRow : OpenClaim := { program := "ytechglhkcjgodaa", sum := "b43c46044372530080e5e474f88a32873b528bc448144bcf11bd8e8bf87810fb", func := "seneschal/seneschallaw12.FetchAny", spec := "fetchAny", unfollowed := true, recurses := true, plainKeys := false, apart := false, narrowed := true }
def FetchAnyUptoSaid : Prop := fetchAnyUptoRow.holds Try.pinned (OpenSpec.upto fetchAnySpec)

end Rows
end Go.Proofs.Ytechglhkcjgodaa
