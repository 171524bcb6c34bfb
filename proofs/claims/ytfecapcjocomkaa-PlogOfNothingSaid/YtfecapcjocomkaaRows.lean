/-
  No cell of these rows narrows 'for every input' (looked for: loops, veiled, ifaces, maps, wideKeys, modest, calm, conditions, laid).
  DERIVED. THE GIVEN ROWS OF THIS SEAT. 10 by the template 'for every input the law returns true; each argument reads behind the call as it read before'; 0 by the template 'total and deterministic' (their statements: YtfecapcjocomkaaTotals.lean).
  GIVEN WITH THE SEED: the statements are not yours to turn. If you find one false, say at which input.
  Laid BY PROGRAM, IN A SANDBOX (cutbox-rows.mjs): the forced cells as the released guide's own fill.sh prints them over the translation f71493e81b26d788… (all of the seat's roots in one cut). By AI agents, Wed Nov 11 2026. No macro, syntax, notation, axiom, sorry.
-/
import Derived.Test.YtfecapcjocomkaaChecked
import GoSem.Claim
import GoSem.ClaimJoined
import GoSem.ClaimMapViews
import Derived.JoinedTies
import Derived.KernelRfl
namespace Go.Proofs.Ytfecapcjocomkaa
/- THE CELL 'sum', in the pinned program and in every row, IS THE sha256 OF THE DUMP (.gsa) THAT YtfecapcjocomkaaProg.lean LOADS. Nothing in Lean hashes anything: it is a label: what it is worth is what the hold of that sum in a sandbox is worth. -/
noncomputable def Try.pinned : Pinned := { name := "ytfecapcjocomkaa", sum := "f71493e81b26d788d47ee618f00538719ac7401c8315d6586e6328756acc85c2", checked := Try.checked }
namespace Rows
def none {H : Type} : Left H := { results := [], args := [] }

/-- 'seneschallaw11.PlogErrs': WHATEVER THE INPUT: true; the input reads as it did. -/
def plogErrsSpec : ChangeSpec := { name := "plogErrs", fn := fun _ => fun
  | [d] => { results := [.lit (.bool true)], args := [d] }
  | _ => none }
def plogErrsRow : OpenClaim := { program := "ytfecapcjocomkaa", sum := "f71493e81b26d788d47ee618f00538719ac7401c8315d6586e6328756acc85c2", func := "seneschal/seneschallaw11.PlogErrs", spec := "plogErrs", unfollowed := true, recurses := true, apart := false }
def PlogErrsSaid : Prop := plogErrsRow.holds Try.pinned (OpenSpec.ofChange plogErrsSpec)

/-- ITS FALSE NEIGHBOUR: 'it returns false'. Refute it at one input. -/
def plogErrsWrong : ChangeSpec := { name := "plogErrs", fn := fun _ => fun
  | [d] => { results := [.lit (.bool false)], args := [d] }
  | _ => none }
def PlogErrsWrongFalsely : Prop := plogErrsRow.holds Try.pinned (OpenSpec.ofChange plogErrsWrong)

/-- 'seneschallaw11.PlogEnded': WHATEVER THE INPUT: true; the input reads as it did. -/
def plogEndedSpec : ChangeSpec := { name := "plogEnded", fn := fun _ => fun
  | [d1, d2] => { results := [.lit (.bool true)], args := [d1, d2] }
  | _ => none }
def plogEndedRow : OpenClaim := { program := "ytfecapcjocomkaa", sum := "f71493e81b26d788d47ee618f00538719ac7401c8315d6586e6328756acc85c2", func := "seneschal/seneschallaw11.PlogEnded", spec := "plogEnded", unfollowed := true, recurses := true, apart := false }
def PlogEndedSaid : Prop := plogEndedRow.holds Try.pinned (OpenSpec.ofChange plogEndedSpec)

/-- ITS FALSE NEIGHBOUR: 'it returns false'. Refute it at one input. -/
def plogEndedWrong : ChangeSpec := { name := "plogEnded", fn := fun _ => fun
  | [d1, d2] => { results := [.lit (.bool false)], args := [d1, d2] }
  | _ => none }
def PlogEndedWrongFalsely : Prop := plogEndedRow.holds Try.pinned (OpenSpec.ofChange plogEndedWrong)

/-- 'seneschallaw11.PlogGaps': WHATEVER THE INPUT: true; the input reads as it did. -/
def plogGapsSpec : ChangeSpec := { name := "plogGaps", fn := fun _ => fun
  | [d1, d2] => { results := [.lit (.bool true)], args := [d1, d2] }
  | _ => none }
def plogGapsRow : OpenClaim := { program := "ytfecapcjocomkaa", sum := "f71493e81b26d788d47ee618f00538719ac7401c8315d6586e6328756acc85c2", func := "seneschal/seneschallaw11.PlogGaps", spec := "plogGaps", unfollowed := true, recurses := true, apart := false }
def PlogGapsSaid : Prop := plogGapsRow.holds Try.pinned (OpenSpec.ofChange plogGapsSpec)

/-- ITS FALSE NEIGHBOUR: 'it returns false'. Refute it at one input. -/
def plogGapsWrong : ChangeSpec := { name := "plogGaps", fn := fun _ => fun
  | [d1, d2] => { results := [.lit (.bool false)], args := [d1, d2] }
  | _ => none }
def PlogGapsWrongFalsely : Prop := plogGapsRow.holds Try.pinned (OpenSpec.ofChange plogGapsWrong)

/-- 'seneschallaw11.PlogStable': WHATEVER THE INPUT: true; the input reads as it did. -/
def plogStableSpec : ChangeSpec := { name := "plogStable", fn := fun _ => fun
  | [d] => { results := [.lit (.bool true)], args := [d] }
  | _ => none }
def plogStableRow : OpenClaim := { program := "ytfecapcjocomkaa", sum := "f71493e81b26d788d47ee618f00538719ac7401c8315d6586e6328756acc85c2", func := "seneschal/seneschallaw11.PlogStable", spec := "plogStable", unfollowed := true, recurses := true, apart := false }
def PlogStableSaid : Prop := plogStableRow.holds Try.pinned (OpenSpec.ofChange plogStableSpec)

/-- ITS FALSE NEIGHBOUR: 'it returns false'. Refute it at one input. -/
def plogStableWrong : ChangeSpec := { name := "plogStable", fn := fun _ => fun
  | [d] => { results := [.lit (.bool false)], args := [d] }
  | _ => none }
def PlogStableWrongFalsely : Prop := plogStableRow.holds Try.pinned (OpenSpec.ofChange plogStableWrong)

/-- 'seneschallaw11.PlogFull': WHATEVER THE INPUT: true; the input reads as it did. -/
def plogFullSpec : ChangeSpec := { name := "plogFull", fn := fun _ => fun
  | [d1, d2] => { results := [.lit (.bool true)], args := [d1, d2] }
  | _ => none }
def plogFullRow : OpenClaim := { program := "ytfecapcjocomkaa", sum := "f71493e81b26d788d47ee618f00538719ac7401c8315d6586e6328756acc85c2", func := "seneschal/seneschallaw11.PlogFull", spec := "plogFull", unfollowed := true, recurses := true, apart := false }
def PlogFullSaid : Prop := plogFullRow.holds Try.pinned (OpenSpec.ofChange plogFullSpec)

/-- ITS FALSE NEIGHBOUR: 'it returns false'. Refute it at one input. -/
def plogFullWrong : ChangeSpec := { name := "plogFull", fn := fun _ => fun
  | [d1, d2] => { results := [.lit (.bool false)], args := [d1, d2] }
  | _ => none }
def PlogFullWrongFalsely : Prop := plogFullRow.holds Try.pinned (OpenSpec.ofChange plogFullWrong)

/-- 'seneschallaw11.PlogLearns': WHATEVER THE INPUT: true; the input reads as it did. -/
def plogLearnsSpec : ChangeSpec := { name := "plogLearns", fn := fun _ => fun
  | [d1, d2] => { results := [.lit (.bool true)], args := [d1, d2] }
  | _ => none }
def plogLearnsRow : OpenClaim := { program := "ytfecapcjocomkaa", sum := "f71493e81b26d788d47ee618f00538719ac7401c8315d6586e6328756acc85c2", func := "seneschal/seneschallaw11.PlogLearns", spec := "plogLearns", unfollowed := true, recurses := true, apart := false }
def PlogLearnsSaid : Prop := plogLearnsRow.holds Try.pinned (OpenSpec.ofChange plogLearnsSpec)

/-- ITS FALSE NEIGHBOUR: 'it returns false'. Refute it at one input. -/
def plogLearnsWrong : ChangeSpec := { name := "plogLearns", fn := fun _ => fun
  | [d1, d2] => { results := [.lit (.bool false)], args := [d1, d2] }
  | _ => none }
def PlogLearnsWrongFalsely : Prop := plogLearnsRow.holds Try.pinned (OpenSpec.ofChange plogLearnsWrong)

/-- 'seneschallaw11.PlogFrom': WHATEVER THE INPUT: true; the input reads as it did. -/
def plogFromSpec : ChangeSpec := { name := "plogFrom", fn := fun _ => fun
  | [d1, d2] => { results := [.lit (.bool true)], args := [d1, d2] }
  | _ => none }
def plogFromRow : OpenClaim := { program := "ytfecapcjocomkaa", sum := "f71493e81b26d788d47ee618f00538719ac7401c8315d6586e6328756acc85c2", func := "seneschal/seneschallaw11.PlogFrom", spec := "plogFrom", unfollowed := true, recurses := true, apart := false }
def PlogFromSaid : Prop := plogFromRow.holds Try.pinned (OpenSpec.ofChange plogFromSpec)

/-- ITS FALSE NEIGHBOUR: 'it returns false'. Refute it at one input. -/
def plogFromWrong : ChangeSpec := { name := "plogFrom", fn := fun _ => fun
  | [d1, d2] => { results := [.lit (.bool false)], args := [d1, d2] }
  | _ => none }
def PlogFromWrongFalsely : Prop := plogFromRow.holds Try.pinned (OpenSpec.ofChange plogFromWrong)

/-- 'seneschallaw11.PlogPlays': WHATEVER THE INPUT: true; the input reads as it did. -/
def plogPlaysSpec : ChangeSpec := { name := "plogPlays", fn := fun _ => fun
  | [d] => { results := [.lit (.bool true)], args := [d] }
  | _ => none }
def plogPlaysRow : OpenClaim := { program := "ytfecapcjocomkaa", sum := "f71493e81b26d788d47ee618f00538719ac7401c8315d6586e6328756acc85c2", func := "seneschal/seneschallaw11.PlogPlays", spec := "plogPlays", unfollowed := true, recurses := true, apart := false }
def PlogPlaysSaid : Prop := plogPlaysRow.holds Try.pinned (OpenSpec.ofChange plogPlaysSpec)

/-- ITS FALSE NEIGHBOUR: 'it returns false'. Refute it at one input. -/
def plogPlaysWrong : ChangeSpec := { name := "plogPlays", fn := fun _ => fun
  | [d] => { results := [.lit (.bool false)], args := [d] }
  | _ => none }
def PlogPlaysWrongFalsely : Prop := plogPlaysRow.holds Try.pinned (OpenSpec.ofChange plogPlaysWrong)

/-- 'seneschallaw11.PlogOnce': WHATEVER THE INPUT: true; the input reads as it did. -/
def plogOnceSpec : ChangeSpec := { name := "plogOnce", fn := fun _ => fun
  | [d1, d2] => { results := [.lit (.bool true)], args := [d1, d2] }
  | _ => none }
def plogOnceRow : OpenClaim := { program := "ytfecapcjocomkaa", sum := "f71493e81b26d788d47ee618f00538719ac7401c8315d6586e6328756acc85c2", func := "seneschal/seneschallaw11.PlogOnce", spec := "plogOnce", unfollowed := true, recurses := true, apart := false }
def PlogOnceSaid : Prop := plogOnceRow.holds Try.pinned (OpenSpec.ofChange plogOnceSpec)

/-- ITS FALSE NEIGHBOUR: 'it returns false'. Refute it at one input. -/
def plogOnceWrong : ChangeSpec := { name := "plogOnce", fn := fun _ => fun
  | [d1, d2] => { results := [.lit (.bool false)], args := [d1, d2] }
  | _ => none }
def PlogOnceWrongFalsely : Prop := plogOnceRow.holds Try.pinned (OpenSpec.ofChange plogOnceWrong)

/-- 'seneschallaw11.PlogOfNothing': WHATEVER THE INPUT: true; the input reads as it did. -/
def plogOfNothingSpec : ChangeSpec := { name := "plogOfNothing", fn := fun _ => fun
  | [d] => { results := [.lit (.bool true)], args := [d] }
  | _ => none }
def plogOfNothingRow : OpenClaim := { program := "ytfecapcjocomkaa", sum := "f71493e81b26d788d47ee618f00538719ac7401c8315d6586e6328756acc85c2", func := "seneschal/seneschallaw11.PlogOfNothing", spec := "plogOfNothing", unfollowed := true, recurses := true, apart := false }
def PlogOfNothingSaid : Prop := plogOfNothingRow.holds Try.pinned (OpenSpec.ofChange plogOfNothingSpec)

/-- ITS FALSE NEIGHBOUR: 'it returns false'. Refute it at one input. -/
def plogOfNothingWrong : ChangeSpec := { name := "plogOfNothing", fn := fun _ => fun
  | [d] => { results := [.lit (.bool false)], args := [d] }
  | _ => none }
def PlogOfNothingWrongFalsely : Prop := plogOfNothingRow.holds Try.pinned (OpenSpec.ofChange plogOfNothingWrong)

/- THE SECOND FORM. 'bulk': how many values and letters a reading holds, each counted each time it is reached (what is shared counts as often as it is met; a slice's spare places count too). A statement '..UptoSaid' is the law's where the arguments, and the package variables that the reading takes, are together of bulk at most 1048576: NARROWER than '..Said'. Prove '..Said' where nothing that the law and all that it calls make is longer than what came in: it says more and counts as full. Else prove '..UptoSaid'. A law counts once. -/
mutual
def uptoBulk {H : Type} : DataW H → Nat
  | .lit (.string bytes) => bytes.length + 1
  | .lit _ => 1
  | .nil => 1
  | .ptr d => uptoBulk d + 1
  | .slice elems spare => uptoBulkAll elems + uptoBulkAll spare + 1
  | .agg parts => uptoBulkAll parts + 1
  | .iface _ d => uptoBulk d + 1
  | .map entries => uptoBulkEntries entries + 1
  | .held _ => 1
def uptoBulkAll {H : Type} : List (DataW H) → Nat
  | [] => 0
  | d :: r => uptoBulk d + uptoBulkAll r
def uptoBulkEntries {H : Type} : List (Lit × DataW H) → Nat
  | [] => 0
  | x :: r => uptoBulkEntry x + uptoBulkEntries r
def uptoBulkEntry {H : Type} : Lit × DataW H → Nat
  | (.string bytes, d) => bytes.length + uptoBulk d + 1
  | (_, d) => uptoBulk d + 1
 end
def uptoSmall : (H : Type) → List (DataW H) → Bool := fun _ ds => decide (uptoBulkAll ds ≤ 1048576)
def OpenSpec.upto (s : _root_.Go.ChangeSpec) : _root_.Go.OpenSpec := { _root_.Go.OpenSpec.ofChange s with cond := some uptoSmall }

/-- 'seneschallaw11.PlogErrs', WHERE WHAT IT READS IS OF BULK AT MOST 1048576: true; the input reads as it did. -/
def plogErrsUptoRow : OpenClaim := { program := "ytfecapcjocomkaa", sum := "f71493e81b26d788d47ee618f00538719ac7401c8315d6586e6328756acc85c2", func := "seneschal/seneschallaw11.PlogErrs", spec := "plogErrs", unfollowed := true, recurses := true, apart := false, narrowed := true }
def PlogErrsUptoSaid : Prop := plogErrsUptoRow.holds Try.pinned (OpenSpec.upto plogErrsSpec)

/-- 'seneschallaw11.PlogEnded', WHERE WHAT IT READS IS OF BULK AT MOST 1048576: true; the input reads as it did. -/
def plogEndedUptoRow : OpenClaim := { program := "ytfecapcjocomkaa", sum := "f71493e81b26d788d47ee618f00538719ac7401c8315d6586e6328756acc85c2", func := "seneschal/seneschallaw11.PlogEnded", spec := "plogEnded", unfollowed := true, recurses := true, apart := false, narrowed := true }
def PlogEndedUptoSaid : Prop := plogEndedUptoRow.holds Try.pinned (OpenSpec.upto plogEndedSpec)

/-- 'seneschallaw11.PlogGaps', WHERE WHAT IT READS IS OF BULK AT MOST 1048576: true; the input reads as it did. -/
def plogGapsUptoRow : OpenClaim := { program := "ytfecapcjocomkaa", sum := "f71493e81b26d788d47ee618f00538719ac7401c8315d6586e6328756acc85c2", func := "seneschal/seneschallaw11.PlogGaps", spec := "plogGaps", unfollowed := true, recurses := true, apart := false, narrowed := true }
def PlogGapsUptoSaid : Prop := plogGapsUptoRow.holds Try.pinned (OpenSpec.upto plogGapsSpec)

/-- 'seneschallaw11.PlogStable', WHERE WHAT IT READS IS OF BULK AT MOST 1048576: true; the input reads as it did. -/
def plogStableUptoRow : OpenClaim := { program := "ytfecapcjocomkaa", sum := "f71493e81b26d788d47ee618f00538719ac7401c8315d6586e6328756acc85c2", func := "seneschal/seneschallaw11.PlogStable", spec := "plogStable", unfollowed := true, recurses := true, apart := false, narrowed := true }
def PlogStableUptoSaid : Prop := plogStableUptoRow.holds Try.pinned (OpenSpec.upto plogStableSpec)

/-- 'seneschallaw11.PlogFull', WHERE WHAT IT READS IS OF BULK AT MOST 1048576: true; the input reads as it did. -/
def plogFullUptoRow : OpenClaim := { program := "ytfecapcjocomkaa", sum := "f71493e81b26d788d47ee618f00538719ac7401c8315d6586e6328756acc85c2", func := "seneschal/seneschallaw11.PlogFull", spec := "plogFull", unfollowed := true, recurses := true, apart := false, narrowed := true }
def PlogFullUptoSaid : Prop := plogFullUptoRow.holds Try.pinned (OpenSpec.upto plogFullSpec)

/-- 'seneschallaw11.PlogLearns', WHERE WHAT IT READS IS OF BULK AT MOST 1048576: true; the input reads as it did. -/
def plogLearnsUptoRow : OpenClaim := { program := "ytfecapcjocomkaa", sum := "f71493e81b26d788d47ee618f00538719ac7401c8315d6586e6328756acc85c2", func := "seneschal/seneschallaw11.PlogLearns", spec := "plogLearns", unfollowed := true, recurses := true, apart := false, narrowed := true }
def PlogLearnsUptoSaid : Prop := plogLearnsUptoRow.holds Try.pinned (OpenSpec.upto plogLearnsSpec)

/-- 'seneschallaw11.PlogFrom', WHERE WHAT IT READS IS OF BULK AT MOST 1048576: true; the input reads as it did. -/
def plogFromUptoRow : OpenClaim := { program := "ytfecapcjocomkaa", sum := "f71493e81b26d788d47ee618f00538719ac7401c8315d6586e6328756acc85c2", func := "seneschal/seneschallaw11.PlogFrom", spec := "plogFrom", unfollowed := true, recurses := true, apart := false, narrowed := true }
def PlogFromUptoSaid : Prop := plogFromUptoRow.holds Try.pinned (OpenSpec.upto plogFromSpec)

/-- 'seneschallaw11.PlogPlays', WHERE WHAT IT READS IS OF BULK AT MOST 1048576: true; the input reads as it did. -/
def plogPlaysUptoRow : OpenClaim := { program := "ytfecapcjocomkaa", sum := "f71493e81b26d788d47ee618f00538719ac7401c8315d6586e6328756acc85c2", func := "seneschal/seneschallaw11.PlogPlays", spec := "plogPlays", unfollowed := true, recurses := true, apart := false, narrowed := true }
def PlogPlaysUptoSaid : Prop := plogPlaysUptoRow.holds Try.pinned (OpenSpec.upto plogPlaysSpec)

/-- 'seneschallaw11.PlogOnce', WHERE WHAT IT READS IS OF BULK AT MOST 1048576: true; the input reads as it did. -/
def plogOnceUptoRow : OpenClaim := { program := "ytfecapcjocomkaa", sum := "f71493e81b26d788d47ee618f00538719ac7401c8315d6586e6328756acc85c2", func := "seneschal/seneschallaw11.PlogOnce", spec := "plogOnce", unfollowed := true, recurses := true, apart := false, narrowed := true }
def PlogOnceUptoSaid : Prop := plogOnceUptoRow.holds Try.pinned (OpenSpec.upto plogOnceSpec)

/-- 'seneschallaw11.PlogOfNothing', WHERE WHAT IT READS IS OF BULK AT MOST 1048576: true; the input reads as it did. -/
def plogOfNothingUptoRow : OpenClaim := { program := "ytfecapcjocomkaa", sum := "f71493e81b26d788d47ee618f00538719ac7401c8315d6586e6328756acc85c2", func := "seneschal/seneschallaw11.PlogOfNothing", spec := "plogOfNothing", unfollowed := true, recurses := true, apart := false, narrowed := true }
def PlogOfNothingUptoSaid : Prop := plogOfNothingUptoRow.holds Try.pinned (OpenSpec.upto plogOfNothingSpec)

end Rows
end Go.Proofs.Ytfecapcjocomkaa
