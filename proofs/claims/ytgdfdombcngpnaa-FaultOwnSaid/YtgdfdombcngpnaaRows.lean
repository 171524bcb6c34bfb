/-
  No cell of these rows narrows 'for every input' (looked for: loops, veiled, ifaces, maps, wideKeys, modest, calm, conditions, laid).
  DERIVED. THE GIVEN ROWS OF THIS SEAT. 12 by the template 'for every input the law returns true; each argument reads behind the call as it read before'; 0 by the template 'total and deterministic' (their statements: YtgdfdombcngpnaaTotals.lean).
  GIVEN WITH THE SEED: the statements are not yours to turn. If you find one false, say at which input.
  Laid BY PROGRAM, IN A SANDBOX (cutbox-rows.mjs): the forced cells as the released guide's own fill.sh prints them over the translation 10e8c5b77f0630f2… (all of the seat's roots in one cut). By AI agents, Wed Nov 11 2026. No macro, syntax, notation, axiom, sorry.
-/
import Derived.Test.YtgdfdombcngpnaaChecked
import GoSem.Claim
import GoSem.ClaimJoined
import GoSem.ClaimMapViews
import Derived.JoinedTies
import Derived.KernelRfl
namespace Go.Proofs.Ytgdfdombcngpnaa
/- THE CELL 'sum', in the pinned program and in every row, IS THE sha256 OF THE DUMP (.gsa) THAT YtgdfdombcngpnaaProg.lean LOADS. Nothing in Lean hashes anything: it is a label: what it is worth is what the hold of that sum in a sandbox is worth. -/
noncomputable def Try.pinned : Pinned := { name := "ytgdfdombcngpnaa", sum := "10e8c5b77f0630f21f6981dee214443c9af0c62f518b76503613f33d2a9e0675", checked := Try.checked }
namespace Rows
def none {H : Type} : Left H := { results := [], args := [] }

/-- 'seneschallaw17.FaultMakes': WHATEVER THE INPUT: true; the input reads as it did. -/
def faultMakesSpec : ChangeSpec := { name := "faultMakes", fn := fun _ => fun
  | [d1, d2, d3] => { results := [.lit (.bool true)], args := [d1, d2, d3] }
  | _ => none }
def faultMakesRow : OpenClaim := { program := "ytgdfdombcngpnaa", sum := "10e8c5b77f0630f21f6981dee214443c9af0c62f518b76503613f33d2a9e0675", func := "seneschal/seneschallaw17.FaultMakes", spec := "faultMakes", unfollowed := true, recurses := true, apart := false }
def FaultMakesSaid : Prop := faultMakesRow.holds Try.pinned (OpenSpec.ofChange faultMakesSpec)

/-- ITS FALSE NEIGHBOUR: 'it returns false'. Refute it at one input. -/
def faultMakesWrong : ChangeSpec := { name := "faultMakes", fn := fun _ => fun
  | [d1, d2, d3] => { results := [.lit (.bool false)], args := [d1, d2, d3] }
  | _ => none }
def FaultMakesWrongFalsely : Prop := faultMakesRow.holds Try.pinned (OpenSpec.ofChange faultMakesWrong)

/-- 'seneschallaw17.FaultOwn': WHATEVER THE INPUT: true; the input reads as it did. -/
def faultOwnSpec : ChangeSpec := { name := "faultOwn", fn := fun _ => fun
  | [d1, d2, d3] => { results := [.lit (.bool true)], args := [d1, d2, d3] }
  | _ => none }
def faultOwnRow : OpenClaim := { program := "ytgdfdombcngpnaa", sum := "10e8c5b77f0630f21f6981dee214443c9af0c62f518b76503613f33d2a9e0675", func := "seneschal/seneschallaw17.FaultOwn", spec := "faultOwn", unfollowed := true, recurses := true, apart := false }
def FaultOwnSaid : Prop := faultOwnRow.holds Try.pinned (OpenSpec.ofChange faultOwnSpec)

/-- ITS FALSE NEIGHBOUR: 'it returns false'. Refute it at one input. -/
def faultOwnWrong : ChangeSpec := { name := "faultOwn", fn := fun _ => fun
  | [d1, d2, d3] => { results := [.lit (.bool false)], args := [d1, d2, d3] }
  | _ => none }
def FaultOwnWrongFalsely : Prop := faultOwnRow.holds Try.pinned (OpenSpec.ofChange faultOwnWrong)

/-- 'seneschallaw17.FaultVotes': WHATEVER THE INPUT: true; the input reads as it did. -/
def faultVotesSpec : ChangeSpec := { name := "faultVotes", fn := fun _ => fun
  | [d1, d2, d3, d4, d5] => { results := [.lit (.bool true)], args := [d1, d2, d3, d4, d5] }
  | _ => none }
def faultVotesRow : OpenClaim := { program := "ytgdfdombcngpnaa", sum := "10e8c5b77f0630f21f6981dee214443c9af0c62f518b76503613f33d2a9e0675", func := "seneschal/seneschallaw17.FaultVotes", spec := "faultVotes", unfollowed := true, recurses := true, apart := false }
def FaultVotesSaid : Prop := faultVotesRow.holds Try.pinned (OpenSpec.ofChange faultVotesSpec)

/-- ITS FALSE NEIGHBOUR: 'it returns false'. Refute it at one input. -/
def faultVotesWrong : ChangeSpec := { name := "faultVotes", fn := fun _ => fun
  | [d1, d2, d3, d4, d5] => { results := [.lit (.bool false)], args := [d1, d2, d3, d4, d5] }
  | _ => none }
def FaultVotesWrongFalsely : Prop := faultVotesRow.holds Try.pinned (OpenSpec.ofChange faultVotesWrong)

/-- 'seneschallaw17.FaultBounds': WHATEVER THE INPUT: true; the input reads as it did. -/
def faultBoundsSpec : ChangeSpec := { name := "faultBounds", fn := fun _ => fun
  | [d1, d2, d3, d4, d5] => { results := [.lit (.bool true)], args := [d1, d2, d3, d4, d5] }
  | _ => none }
def faultBoundsRow : OpenClaim := { program := "ytgdfdombcngpnaa", sum := "10e8c5b77f0630f21f6981dee214443c9af0c62f518b76503613f33d2a9e0675", func := "seneschal/seneschallaw17.FaultBounds", spec := "faultBounds", unfollowed := true, recurses := true, apart := false }
def FaultBoundsSaid : Prop := faultBoundsRow.holds Try.pinned (OpenSpec.ofChange faultBoundsSpec)

/-- ITS FALSE NEIGHBOUR: 'it returns false'. Refute it at one input. -/
def faultBoundsWrong : ChangeSpec := { name := "faultBounds", fn := fun _ => fun
  | [d1, d2, d3, d4, d5] => { results := [.lit (.bool false)], args := [d1, d2, d3, d4, d5] }
  | _ => none }
def FaultBoundsWrongFalsely : Prop := faultBoundsRow.holds Try.pinned (OpenSpec.ofChange faultBoundsWrong)

/-- 'seneschallaw6.CertTells': WHATEVER THE INPUT: true; the input reads as it did. -/
def certTellsSpec : ChangeSpec := { name := "certTells", fn := fun _ => fun
  | [d1, d2, d3] => { results := [.lit (.bool true)], args := [d1, d2, d3] }
  | _ => none }
def certTellsRow : OpenClaim := { program := "ytgdfdombcngpnaa", sum := "10e8c5b77f0630f21f6981dee214443c9af0c62f518b76503613f33d2a9e0675", func := "seneschal/seneschallaw6.CertTells", spec := "certTells", unfollowed := true, recurses := true, apart := false }
def CertTellsSaid : Prop := certTellsRow.holds Try.pinned (OpenSpec.ofChange certTellsSpec)

/-- ITS FALSE NEIGHBOUR: 'it returns false'. Refute it at one input. -/
def certTellsWrong : ChangeSpec := { name := "certTells", fn := fun _ => fun
  | [d1, d2, d3] => { results := [.lit (.bool false)], args := [d1, d2, d3] }
  | _ => none }
def CertTellsWrongFalsely : Prop := certTellsRow.holds Try.pinned (OpenSpec.ofChange certTellsWrong)

/-- 'seneschallaw6.CertCounts': WHATEVER THE INPUT: true; the input reads as it did. -/
def certCountsSpec : ChangeSpec := { name := "certCounts", fn := fun _ => fun
  | [d1, d2, d3] => { results := [.lit (.bool true)], args := [d1, d2, d3] }
  | _ => none }
def certCountsRow : OpenClaim := { program := "ytgdfdombcngpnaa", sum := "10e8c5b77f0630f21f6981dee214443c9af0c62f518b76503613f33d2a9e0675", func := "seneschal/seneschallaw6.CertCounts", spec := "certCounts", unfollowed := true, recurses := true, apart := false }
def CertCountsSaid : Prop := certCountsRow.holds Try.pinned (OpenSpec.ofChange certCountsSpec)

/-- ITS FALSE NEIGHBOUR: 'it returns false'. Refute it at one input. -/
def certCountsWrong : ChangeSpec := { name := "certCounts", fn := fun _ => fun
  | [d1, d2, d3] => { results := [.lit (.bool false)], args := [d1, d2, d3] }
  | _ => none }
def CertCountsWrongFalsely : Prop := certCountsRow.holds Try.pinned (OpenSpec.ofChange certCountsWrong)

/-- 'seneschallaw6.CertOfNothing': WHATEVER THE INPUT: true; the input reads as it did. -/
def certOfNothingSpec : ChangeSpec := { name := "certOfNothing", fn := fun _ => fun
  | [d1, d2] => { results := [.lit (.bool true)], args := [d1, d2] }
  | _ => none }
def certOfNothingRow : OpenClaim := { program := "ytgdfdombcngpnaa", sum := "10e8c5b77f0630f21f6981dee214443c9af0c62f518b76503613f33d2a9e0675", func := "seneschal/seneschallaw6.CertOfNothing", spec := "certOfNothing", unfollowed := true, recurses := true, apart := false }
def CertOfNothingSaid : Prop := certOfNothingRow.holds Try.pinned (OpenSpec.ofChange certOfNothingSpec)

/-- ITS FALSE NEIGHBOUR: 'it returns false'. Refute it at one input. -/
def certOfNothingWrong : ChangeSpec := { name := "certOfNothing", fn := fun _ => fun
  | [d1, d2] => { results := [.lit (.bool false)], args := [d1, d2] }
  | _ => none }
def CertOfNothingWrongFalsely : Prop := certOfNothingRow.holds Try.pinned (OpenSpec.ofChange certOfNothingWrong)

/-- 'seneschallaw6.CertTurned': WHATEVER THE INPUT: true; the input reads as it did. -/
def certTurnedSpec : ChangeSpec := { name := "certTurned", fn := fun _ => fun
  | [d1, d2] => { results := [.lit (.bool true)], args := [d1, d2] }
  | _ => none }
def certTurnedRow : OpenClaim := { program := "ytgdfdombcngpnaa", sum := "10e8c5b77f0630f21f6981dee214443c9af0c62f518b76503613f33d2a9e0675", func := "seneschal/seneschallaw6.CertTurned", spec := "certTurned", unfollowed := true, recurses := true, apart := false }
def CertTurnedSaid : Prop := certTurnedRow.holds Try.pinned (OpenSpec.ofChange certTurnedSpec)

/-- ITS FALSE NEIGHBOUR: 'it returns false'. Refute it at one input. -/
def certTurnedWrong : ChangeSpec := { name := "certTurned", fn := fun _ => fun
  | [d1, d2] => { results := [.lit (.bool false)], args := [d1, d2] }
  | _ => none }
def CertTurnedWrongFalsely : Prop := certTurnedRow.holds Try.pinned (OpenSpec.ofChange certTurnedWrong)

/-- 'seneschallaw6.CertOrder': WHATEVER THE INPUT: true; the input reads as it did. -/
def certOrderSpec : ChangeSpec := { name := "certOrder", fn := fun _ => fun
  | [d1, d2] => { results := [.lit (.bool true)], args := [d1, d2] }
  | _ => none }
def certOrderRow : OpenClaim := { program := "ytgdfdombcngpnaa", sum := "10e8c5b77f0630f21f6981dee214443c9af0c62f518b76503613f33d2a9e0675", func := "seneschal/seneschallaw6.CertOrder", spec := "certOrder", unfollowed := true, recurses := true, apart := false }
def CertOrderSaid : Prop := certOrderRow.holds Try.pinned (OpenSpec.ofChange certOrderSpec)

/-- ITS FALSE NEIGHBOUR: 'it returns false'. Refute it at one input. -/
def certOrderWrong : ChangeSpec := { name := "certOrder", fn := fun _ => fun
  | [d1, d2] => { results := [.lit (.bool false)], args := [d1, d2] }
  | _ => none }
def CertOrderWrongFalsely : Prop := certOrderRow.holds Try.pinned (OpenSpec.ofChange certOrderWrong)

/-- 'seneschallaw6.CertMarks': WHATEVER THE INPUT: true; the input reads as it did. -/
def certMarksSpec : ChangeSpec := { name := "certMarks", fn := fun _ => fun
  | [d1, d2, d3, d4] => { results := [.lit (.bool true)], args := [d1, d2, d3, d4] }
  | _ => none }
def certMarksRow : OpenClaim := { program := "ytgdfdombcngpnaa", sum := "10e8c5b77f0630f21f6981dee214443c9af0c62f518b76503613f33d2a9e0675", func := "seneschal/seneschallaw6.CertMarks", spec := "certMarks", unfollowed := true, recurses := true, apart := false }
def CertMarksSaid : Prop := certMarksRow.holds Try.pinned (OpenSpec.ofChange certMarksSpec)

/-- ITS FALSE NEIGHBOUR: 'it returns false'. Refute it at one input. -/
def certMarksWrong : ChangeSpec := { name := "certMarks", fn := fun _ => fun
  | [d1, d2, d3, d4] => { results := [.lit (.bool false)], args := [d1, d2, d3, d4] }
  | _ => none }
def CertMarksWrongFalsely : Prop := certMarksRow.holds Try.pinned (OpenSpec.ofChange certMarksWrong)

/-- 'seneschallaw6.CertAccepts': WHATEVER THE INPUT: true; the input reads as it did. -/
def certAcceptsSpec : ChangeSpec := { name := "certAccepts", fn := fun _ => fun
  | [d1, d2, d3] => { results := [.lit (.bool true)], args := [d1, d2, d3] }
  | _ => none }
def certAcceptsRow : OpenClaim := { program := "ytgdfdombcngpnaa", sum := "10e8c5b77f0630f21f6981dee214443c9af0c62f518b76503613f33d2a9e0675", func := "seneschal/seneschallaw6.CertAccepts", spec := "certAccepts", unfollowed := true, recurses := true, apart := false }
def CertAcceptsSaid : Prop := certAcceptsRow.holds Try.pinned (OpenSpec.ofChange certAcceptsSpec)

/-- ITS FALSE NEIGHBOUR: 'it returns false'. Refute it at one input. -/
def certAcceptsWrong : ChangeSpec := { name := "certAccepts", fn := fun _ => fun
  | [d1, d2, d3] => { results := [.lit (.bool false)], args := [d1, d2, d3] }
  | _ => none }
def CertAcceptsWrongFalsely : Prop := certAcceptsRow.holds Try.pinned (OpenSpec.ofChange certAcceptsWrong)

/-- 'seneschallaw6.CertNoMark': WHATEVER THE INPUT: true; the input reads as it did. -/
def certNoMarkSpec : ChangeSpec := { name := "certNoMark", fn := fun _ => fun
  | [d1, d2] => { results := [.lit (.bool true)], args := [d1, d2] }
  | _ => none }
def certNoMarkRow : OpenClaim := { program := "ytgdfdombcngpnaa", sum := "10e8c5b77f0630f21f6981dee214443c9af0c62f518b76503613f33d2a9e0675", func := "seneschal/seneschallaw6.CertNoMark", spec := "certNoMark", unfollowed := true, recurses := true, apart := false }
def CertNoMarkSaid : Prop := certNoMarkRow.holds Try.pinned (OpenSpec.ofChange certNoMarkSpec)

/-- ITS FALSE NEIGHBOUR: 'it returns false'. Refute it at one input. -/
def certNoMarkWrong : ChangeSpec := { name := "certNoMark", fn := fun _ => fun
  | [d1, d2] => { results := [.lit (.bool false)], args := [d1, d2] }
  | _ => none }
def CertNoMarkWrongFalsely : Prop := certNoMarkRow.holds Try.pinned (OpenSpec.ofChange certNoMarkWrong)

/- THE SECOND FORM. 'bulk': how many values and letters a reading holds, each counted each time it is reached (what is shared counts as often as it is met; a slice's spare places count too). A statement '..UptoSaid' is the law's where the arguments, and the package variables that the reading takes, are together of bulk at most 1048576: NARROWER than '..Said'. Prove '..Said' where nothing that the law and all that it calls make is longer than what came in: it says more and counts as full. Else prove '..UptoSaid'. A law counts once. -/
mutual
def uptoBulk {H : Type} : DataW H → Nat
  | .lit (.string bytes) => bytes.length + 1
  | .lit _ => 1
  | .nil => 1
  | .ptr d => uptoBulk d + 1
  | .slice elems spare => uptoBulkAll elems + uptoBulkAll spare + 1
  | .agg parts => uptoBulkAll parts + 1
  | .iface _ d => uptoBulk d + 1
  | .map entries => uptoBulkEntries entries + 1
  | .held _ => 1
def uptoBulkAll {H : Type} : List (DataW H) → Nat
  | [] => 0
  | d :: r => uptoBulk d + uptoBulkAll r
def uptoBulkEntries {H : Type} : List (Lit × DataW H) → Nat
  | [] => 0
  | x :: r => uptoBulkEntry x + uptoBulkEntries r
def uptoBulkEntry {H : Type} : Lit × DataW H → Nat
  | (.string bytes, d) => bytes.length + uptoBulk d + 1
  | (_, d) => uptoBulk d + 1
 end
def uptoSmall : (H : Type) → List (DataW H) → Bool := fun _ ds => decide (uptoBulkAll ds ≤ 1048576)
def OpenSpec.upto (s : _root_.Go.ChangeSpec) : _root_.Go.OpenSpec := { _root_.Go.OpenSpec.ofChange s with cond := some uptoSmall }

/-- 'seneschallaw17.FaultMakes', WHERE WHAT IT READS IS OF BULK AT MOST 1048576: true; the input reads as it did. -/
def faultMakesUptoRow : OpenClaim := { program := "ytgdfdombcngpnaa", sum := "10e8c5b77f0630f21f6981dee214443c9af0c62f518b76503613f33d2a9e0675", func := "seneschal/seneschallaw17.FaultMakes", spec := "faultMakes", unfollowed := true, recurses := true, apart := false, narrowed := true }
def FaultMakesUptoSaid : Prop := faultMakesUptoRow.holds Try.pinned (OpenSpec.upto faultMakesSpec)

/-- 'seneschallaw17.FaultOwn', WHERE WHAT IT READS IS OF BULK AT MOST 1048576: true; the input reads as it did. -/
def faultOwnUptoRow : OpenClaim := { program := "ytgdfdombcngpnaa", sum := "10e8c5b77f0630f21f6981dee214443c9af0c62f518b76503613f33d2a9e0675", func := "seneschal/seneschallaw17.FaultOwn", spec := "faultOwn", unfollowed := true, recurses := true, apart := false, narrowed := true }
def FaultOwnUptoSaid : Prop := faultOwnUptoRow.holds Try.pinned (OpenSpec.upto faultOwnSpec)

/-- 'seneschallaw17.FaultVotes', WHERE WHAT IT READS IS OF BULK AT MOST 1048576: true; the input reads as it did. -/
def faultVotesUptoRow : OpenClaim := { program := "ytgdfdombcngpnaa", sum := "10e8c5b77f0630f21f6981dee214443c9af0c62f518b76503613f33d2a9e0675", func := "seneschal/seneschallaw17.FaultVotes", spec := "faultVotes", unfollowed := true, recurses := true, apart := false, narrowed := true }
def FaultVotesUptoSaid : Prop := faultVotesUptoRow.holds Try.pinned (OpenSpec.upto faultVotesSpec)

/-- 'seneschallaw17.FaultBounds', WHERE WHAT IT READS IS OF BULK AT MOST 1048576: true; the input reads as it did. -/
def faultBoundsUptoRow : OpenClaim := { program := "ytgdfdombcngpnaa", sum := "10e8c5b77f0630f21f6981dee214443c9af0c62f518b76503613f33d2a9e0675", func := "seneschal/seneschallaw17.FaultBounds", spec := "faultBounds", unfollowed := true, recurses := true, apart := false, narrowed := true }
def FaultBoundsUptoSaid : Prop := faultBoundsUptoRow.holds Try.pinned (OpenSpec.upto faultBoundsSpec)

/-- 'seneschallaw6.CertTells', WHERE WHAT IT READS IS OF BULK AT MOST 1048576: true; the input reads as it did. -/
def certTellsUptoRow : OpenClaim := { program := "ytgdfdombcngpnaa", sum := "10e8c5b77f0630f21f6981dee214443c9af0c62f518b76503613f33d2a9e0675", func := "seneschal/seneschallaw6.CertTells", spec := "certTells", unfollowed := true, recurses := true, apart := false, narrowed := true }
def CertTellsUptoSaid : Prop := certTellsUptoRow.holds Try.pinned (OpenSpec.upto certTellsSpec)

/-- 'seneschallaw6.CertCounts', WHERE WHAT IT READS IS OF BULK AT MOST 1048576: true; the input reads as it did. -/
def certCountsUptoRow : OpenClaim := { program := "ytgdfdombcngpnaa", sum := "10e8c5b77f0630f21f6981dee214443c9af0c62f518b76503613f33d2a9e0675", func := "seneschal/seneschallaw6.CertCounts", spec := "certCounts", unfollowed := true, recurses := true, apart := false, narrowed := true }
def CertCountsUptoSaid : Prop := certCountsUptoRow.holds Try.pinned (OpenSpec.upto certCountsSpec)

/-- 'seneschallaw6.CertOfNothing', WHERE WHAT IT READS IS OF BULK AT MOST 1048576: true; the input reads as it did. -/
def certOfNothingUptoRow : OpenClaim := { program := "ytgdfdombcngpnaa", sum := "10e8c5b77f0630f21f6981dee214443c9af0c62f518b76503613f33d2a9e0675", func := "seneschal/seneschallaw6.CertOfNothing", spec := "certOfNothing", unfollowed := true, recurses := true, apart := false, narrowed := true }
def CertOfNothingUptoSaid : Prop := certOfNothingUptoRow.holds Try.pinned (OpenSpec.upto certOfNothingSpec)

/-- 'seneschallaw6.CertTurned', WHERE WHAT IT READS IS OF BULK AT MOST 1048576: true; the input reads as it did. -/
def certTurnedUptoRow : OpenClaim := { program := "ytgdfdombcngpnaa", sum := "10e8c5b77f0630f21f6981dee214443c9af0c62f518b76503613f33d2a9e0675", func := "seneschal/seneschallaw6.CertTurned", spec := "certTurned", unfollowed := true, recurses := true, apart := false, narrowed := true }
def CertTurnedUptoSaid : Prop := certTurnedUptoRow.holds Try.pinned (OpenSpec.upto certTurnedSpec)

/-- 'seneschallaw6.CertOrder', WHERE WHAT IT READS IS OF BULK AT MOST 1048576: true; the input reads as it did. -/
def certOrderUptoRow : OpenClaim := { program := "ytgdfdombcngpnaa", sum := "10e8c5b77f0630f21f6981dee214443c9af0c62f518b76503613f33d2a9e0675", func := "seneschal/seneschallaw6.CertOrder", spec := "certOrder", unfollowed := true, recurses := true, apart := false, narrowed := true }
def CertOrderUptoSaid : Prop := certOrderUptoRow.holds Try.pinned (OpenSpec.upto certOrderSpec)

/-- 'seneschallaw6.CertMarks', WHERE WHAT IT READS IS OF BULK AT MOST 1048576: true; the input reads as it did. -/
def certMarksUptoRow : OpenClaim := { program := "ytgdfdombcngpnaa", sum := "10e8c5b77f0630f21f6981dee214443c9af0c62f518b76503613f33d2a9e0675", func := "seneschal/seneschallaw6.CertMarks", spec := "certMarks", unfollowed := true, recurses := true, apart := false, narrowed := true }
def CertMarksUptoSaid : Prop := certMarksUptoRow.holds Try.pinned (OpenSpec.upto certMarksSpec)

/-- 'seneschallaw6.CertAccepts', WHERE WHAT IT READS IS OF BULK AT MOST 1048576: true; the input reads as it did. -/
def certAcceptsUptoRow : OpenClaim := { program := "ytgdfdombcngpnaa", sum := "10e8c5b77f0630f21f6981dee214443c9af0c62f518b76503613f33d2a9e0675", func := "seneschal/seneschallaw6.CertAccepts", spec := "certAccepts", unfollowed := true, recurses := true, apart := false, narrowed := true }
def CertAcceptsUptoSaid : Prop := certAcceptsUptoRow.holds Try.pinned (OpenSpec.upto certAcceptsSpec)

/-- 'seneschallaw6.CertNoMark', WHERE WHAT IT READS IS OF BULK AT MOST 1048576: true; the input reads as it did. -/
def certNoMarkUptoRow : OpenClaim := { program := "ytgdfdombcngpnaa", sum := "10e8c5b77f0630f21f6981dee214443c9af0c62f518b76503613f33d2a9e0675", func := "seneschal/seneschallaw6.CertNoMark", spec := "certNoMark", unfollowed := true, recurses := true, apart := false, narrowed := true }
def CertNoMarkUptoSaid : Prop := certNoMarkUptoRow.holds Try.pinned (OpenSpec.upto certNoMarkSpec)

end Rows
end Go.Proofs.Ytgdfdombcngpnaa
