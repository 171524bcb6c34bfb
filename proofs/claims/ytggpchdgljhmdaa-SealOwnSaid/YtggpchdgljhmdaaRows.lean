/-
  No cell of these rows narrows 'for every input' (looked for: loops, veiled, ifaces, maps, wideKeys, modest, calm, conditions, laid).
  DERIVED. THE GIVEN ROWS OF THIS SEAT. 11 by the template 'for every input the law returns true; each argument reads behind the call as it read before'; 0 by the template 'total and deterministic' (their statements: YtggpchdgljhmdaaTotals.lean).
  GIVEN WITH THE SEED: the statements are not yours to turn. If you find one false, say at which input.
  Laid BY PROGRAM, IN A SANDBOX (cutbox-rows.mjs): the forced cells as the released guide's own fill.sh prints them over the translation 0b601228fc908c10… (all of the seat's roots in one cut). By AI agents, Wed Nov 11 2026. No macro, syntax, notation, axiom, sorry.
-/
import Derived.Test.YtggpchdgljhmdaaChecked
import GoSem.Claim
import GoSem.ClaimJoined
import GoSem.ClaimMapViews
import Derived.JoinedTies
import Derived.KernelRfl
namespace Go.Proofs.Ytggpchdgljhmdaa
/- THE CELL 'sum', in the pinned program and in every row, IS THE sha256 OF THE DUMP (.gsa) THAT YtggpchdgljhmdaaProg.lean LOADS. Nothing in Lean hashes anything: it is a label: what it is worth is what the hold of that sum in a sandbox is worth. -/
noncomputable def Try.pinned : Pinned := { name := "ytggpchdgljhmdaa", sum := "0b601228fc908c108751e9b37faf1a6c0b9a9916dff4423f31f522f7b42e02a9", checked := Try.checked }
namespace Rows
def none {H : Type} : Left H := { results := [], args := [] }

/-- 'seneschallaw2.DigestSums': WHATEVER THE INPUT: true; the input reads as it did. -/
def digestSumsSpec : ChangeSpec := { name := "digestSums", fn := fun _ => fun
  | [d] => { results := [.lit (.bool true)], args := [d] }
  | _ => none }
def digestSumsRow : OpenClaim := { program := "ytggpchdgljhmdaa", sum := "0b601228fc908c108751e9b37faf1a6c0b9a9916dff4423f31f522f7b42e02a9", func := "seneschal/seneschallaw2.DigestSums", spec := "digestSums", unfollowed := true, recurses := true, apart := false }
def DigestSumsSaid : Prop := digestSumsRow.holds Try.pinned (OpenSpec.ofChange digestSumsSpec)

/-- ITS FALSE NEIGHBOUR: 'it returns false'. Refute it at one input. -/
def digestSumsWrong : ChangeSpec := { name := "digestSums", fn := fun _ => fun
  | [d] => { results := [.lit (.bool false)], args := [d] }
  | _ => none }
def DigestSumsWrongFalsely : Prop := digestSumsRow.holds Try.pinned (OpenSpec.ofChange digestSumsWrong)

/-- 'seneschallaw2.DigestMacs': WHATEVER THE INPUT: true; the input reads as it did. -/
def digestMacsSpec : ChangeSpec := { name := "digestMacs", fn := fun _ => fun
  | [d1, d2] => { results := [.lit (.bool true)], args := [d1, d2] }
  | _ => none }
def digestMacsRow : OpenClaim := { program := "ytggpchdgljhmdaa", sum := "0b601228fc908c108751e9b37faf1a6c0b9a9916dff4423f31f522f7b42e02a9", func := "seneschal/seneschallaw2.DigestMacs", spec := "digestMacs", unfollowed := true, recurses := true, apart := false }
def DigestMacsSaid : Prop := digestMacsRow.holds Try.pinned (OpenSpec.ofChange digestMacsSpec)

/-- ITS FALSE NEIGHBOUR: 'it returns false'. Refute it at one input. -/
def digestMacsWrong : ChangeSpec := { name := "digestMacs", fn := fun _ => fun
  | [d1, d2] => { results := [.lit (.bool false)], args := [d1, d2] }
  | _ => none }
def DigestMacsWrongFalsely : Prop := digestMacsRow.holds Try.pinned (OpenSpec.ofChange digestMacsWrong)

/-- 'seneschallaw2.DigestKeys': WHATEVER THE INPUT: true; the input reads as it did. -/
def digestKeysSpec : ChangeSpec := { name := "digestKeys", fn := fun _ => fun
  | [d1, d2, d3] => { results := [.lit (.bool true)], args := [d1, d2, d3] }
  | _ => none }
def digestKeysRow : OpenClaim := { program := "ytggpchdgljhmdaa", sum := "0b601228fc908c108751e9b37faf1a6c0b9a9916dff4423f31f522f7b42e02a9", func := "seneschal/seneschallaw2.DigestKeys", spec := "digestKeys", unfollowed := true, recurses := true, apart := false }
def DigestKeysSaid : Prop := digestKeysRow.holds Try.pinned (OpenSpec.ofChange digestKeysSpec)

/-- ITS FALSE NEIGHBOUR: 'it returns false'. Refute it at one input. -/
def digestKeysWrong : ChangeSpec := { name := "digestKeys", fn := fun _ => fun
  | [d1, d2, d3] => { results := [.lit (.bool false)], args := [d1, d2, d3] }
  | _ => none }
def DigestKeysWrongFalsely : Prop := digestKeysRow.holds Try.pinned (OpenSpec.ofChange digestKeysWrong)

/-- 'seneschallaw2.DigestLinks': WHATEVER THE INPUT: true; the input reads as it did. -/
def digestLinksSpec : ChangeSpec := { name := "digestLinks", fn := fun _ => fun
  | [d1, d2] => { results := [.lit (.bool true)], args := [d1, d2] }
  | _ => none }
def digestLinksRow : OpenClaim := { program := "ytggpchdgljhmdaa", sum := "0b601228fc908c108751e9b37faf1a6c0b9a9916dff4423f31f522f7b42e02a9", func := "seneschal/seneschallaw2.DigestLinks", spec := "digestLinks", unfollowed := true, recurses := true, apart := false }
def DigestLinksSaid : Prop := digestLinksRow.holds Try.pinned (OpenSpec.ofChange digestLinksSpec)

/-- ITS FALSE NEIGHBOUR: 'it returns false'. Refute it at one input. -/
def digestLinksWrong : ChangeSpec := { name := "digestLinks", fn := fun _ => fun
  | [d1, d2] => { results := [.lit (.bool false)], args := [d1, d2] }
  | _ => none }
def DigestLinksWrongFalsely : Prop := digestLinksRow.holds Try.pinned (OpenSpec.ofChange digestLinksWrong)

/-- 'seneschallaw4.SealTells': WHATEVER THE INPUT: true; the input reads as it did. -/
def sealTellsSpec : ChangeSpec := { name := "sealTells", fn := fun _ => fun
  | [d1, d2, d3, d4, d5] => { results := [.lit (.bool true)], args := [d1, d2, d3, d4, d5] }
  | _ => none }
def sealTellsRow : OpenClaim := { program := "ytggpchdgljhmdaa", sum := "0b601228fc908c108751e9b37faf1a6c0b9a9916dff4423f31f522f7b42e02a9", func := "seneschal/seneschallaw4.SealTells", spec := "sealTells", unfollowed := true, recurses := true, apart := false }
def SealTellsSaid : Prop := sealTellsRow.holds Try.pinned (OpenSpec.ofChange sealTellsSpec)

/-- ITS FALSE NEIGHBOUR: 'it returns false'. Refute it at one input. -/
def sealTellsWrong : ChangeSpec := { name := "sealTells", fn := fun _ => fun
  | [d1, d2, d3, d4, d5] => { results := [.lit (.bool false)], args := [d1, d2, d3, d4, d5] }
  | _ => none }
def SealTellsWrongFalsely : Prop := sealTellsRow.holds Try.pinned (OpenSpec.ofChange sealTellsWrong)

/-- 'seneschallaw4.SealEnough': WHATEVER THE INPUT: true; the input reads as it did. -/
def sealEnoughSpec : ChangeSpec := { name := "sealEnough", fn := fun _ => fun
  | [d] => { results := [.lit (.bool true)], args := [d] }
  | _ => none }
def sealEnoughRow : OpenClaim := { program := "ytggpchdgljhmdaa", sum := "0b601228fc908c108751e9b37faf1a6c0b9a9916dff4423f31f522f7b42e02a9", func := "seneschal/seneschallaw4.SealEnough", spec := "sealEnough", unfollowed := true, recurses := true, apart := false }
def SealEnoughSaid : Prop := sealEnoughRow.holds Try.pinned (OpenSpec.ofChange sealEnoughSpec)

/-- ITS FALSE NEIGHBOUR: 'it returns false'. Refute it at one input. -/
def sealEnoughWrong : ChangeSpec := { name := "sealEnough", fn := fun _ => fun
  | [d] => { results := [.lit (.bool false)], args := [d] }
  | _ => none }
def SealEnoughWrongFalsely : Prop := sealEnoughRow.holds Try.pinned (OpenSpec.ofChange sealEnoughWrong)

/-- 'seneschallaw4.SealCounts': WHATEVER THE INPUT: true; the input reads as it did. -/
def sealCountsSpec : ChangeSpec := { name := "sealCounts", fn := fun _ => fun
  | [d] => { results := [.lit (.bool true)], args := [d] }
  | _ => none }
def sealCountsRow : OpenClaim := { program := "ytggpchdgljhmdaa", sum := "0b601228fc908c108751e9b37faf1a6c0b9a9916dff4423f31f522f7b42e02a9", func := "seneschal/seneschallaw4.SealCounts", spec := "sealCounts", unfollowed := true, recurses := true, apart := false }
def SealCountsSaid : Prop := sealCountsRow.holds Try.pinned (OpenSpec.ofChange sealCountsSpec)

/-- ITS FALSE NEIGHBOUR: 'it returns false'. Refute it at one input. -/
def sealCountsWrong : ChangeSpec := { name := "sealCounts", fn := fun _ => fun
  | [d] => { results := [.lit (.bool false)], args := [d] }
  | _ => none }
def SealCountsWrongFalsely : Prop := sealCountsRow.holds Try.pinned (OpenSpec.ofChange sealCountsWrong)

/-- 'seneschallaw4.SealOfNothing': WHATEVER THE INPUT: true; the input reads as it did. -/
def sealOfNothingSpec : ChangeSpec := { name := "sealOfNothing", fn := fun _ => fun
  | [d1, d2, d3] => { results := [.lit (.bool true)], args := [d1, d2, d3] }
  | _ => none }
def sealOfNothingRow : OpenClaim := { program := "ytggpchdgljhmdaa", sum := "0b601228fc908c108751e9b37faf1a6c0b9a9916dff4423f31f522f7b42e02a9", func := "seneschal/seneschallaw4.SealOfNothing", spec := "sealOfNothing", unfollowed := true, recurses := true, apart := false }
def SealOfNothingSaid : Prop := sealOfNothingRow.holds Try.pinned (OpenSpec.ofChange sealOfNothingSpec)

/-- ITS FALSE NEIGHBOUR: 'it returns false'. Refute it at one input. -/
def sealOfNothingWrong : ChangeSpec := { name := "sealOfNothing", fn := fun _ => fun
  | [d1, d2, d3] => { results := [.lit (.bool false)], args := [d1, d2, d3] }
  | _ => none }
def SealOfNothingWrongFalsely : Prop := sealOfNothingRow.holds Try.pinned (OpenSpec.ofChange sealOfNothingWrong)

/-- 'seneschallaw4.SealOwn': WHATEVER THE INPUT: true; the input reads as it did. -/
def sealOwnSpec : ChangeSpec := { name := "sealOwn", fn := fun _ => fun
  | [d1, d2, d3, d4] => { results := [.lit (.bool true)], args := [d1, d2, d3, d4] }
  | _ => none }
def sealOwnRow : OpenClaim := { program := "ytggpchdgljhmdaa", sum := "0b601228fc908c108751e9b37faf1a6c0b9a9916dff4423f31f522f7b42e02a9", func := "seneschal/seneschallaw4.SealOwn", spec := "sealOwn", unfollowed := true, recurses := true, apart := false }
def SealOwnSaid : Prop := sealOwnRow.holds Try.pinned (OpenSpec.ofChange sealOwnSpec)

/-- ITS FALSE NEIGHBOUR: 'it returns false'. Refute it at one input. -/
def sealOwnWrong : ChangeSpec := { name := "sealOwn", fn := fun _ => fun
  | [d1, d2, d3, d4] => { results := [.lit (.bool false)], args := [d1, d2, d3, d4] }
  | _ => none }
def SealOwnWrongFalsely : Prop := sealOwnRow.holds Try.pinned (OpenSpec.ofChange sealOwnWrong)

/-- 'seneschallaw4.SealTurned': WHATEVER THE INPUT: true; the input reads as it did. -/
def sealTurnedSpec : ChangeSpec := { name := "sealTurned", fn := fun _ => fun
  | [d1, d2, d3, d4] => { results := [.lit (.bool true)], args := [d1, d2, d3, d4] }
  | _ => none }
def sealTurnedRow : OpenClaim := { program := "ytggpchdgljhmdaa", sum := "0b601228fc908c108751e9b37faf1a6c0b9a9916dff4423f31f522f7b42e02a9", func := "seneschal/seneschallaw4.SealTurned", spec := "sealTurned", unfollowed := true, recurses := true, apart := false }
def SealTurnedSaid : Prop := sealTurnedRow.holds Try.pinned (OpenSpec.ofChange sealTurnedSpec)

/-- ITS FALSE NEIGHBOUR: 'it returns false'. Refute it at one input. -/
def sealTurnedWrong : ChangeSpec := { name := "sealTurned", fn := fun _ => fun
  | [d1, d2, d3, d4] => { results := [.lit (.bool false)], args := [d1, d2, d3, d4] }
  | _ => none }
def SealTurnedWrongFalsely : Prop := sealTurnedRow.holds Try.pinned (OpenSpec.ofChange sealTurnedWrong)

/-- 'seneschallaw4.SealBounds': WHATEVER THE INPUT: true; the input reads as it did. -/
def sealBoundsSpec : ChangeSpec := { name := "sealBounds", fn := fun _ => fun
  | [d1, d2] => { results := [.lit (.bool true)], args := [d1, d2] }
  | _ => none }
def sealBoundsRow : OpenClaim := { program := "ytggpchdgljhmdaa", sum := "0b601228fc908c108751e9b37faf1a6c0b9a9916dff4423f31f522f7b42e02a9", func := "seneschal/seneschallaw4.SealBounds", spec := "sealBounds", unfollowed := true, recurses := true, apart := false }
def SealBoundsSaid : Prop := sealBoundsRow.holds Try.pinned (OpenSpec.ofChange sealBoundsSpec)

/-- ITS FALSE NEIGHBOUR: 'it returns false'. Refute it at one input. -/
def sealBoundsWrong : ChangeSpec := { name := "sealBounds", fn := fun _ => fun
  | [d1, d2] => { results := [.lit (.bool false)], args := [d1, d2] }
  | _ => none }
def SealBoundsWrongFalsely : Prop := sealBoundsRow.holds Try.pinned (OpenSpec.ofChange sealBoundsWrong)

/- THE SECOND FORM. 'bulk': how many values and letters a reading holds, each counted each time it is reached (what is shared counts as often as it is met; a slice's spare places count too). A statement '..UptoSaid' is the law's where the arguments, and the package variables that the reading takes, are together of bulk at most 1048576: NARROWER than '..Said'. Prove '..Said' where nothing that the law and all that it calls make is longer than what came in: it says more and counts as full. Else prove '..UptoSaid'. A law counts once. -/
mutual
def uptoBulk {H : Type} : DataW H → Nat
  | .lit (.string bytes) => bytes.length + 1
  | .lit _ => 1
  | .nil => 1
  | .ptr d => uptoBulk d + 1
  | .slice elems spare => uptoBulkAll elems + uptoBulkAll spare + 1
  | .agg parts => uptoBulkAll parts + 1
  | .iface _ d => uptoBulk d + 1
  | .map entries => uptoBulkEntries entries + 1
  | .held _ => 1
def uptoBulkAll {H : Type} : List (DataW H) → Nat
  | [] => 0
  | d :: r => uptoBulk d + uptoBulkAll r
def uptoBulkEntries {H : Type} : List (Lit × DataW H) → Nat
  | [] => 0
  | x :: r => uptoBulkEntry x + uptoBulkEntries r
def uptoBulkEntry {H : Type} : Lit × DataW H → Nat
  | (.string bytes, d) => bytes.length + uptoBulk d + 1
  | (_, d) => uptoBulk d + 1
 end
def uptoSmall : (H : Type) → List (DataW H) → Bool := fun _ ds => decide (uptoBulkAll ds ≤ 1048576)
def OpenSpec.upto (s : _root_.Go.ChangeSpec) : _root_.Go.OpenSpec := { _root_.Go.OpenSpec.ofChange s with cond := some uptoSmall }

/-- 'seneschallaw2.DigestSums', WHERE WHAT IT READS IS OF BULK AT MOST 1048576: true; the input reads as it did. -/
def digestSumsUptoRow : OpenClaim := { program := "ytggpchdgljhmdaa", sum := "0b601228fc908c108751e9b37faf1a6c0b9a9916dff4423f31f522f7b42e02a9", func := "seneschal/seneschallaw2.DigestSums", spec := "digestSums", unfollowed := true, recurses := true, apart := false, narrowed := true }
def DigestSumsUptoSaid : Prop := digestSumsUptoRow.holds Try.pinned (OpenSpec.upto digestSumsSpec)

/-- 'seneschallaw2.DigestMacs', WHERE WHAT IT READS IS OF BULK AT MOST 1048576: true; the input reads as it did. -/
def digestMacsUptoRow : OpenClaim := { program := "ytggpchdgljhmdaa", sum := "0b601228fc908c108751e9b37faf1a6c0b9a9916dff4423f31f522f7b42e02a9", func := "seneschal/seneschallaw2.DigestMacs", spec := "digestMacs", unfollowed := true, recurses := true, apart := false, narrowed := true }
def DigestMacsUptoSaid : Prop := digestMacsUptoRow.holds Try.pinned (OpenSpec.upto digestMacsSpec)

/-- 'seneschallaw2.DigestKeys', WHERE WHAT IT READS IS OF BULK AT MOST 1048576: true; the input reads as it did. -/
def digestKeysUptoRow : OpenClaim := { program := "ytggpchdgljhmdaa", sum := "0b601228fc908c108751e9b37faf1a6c0b9a9916dff4423f31f522f7b42e02a9", func := "seneschal/seneschallaw2.DigestKeys", spec := "digestKeys", unfollowed := true, recurses := true, apart := false, narrowed := true }
def DigestKeysUptoSaid : Prop := digestKeysUptoRow.holds Try.pinned (OpenSpec.upto digestKeysSpec)

/-- 'seneschallaw2.DigestLinks', WHERE WHAT IT READS IS OF BULK AT MOST 1048576: true; the input reads as it did. -/
def digestLinksUptoRow : OpenClaim := { program := "ytggpchdgljhmdaa", sum := "0b601228fc908c108751e9b37faf1a6c0b9a9916dff4423f31f522f7b42e02a9", func := "seneschal/seneschallaw2.DigestLinks", spec := "digestLinks", unfollowed := true, recurses := true, apart := false, narrowed := true }
def DigestLinksUptoSaid : Prop := digestLinksUptoRow.holds Try.pinned (OpenSpec.upto digestLinksSpec)

/-- 'seneschallaw4.SealTells', WHERE WHAT IT READS IS OF BULK AT MOST 1048576: true; the input reads as it did. -/
def sealTellsUptoRow : OpenClaim := { program := "ytggpchdgljhmdaa", sum := "0b601228fc908c108751e9b37faf1a6c0b9a9916dff4423f31f522f7b42e02a9", func := "seneschal/seneschallaw4.SealTells", spec := "sealTells", unfollowed := true, recurses := true, apart := false, narrowed := true }
def SealTellsUptoSaid : Prop := sealTellsUptoRow.holds Try.pinned (OpenSpec.upto sealTellsSpec)

/-- 'seneschallaw4.SealEnough', WHERE WHAT IT READS IS OF BULK AT MOST 1048576: true; the input reads as it did. -/
def sealEnoughUptoRow : OpenClaim := { program := "ytggpchdgljhmdaa", sum := "0b601228fc908c108751e9b37faf1a6c0b9a9916dff4423f31f522f7b42e02a9", func := "seneschal/seneschallaw4.SealEnough", spec := "sealEnough", unfollowed := true, recurses := true, apart := false, narrowed := true }
def SealEnoughUptoSaid : Prop := sealEnoughUptoRow.holds Try.pinned (OpenSpec.upto sealEnoughSpec)

/-- 'seneschallaw4.SealCounts', WHERE WHAT IT READS IS OF BULK AT MOST 1048576: true; the input reads as it did. -/
def sealCountsUptoRow : OpenClaim := { program := "ytggpchdgljhmdaa", sum := "0b601228fc908c108751e9b37faf1a6c0b9a9916dff4423f31f522f7b42e02a9", func := "seneschal/seneschallaw4.SealCounts", spec := "sealCounts", unfollowed := true, recurses := true, apart := false, narrowed := true }
def SealCountsUptoSaid : Prop := sealCountsUptoRow.holds Try.pinned (OpenSpec.upto sealCountsSpec)

/-- 'seneschallaw4.SealOfNothing', WHERE WHAT IT READS IS OF BULK AT MOST 1048576: true; the input reads as it did. -/
def sealOfNothingUptoRow : OpenClaim := { program := "ytggpchdgljhmdaa", sum := "0b601228fc908c108751e9b37faf1a6c0b9a9916dff4423f31f522f7b42e02a9", func := "seneschal/seneschallaw4.SealOfNothing", spec := "sealOfNothing", unfollowed := true, recurses := true, apart := false, narrowed := true }
def SealOfNothingUptoSaid : Prop := sealOfNothingUptoRow.holds Try.pinned (OpenSpec.upto sealOfNothingSpec)

/-- 'seneschallaw4.SealOwn', WHERE WHAT IT READS IS OF BULK AT MOST 1048576: true; the input reads as it did. -/
def sealOwnUptoRow : OpenClaim := { program := "ytggpchdgljhmdaa", sum := "0b601228fc908c108751e9b37faf1a6c0b9a9916dff4423f31f522f7b42e02a9", func := "seneschal/seneschallaw4.SealOwn", spec := "sealOwn", unfollowed := true, recurses := true, apart := false, narrowed := true }
def SealOwnUptoSaid : Prop := sealOwnUptoRow.holds Try.pinned (OpenSpec.upto sealOwnSpec)

/-- 'seneschallaw4.SealTurned', WHERE WHAT IT READS IS OF BULK AT MOST 1048576: true; the input reads as it did. -/
def sealTurnedUptoRow : OpenClaim := { program := "ytggpchdgljhmdaa", sum := "0b601228fc908c108751e9b37faf1a6c0b9a9916dff4423f31f522f7b42e02a9", func := "seneschal/seneschallaw4.SealTurned", spec := "sealTurned", unfollowed := true, recurses := true, apart := false, narrowed := true }
def SealTurnedUptoSaid : Prop := sealTurnedUptoRow.holds Try.pinned (OpenSpec.upto sealTurnedSpec)

/-- 'seneschallaw4.SealBounds', WHERE WHAT IT READS IS OF BULK AT MOST 1048576: true; the input reads as it did. -/
def sealBoundsUptoRow : OpenClaim := { program := "ytggpchdgljhmdaa", sum := "0b601228fc908c108751e9b37faf1a6c0b9a9916dff4423f31f522f7b42e02a9", func := "seneschal/seneschallaw4.SealBounds", spec := "sealBounds", unfollowed := true, recurses := true, apart := false, narrowed := true }
def SealBoundsUptoSaid : Prop := sealBoundsUptoRow.holds Try.pinned (OpenSpec.upto sealBoundsSpec)

end Rows
end Go.Proofs.Ytggpchdgljhmdaa
