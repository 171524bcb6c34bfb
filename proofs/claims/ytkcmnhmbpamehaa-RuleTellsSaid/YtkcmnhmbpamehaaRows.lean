/-
  No cell of these rows narrows 'for every input' (looked for: loops, veiled, ifaces, maps, wideKeys, modest, calm, conditions, laid).
  DERIVED. THE GIVEN ROWS OF THIS SEAT. 5 by the template 'for every input the law returns true; each argument reads behind the call as it read before'; 0 by the template 'total and deterministic' (their statements: YtkcmnhmbpamehaaTotals.lean).
  GIVEN WITH THE SEED: the statements are not yours to turn. If you find one false, say at which input.
  Laid BY PROGRAM, IN A SANDBOX (cutbox-rows.mjs): the forced cells as the released guide's own fill.sh prints them over the translation 47281050e8f82484… (all of the seat's roots in one cut). By AI agents, Wed Nov 11 2026. No macro, syntax, notation, axiom, sorry.
-/
import Derived.Test.YtkcmnhmbpamehaaChecked
import GoSem.Claim
import GoSem.ClaimJoined
import GoSem.ClaimMapViews
import Derived.JoinedTies
import Derived.KernelRfl
namespace Go.Proofs.Ytkcmnhmbpamehaa
/- THE CELL 'sum', in the pinned program and in every row, IS THE sha256 OF THE DUMP (.gsa) THAT YtkcmnhmbpamehaaProg.lean LOADS. Nothing in Lean hashes anything: it is a label: what it is worth is what the hold of that sum in a sandbox is worth. -/
noncomputable def Try.pinned : Pinned := { name := "ytkcmnhmbpamehaa", sum := "47281050e8f8248407cde9c07e3a046a9b9584f41a7458dda04cf4904a96b9bb", checked := Try.checked }
namespace Rows
def none {H : Type} : Left H := { results := [], args := [] }

/-- 'seneschallaw7.RuleProves': WHATEVER THE INPUT: true; the input reads as it did. -/
def ruleProvesSpec : ChangeSpec := { name := "ruleProves", fn := fun _ => fun
  | [d1, d2, d3, d4, d5, d6] => { results := [.lit (.bool true)], args := [d1, d2, d3, d4, d5, d6] }
  | _ => none }
def ruleProvesRow : OpenClaim := { program := "ytkcmnhmbpamehaa", sum := "47281050e8f8248407cde9c07e3a046a9b9584f41a7458dda04cf4904a96b9bb", func := "seneschal/seneschallaw7.RuleProves", spec := "ruleProves", unfollowed := true, recurses := true, apart := false }
def RuleProvesSaid : Prop := ruleProvesRow.holds Try.pinned (OpenSpec.ofChange ruleProvesSpec)

/-- ITS FALSE NEIGHBOUR: 'it returns false'. Refute it at one input. -/
def ruleProvesWrong : ChangeSpec := { name := "ruleProves", fn := fun _ => fun
  | [d1, d2, d3, d4, d5, d6] => { results := [.lit (.bool false)], args := [d1, d2, d3, d4, d5, d6] }
  | _ => none }
def RuleProvesWrongFalsely : Prop := ruleProvesRow.holds Try.pinned (OpenSpec.ofChange ruleProvesWrong)

/-- 'seneschallaw7.RuleBinds': WHATEVER THE INPUT: true; the input reads as it did. -/
def ruleBindsSpec : ChangeSpec := { name := "ruleBinds", fn := fun _ => fun
  | [d1, d2, d3, d4, d5, d6] => { results := [.lit (.bool true)], args := [d1, d2, d3, d4, d5, d6] }
  | _ => none }
def ruleBindsRow : OpenClaim := { program := "ytkcmnhmbpamehaa", sum := "47281050e8f8248407cde9c07e3a046a9b9584f41a7458dda04cf4904a96b9bb", func := "seneschal/seneschallaw7.RuleBinds", spec := "ruleBinds", unfollowed := true, recurses := true, apart := false }
def RuleBindsSaid : Prop := ruleBindsRow.holds Try.pinned (OpenSpec.ofChange ruleBindsSpec)

/-- ITS FALSE NEIGHBOUR: 'it returns false'. Refute it at one input. -/
def ruleBindsWrong : ChangeSpec := { name := "ruleBinds", fn := fun _ => fun
  | [d1, d2, d3, d4, d5, d6] => { results := [.lit (.bool false)], args := [d1, d2, d3, d4, d5, d6] }
  | _ => none }
def RuleBindsWrongFalsely : Prop := ruleBindsRow.holds Try.pinned (OpenSpec.ofChange ruleBindsWrong)

/-- 'seneschallaw7.RuleMixed': WHATEVER THE INPUT: true; the input reads as it did. -/
def ruleMixedSpec : ChangeSpec := { name := "ruleMixed", fn := fun _ => fun
  | [d1, d2, d3] => { results := [.lit (.bool true)], args := [d1, d2, d3] }
  | _ => none }
def ruleMixedRow : OpenClaim := { program := "ytkcmnhmbpamehaa", sum := "47281050e8f8248407cde9c07e3a046a9b9584f41a7458dda04cf4904a96b9bb", func := "seneschal/seneschallaw7.RuleMixed", spec := "ruleMixed", unfollowed := true, recurses := true, apart := false }
def RuleMixedSaid : Prop := ruleMixedRow.holds Try.pinned (OpenSpec.ofChange ruleMixedSpec)

/-- ITS FALSE NEIGHBOUR: 'it returns false'. Refute it at one input. -/
def ruleMixedWrong : ChangeSpec := { name := "ruleMixed", fn := fun _ => fun
  | [d1, d2, d3] => { results := [.lit (.bool false)], args := [d1, d2, d3] }
  | _ => none }
def RuleMixedWrongFalsely : Prop := ruleMixedRow.holds Try.pinned (OpenSpec.ofChange ruleMixedWrong)

/-- 'seneschallaw7.RuleHigher': WHATEVER THE INPUT: true; the input reads as it did. -/
def ruleHigherSpec : ChangeSpec := { name := "ruleHigher", fn := fun _ => fun
  | [d1, d2, d3, d4, d5, d6] => { results := [.lit (.bool true)], args := [d1, d2, d3, d4, d5, d6] }
  | _ => none }
def ruleHigherRow : OpenClaim := { program := "ytkcmnhmbpamehaa", sum := "47281050e8f8248407cde9c07e3a046a9b9584f41a7458dda04cf4904a96b9bb", func := "seneschal/seneschallaw7.RuleHigher", spec := "ruleHigher", unfollowed := true, recurses := true, apart := false }
def RuleHigherSaid : Prop := ruleHigherRow.holds Try.pinned (OpenSpec.ofChange ruleHigherSpec)

/-- ITS FALSE NEIGHBOUR: 'it returns false'. Refute it at one input. -/
def ruleHigherWrong : ChangeSpec := { name := "ruleHigher", fn := fun _ => fun
  | [d1, d2, d3, d4, d5, d6] => { results := [.lit (.bool false)], args := [d1, d2, d3, d4, d5, d6] }
  | _ => none }
def RuleHigherWrongFalsely : Prop := ruleHigherRow.holds Try.pinned (OpenSpec.ofChange ruleHigherWrong)

/-- 'seneschallaw7.RuleTells': WHATEVER THE INPUT: true; the input reads as it did. -/
def ruleTellsSpec : ChangeSpec := { name := "ruleTells", fn := fun _ => fun
  | [d1, d2, d3, d4, d5, d6] => { results := [.lit (.bool true)], args := [d1, d2, d3, d4, d5, d6] }
  | _ => none }
def ruleTellsRow : OpenClaim := { program := "ytkcmnhmbpamehaa", sum := "47281050e8f8248407cde9c07e3a046a9b9584f41a7458dda04cf4904a96b9bb", func := "seneschal/seneschallaw7.RuleTells", spec := "ruleTells", unfollowed := true, recurses := true, apart := false }
def RuleTellsSaid : Prop := ruleTellsRow.holds Try.pinned (OpenSpec.ofChange ruleTellsSpec)

/-- ITS FALSE NEIGHBOUR: 'it returns false'. Refute it at one input. -/
def ruleTellsWrong : ChangeSpec := { name := "ruleTells", fn := fun _ => fun
  | [d1, d2, d3, d4, d5, d6] => { results := [.lit (.bool false)], args := [d1, d2, d3, d4, d5, d6] }
  | _ => none }
def RuleTellsWrongFalsely : Prop := ruleTellsRow.holds Try.pinned (OpenSpec.ofChange ruleTellsWrong)

/- THE SECOND FORM. 'bulk': how many values and letters a reading holds, each counted each time it is reached (what is shared counts as often as it is met; a slice's spare places count too). A statement '..UptoSaid' is the law's where the arguments, and the package variables that the reading takes, are together of bulk at most 1048576: NARROWER than '..Said'. Prove '..Said' where nothing that the law and all that it calls make is longer than what came in: it says more and counts as full. Else prove '..UptoSaid'. A law counts once. -/
mutual
def uptoBulk {H : Type} : DataW H → Nat
  | .lit (.string bytes) => bytes.length + 1
  | .lit _ => 1
  | .nil => 1
  | .ptr d => uptoBulk d + 1
  | .slice elems spare => uptoBulkAll elems + uptoBulkAll spare + 1
  | .agg parts => uptoBulkAll parts + 1
  | .iface _ d => uptoBulk d + 1
  | .map entries => uptoBulkEntries entries + 1
  | .held _ => 1
def uptoBulkAll {H : Type} : List (DataW H) → Nat
  | [] => 0
  | d :: r => uptoBulk d + uptoBulkAll r
def uptoBulkEntries {H : Type} : List (Lit × DataW H) → Nat
  | [] => 0
  | x :: r => uptoBulkEntry x + uptoBulkEntries r
def uptoBulkEntry {H : Type} : Lit × DataW H → Nat
  | (.string bytes, d) => bytes.length + uptoBulk d + 1
  | (_, d) => uptoBulk d + 1
 end
def uptoSmall : (H : Type) → List (DataW H) → Bool := fun _ ds => decide (uptoBulkAll ds ≤ 1048576)
def OpenSpec.upto (s : _root_.Go.ChangeSpec) : _root_.Go.OpenSpec := { _root_.Go.OpenSpec.ofChange s with cond := some uptoSmall }

/-- 'seneschallaw7.RuleProves', WHERE WHAT IT READS IS OF BULK AT MOST 1048576: true; the input reads as it did. -/
def ruleProvesUptoRow : OpenClaim := { program := "ytkcmnhmbpamehaa", sum := "47281050e8f8248407cde9c07e3a046a9b9584f41a7458dda04cf4904a96b9bb", func := "seneschal/seneschallaw7.RuleProves", spec := "ruleProves", unfollowed := true, recurses := true, apart := false, narrowed := true }
def RuleProvesUptoSaid : Prop := ruleProvesUptoRow.holds Try.pinned (OpenSpec.upto ruleProvesSpec)

/-- 'seneschallaw7.RuleBinds', WHERE WHAT IT READS IS OF BULK AT MOST 1048576: true; the input reads as it did. -/
def ruleBindsUptoRow : OpenClaim := { program := "ytkcmnhmbpamehaa", sum := "47281050e8f8248407cde9c07e3a046a9b9584f41a7458dda04cf4904a96b9bb", func := "seneschal/seneschallaw7.RuleBinds", spec := "ruleBinds", unfollowed := true, recurses := true, apart := false, narrowed := true }
def RuleBindsUptoSaid : Prop := ruleBindsUptoRow.holds Try.pinned (OpenSpec.upto ruleBindsSpec)

/-- 'seneschallaw7.RuleMixed', WHERE WHAT IT READS IS OF BULK AT MOST 1048576: true; the input reads as it did. -/
def ruleMixedUptoRow : OpenClaim := { program := "ytkcmnhmbpamehaa", sum := "47281050e8f8248407cde9c07e3a046a9b9584f41a7458dda04cf4904a96b9bb", func := "seneschal/seneschallaw7.RuleMixed", spec := "ruleMixed", unfollowed := true, recurses := true, apart := false, narrowed := true }
def RuleMixedUptoSaid : Prop := ruleMixedUptoRow.holds Try.pinned (OpenSpec.upto ruleMixedSpec)

/-- 'seneschallaw7.RuleHigher', WHERE WHAT IT READS IS OF BULK AT MOST 1048576: true; the input reads as it did. -/
def ruleHigherUptoRow : OpenClaim := { program := "ytkcmnhmbpamehaa", sum := "47281050e8f8248407cde9c07e3a046a9b9584f41a7458dda04cf4904a96b9bb", func := "seneschal/seneschallaw7.RuleHigher", spec := "ruleHigher", unfollowed := true, recurses := true, apart := false, narrowed := true }
def RuleHigherUptoSaid : Prop := ruleHigherUptoRow.holds Try.pinned (OpenSpec.upto ruleHigherSpec)

/-- 'seneschallaw7.RuleTells', WHERE WHAT IT READS IS OF BULK AT MOST 1048576: true; the input reads as it did. -/
def ruleTellsUptoRow : OpenClaim := { program := "ytkcmnhmbpamehaa", sum := "47281050e8f8248407cde9c07e3a046a9b9584f41a7458dda04cf4904a96b9bb", func := "seneschal/seneschallaw7.RuleTells", spec := "ruleTells", unfollowed := true, recurses := true, apart := false, narrowed := true }
def RuleTellsUptoSaid : Prop := ruleTellsUptoRow.holds Try.pinned (OpenSpec.upto ruleTellsSpec)

end Rows
end Go.Proofs.Ytkcmnhmbpamehaa
