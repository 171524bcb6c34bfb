/-
  No cell of these rows narrows 'for every input' (looked for: loops, veiled, ifaces, maps, wideKeys, modest, calm, conditions, laid).
  DERIVED. THE GIVEN ROWS OF THIS SEAT. 7 by the template 'for every input the law returns true; each argument reads behind the call as it read before'; 0 by the template 'total and deterministic' (their statements: YtnmnknjgibkkaaaTotals.lean).
  GIVEN WITH THE SEED: the statements are not yours to turn. If you find one false, say at which input.
  Laid BY PROGRAM, IN A SANDBOX (cutbox-rows.mjs): the forced cells as the released guide's own fill.sh prints them over the translation cbc868608abbdbc2… (all of the seat's roots in one cut). By AI agents, Wed Nov 11 2026. No macro, syntax, notation, axiom, sorry.
-/
import Derived.Test.YtnmnknjgibkkaaaChecked
import GoSem.Claim
import GoSem.ClaimJoined
import GoSem.ClaimMapViews
import Derived.JoinedTies
import Derived.KernelRfl
namespace Go.Proofs.Ytnmnknjgibkkaaa
/- THE CELL 'sum', in the pinned program and in every row, IS THE sha256 OF THE DUMP (.gsa) THAT YtnmnknjgibkkaaaProg.lean LOADS. Nothing in Lean hashes anything: it is a label: what it is worth is what the hold of that sum in a sandbox is worth. -/
noncomputable def Try.pinned : Pinned := { name := "ytnmnknjgibkkaaa", sum := "cbc868608abbdbc27a4f4fd87ee59dde3f34aedff086090ec072aadce2794362", checked := Try.checked }
namespace Rows
def none {H : Type} : Left H := { results := [], args := [] }

/-- 'seneschallaw3.HoldTexts': WHATEVER THE INPUT: true; the input reads as it did. -/
def holdTextsSpec : ChangeSpec := { name := "holdTexts", fn := fun _ => fun
  | [d1, d2] => { results := [.lit (.bool true)], args := [d1, d2] }
  | _ => none }
def holdTextsRow : OpenClaim := { program := "ytnmnknjgibkkaaa", sum := "cbc868608abbdbc27a4f4fd87ee59dde3f34aedff086090ec072aadce2794362", func := "seneschal/seneschallaw3.HoldTexts", spec := "holdTexts", unfollowed := true, recurses := true, apart := false }
def HoldTextsSaid : Prop := holdTextsRow.holds Try.pinned (OpenSpec.ofChange holdTextsSpec)

/-- ITS FALSE NEIGHBOUR: 'it returns false'. Refute it at one input. -/
def holdTextsWrong : ChangeSpec := { name := "holdTexts", fn := fun _ => fun
  | [d1, d2] => { results := [.lit (.bool false)], args := [d1, d2] }
  | _ => none }
def HoldTextsWrongFalsely : Prop := holdTextsRow.holds Try.pinned (OpenSpec.ofChange holdTextsWrong)

/-- 'seneschallaw3.HoldOrder': WHATEVER THE INPUT: true; the input reads as it did. -/
def holdOrderSpec : ChangeSpec := { name := "holdOrder", fn := fun _ => fun
  | [d1, d2] => { results := [.lit (.bool true)], args := [d1, d2] }
  | _ => none }
def holdOrderRow : OpenClaim := { program := "ytnmnknjgibkkaaa", sum := "cbc868608abbdbc27a4f4fd87ee59dde3f34aedff086090ec072aadce2794362", func := "seneschal/seneschallaw3.HoldOrder", spec := "holdOrder", unfollowed := true, recurses := true, apart := false }
def HoldOrderSaid : Prop := holdOrderRow.holds Try.pinned (OpenSpec.ofChange holdOrderSpec)

/-- ITS FALSE NEIGHBOUR: 'it returns false'. Refute it at one input. -/
def holdOrderWrong : ChangeSpec := { name := "holdOrder", fn := fun _ => fun
  | [d1, d2] => { results := [.lit (.bool false)], args := [d1, d2] }
  | _ => none }
def HoldOrderWrongFalsely : Prop := holdOrderRow.holds Try.pinned (OpenSpec.ofChange holdOrderWrong)

/-- 'seneschallaw3.HoldFrom': WHATEVER THE INPUT: true; the input reads as it did. -/
def holdFromSpec : ChangeSpec := { name := "holdFrom", fn := fun _ => fun
  | [d1, d2] => { results := [.lit (.bool true)], args := [d1, d2] }
  | _ => none }
def holdFromRow : OpenClaim := { program := "ytnmnknjgibkkaaa", sum := "cbc868608abbdbc27a4f4fd87ee59dde3f34aedff086090ec072aadce2794362", func := "seneschal/seneschallaw3.HoldFrom", spec := "holdFrom", inPlace := ["maps.clone"], unfollowed := true, recurses := true, apart := false }
def HoldFromSaid : Prop := holdFromRow.holds Try.pinned (OpenSpec.ofChange holdFromSpec)

/-- ITS FALSE NEIGHBOUR: 'it returns false'. Refute it at one input. -/
def holdFromWrong : ChangeSpec := { name := "holdFrom", fn := fun _ => fun
  | [d1, d2] => { results := [.lit (.bool false)], args := [d1, d2] }
  | _ => none }
def HoldFromWrongFalsely : Prop := holdFromRow.holds Try.pinned (OpenSpec.ofChange holdFromWrong)

/-- 'seneschallaw3.HoldStops': WHATEVER THE INPUT: true; the input reads as it did. -/
def holdStopsSpec : ChangeSpec := { name := "holdStops", fn := fun _ => fun
  | [d1, d2] => { results := [.lit (.bool true)], args := [d1, d2] }
  | _ => none }
def holdStopsRow : OpenClaim := { program := "ytnmnknjgibkkaaa", sum := "cbc868608abbdbc27a4f4fd87ee59dde3f34aedff086090ec072aadce2794362", func := "seneschal/seneschallaw3.HoldStops", spec := "holdStops", inPlace := ["maps.clone"], unfollowed := true, recurses := true, apart := false }
def HoldStopsSaid : Prop := holdStopsRow.holds Try.pinned (OpenSpec.ofChange holdStopsSpec)

/-- ITS FALSE NEIGHBOUR: 'it returns false'. Refute it at one input. -/
def holdStopsWrong : ChangeSpec := { name := "holdStops", fn := fun _ => fun
  | [d1, d2] => { results := [.lit (.bool false)], args := [d1, d2] }
  | _ => none }
def HoldStopsWrongFalsely : Prop := holdStopsRow.holds Try.pinned (OpenSpec.ofChange holdStopsWrong)

/-- 'seneschallaw3.HoldMeanwhile': WHATEVER THE INPUT: true; the input reads as it did. -/
def holdMeanwhileSpec : ChangeSpec := { name := "holdMeanwhile", fn := fun _ => fun
  | [d1, d2] => { results := [.lit (.bool true)], args := [d1, d2] }
  | _ => none }
def holdMeanwhileRow : OpenClaim := { program := "ytnmnknjgibkkaaa", sum := "cbc868608abbdbc27a4f4fd87ee59dde3f34aedff086090ec072aadce2794362", func := "seneschal/seneschallaw3.HoldMeanwhile", spec := "holdMeanwhile", inPlace := ["maps.clone"], unfollowed := true, recurses := true, apart := false }
def HoldMeanwhileSaid : Prop := holdMeanwhileRow.holds Try.pinned (OpenSpec.ofChange holdMeanwhileSpec)

/-- ITS FALSE NEIGHBOUR: 'it returns false'. Refute it at one input. -/
def holdMeanwhileWrong : ChangeSpec := { name := "holdMeanwhile", fn := fun _ => fun
  | [d1, d2] => { results := [.lit (.bool false)], args := [d1, d2] }
  | _ => none }
def HoldMeanwhileWrongFalsely : Prop := holdMeanwhileRow.holds Try.pinned (OpenSpec.ofChange holdMeanwhileWrong)

/-- 'seneschallaw3.HoldPlays': WHATEVER THE INPUT: true; the input reads as it did. -/
def holdPlaysSpec : ChangeSpec := { name := "holdPlays", fn := fun _ => fun
  | [d] => { results := [.lit (.bool true)], args := [d] }
  | _ => none }
def holdPlaysRow : OpenClaim := { program := "ytnmnknjgibkkaaa", sum := "cbc868608abbdbc27a4f4fd87ee59dde3f34aedff086090ec072aadce2794362", func := "seneschal/seneschallaw3.HoldPlays", spec := "holdPlays", inPlace := ["maps.clone"], unfollowed := true, recurses := true, apart := false }
def HoldPlaysSaid : Prop := holdPlaysRow.holds Try.pinned (OpenSpec.ofChange holdPlaysSpec)

/-- ITS FALSE NEIGHBOUR: 'it returns false'. Refute it at one input. -/
def holdPlaysWrong : ChangeSpec := { name := "holdPlays", fn := fun _ => fun
  | [d] => { results := [.lit (.bool false)], args := [d] }
  | _ => none }
def HoldPlaysWrongFalsely : Prop := holdPlaysRow.holds Try.pinned (OpenSpec.ofChange holdPlaysWrong)

/-- 'seneschallaw3.HoldOfNothing': WHATEVER THE INPUT: true; the input reads as it did. -/
def holdOfNothingSpec : ChangeSpec := { name := "holdOfNothing", fn := fun _ => fun
  | [d1, d2] => { results := [.lit (.bool true)], args := [d1, d2] }
  | _ => none }
def holdOfNothingRow : OpenClaim := { program := "ytnmnknjgibkkaaa", sum := "cbc868608abbdbc27a4f4fd87ee59dde3f34aedff086090ec072aadce2794362", func := "seneschal/seneschallaw3.HoldOfNothing", spec := "holdOfNothing", inPlace := ["maps.clone"], unfollowed := true, recurses := true, apart := false }
def HoldOfNothingSaid : Prop := holdOfNothingRow.holds Try.pinned (OpenSpec.ofChange holdOfNothingSpec)

/-- ITS FALSE NEIGHBOUR: 'it returns false'. Refute it at one input. -/
def holdOfNothingWrong : ChangeSpec := { name := "holdOfNothing", fn := fun _ => fun
  | [d1, d2] => { results := [.lit (.bool false)], args := [d1, d2] }
  | _ => none }
def HoldOfNothingWrongFalsely : Prop := holdOfNothingRow.holds Try.pinned (OpenSpec.ofChange holdOfNothingWrong)

/- THE SECOND FORM. 'bulk': how many values and letters a reading holds, each counted each time it is reached (what is shared counts as often as it is met; a slice's spare places count too). A statement '..UptoSaid' is the law's where the arguments, and the package variables that the reading takes, are together of bulk at most 1048576: NARROWER than '..Said'. Prove '..Said' where nothing that the law and all that it calls make is longer than what came in: it says more and counts as full. Else prove '..UptoSaid'. A law counts once. -/
mutual
def uptoBulk {H : Type} : DataW H → Nat
  | .lit (.string bytes) => bytes.length + 1
  | .lit _ => 1
  | .nil => 1
  | .ptr d => uptoBulk d + 1
  | .slice elems spare => uptoBulkAll elems + uptoBulkAll spare + 1
  | .agg parts => uptoBulkAll parts + 1
  | .iface _ d => uptoBulk d + 1
  | .map entries => uptoBulkEntries entries + 1
  | .held _ => 1
def uptoBulkAll {H : Type} : List (DataW H) → Nat
  | [] => 0
  | d :: r => uptoBulk d + uptoBulkAll r
def uptoBulkEntries {H : Type} : List (Lit × DataW H) → Nat
  | [] => 0
  | x :: r => uptoBulkEntry x + uptoBulkEntries r
def uptoBulkEntry {H : Type} : Lit × DataW H → Nat
  | (.string bytes, d) => bytes.length + uptoBulk d + 1
  | (_, d) => uptoBulk d + 1
 end
def uptoSmall : (H : Type) → List (DataW H) → Bool := fun _ ds => decide (uptoBulkAll ds ≤ 1048576)
def OpenSpec.upto (s : _root_.Go.ChangeSpec) : _root_.Go.OpenSpec := { _root_.Go.OpenSpec.ofChange s with cond := some uptoSmall }

/-- 'seneschallaw3.HoldTexts', WHERE WHAT IT READS IS OF BULK AT MOST 1048576: true; the input reads as it did. -/
def holdTextsUptoRow : OpenClaim := { program := "ytnmnknjgibkkaaa", sum := "cbc868608abbdbc27a4f4fd87ee59dde3f34aedff086090ec072aadce2794362", func := "seneschal/seneschallaw3.HoldTexts", spec := "holdTexts", unfollowed := true, recurses := true, apart := false, narrowed := true }
def HoldTextsUptoSaid : Prop := holdTextsUptoRow.holds Try.pinned (OpenSpec.upto holdTextsSpec)

/-- 'seneschallaw3.HoldOrder', WHERE WHAT IT READS IS OF BULK AT MOST 1048576: true; the input reads as it did. -/
def holdOrderUptoRow : OpenClaim := { program := "ytnmnknjgibkkaaa", sum := "cbc868608abbdbc27a4f4fd87ee59dde3f34aedff086090ec072aadce2794362", func := "seneschal/seneschallaw3.HoldOrder", spec := "holdOrder", unfollowed := true, recurses := true, apart := false, narrowed := true }
def HoldOrderUptoSaid : Prop := holdOrderUptoRow.holds Try.pinned (OpenSpec.upto holdOrderSpec)

/-- 'seneschallaw3.HoldFrom', WHERE WHAT IT READS IS OF BULK AT MOST 1048576: true; the input reads as it did. -/
def holdFromUptoRow : OpenClaim := { program := "ytnmnknjgibkkaaa", sum := "cbc868608abbdbc27a4f4fd87ee59dde3f34aedff086090ec072aadce2794362", func := "seneschal/seneschallaw3.HoldFrom", spec := "holdFrom", inPlace := ["maps.clone"], unfollowed := true, recurses := true, apart := false, narrowed := true }
def HoldFromUptoSaid : Prop := holdFromUptoRow.holds Try.pinned (OpenSpec.upto holdFromSpec)

/-- 'seneschallaw3.HoldStops', WHERE WHAT IT READS IS OF BULK AT MOST 1048576: true; the input reads as it did. -/
def holdStopsUptoRow : OpenClaim := { program := "ytnmnknjgibkkaaa", sum := "cbc868608abbdbc27a4f4fd87ee59dde3f34aedff086090ec072aadce2794362", func := "seneschal/seneschallaw3.HoldStops", spec := "holdStops", inPlace := ["maps.clone"], unfollowed := true, recurses := true, apart := false, narrowed := true }
def HoldStopsUptoSaid : Prop := holdStopsUptoRow.holds Try.pinned (OpenSpec.upto holdStopsSpec)

/-- 'seneschallaw3.HoldMeanwhile', WHERE WHAT IT READS IS OF BULK AT MOST 1048576: true; the input reads as it did. -/
def holdMeanwhileUptoRow : OpenClaim := { program := "ytnmnknjgibkkaaa", sum := "cbc868608abbdbc27a4f4fd87ee59dde3f34aedff086090ec072aadce2794362", func := "seneschal/seneschallaw3.HoldMeanwhile", spec := "holdMeanwhile", inPlace := ["maps.clone"], unfollowed := true, recurses := true, apart := false, narrowed := true }
def HoldMeanwhileUptoSaid : Prop := holdMeanwhileUptoRow.holds Try.pinned (OpenSpec.upto holdMeanwhileSpec)

/-- 'seneschallaw3.HoldPlays', WHERE WHAT IT READS IS OF BULK AT MOST 1048576: true; the input reads as it did. -/
def holdPlaysUptoRow : OpenClaim := { program := "ytnmnknjgibkkaaa", sum := "cbc868608abbdbc27a4f4fd87ee59dde3f34aedff086090ec072aadce2794362", func := "seneschal/seneschallaw3.HoldPlays", spec := "holdPlays", inPlace := ["maps.clone"], unfollowed := true, recurses := true, apart := false, narrowed := true }
def HoldPlaysUptoSaid : Prop := holdPlaysUptoRow.holds Try.pinned (OpenSpec.upto holdPlaysSpec)

/-- 'seneschallaw3.HoldOfNothing', WHERE WHAT IT READS IS OF BULK AT MOST 1048576: true; the input reads as it did. -/
def holdOfNothingUptoRow : OpenClaim := { program := "ytnmnknjgibkkaaa", sum := "cbc868608abbdbc27a4f4fd87ee59dde3f34aedff086090ec072aadce2794362", func := "seneschal/seneschallaw3.HoldOfNothing", spec := "holdOfNothing", inPlace := ["maps.clone"], unfollowed := true, recurses := true, apart := false, narrowed := true }
def HoldOfNothingUptoSaid : Prop := holdOfNothingUptoRow.holds Try.pinned (OpenSpec.upto holdOfNothingSpec)

end Rows
end Go.Proofs.Ytnmnknjgibkkaaa
