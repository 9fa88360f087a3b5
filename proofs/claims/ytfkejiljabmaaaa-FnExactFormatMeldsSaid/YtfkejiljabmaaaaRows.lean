/-
  No cell of these rows narrows 'for every input' (looked for: loops, veiled, ifaces, maps, wideKeys, modest, calm, conditions, laid).
  DERIVED. THE GIVEN ROWS OF THIS SEAT. 11 by the template 'for every input the law returns true; each argument reads behind the call as it read before'; 0 by the template 'total and deterministic' (their statements: YtfkejiljabmaaaaTotals.lean).
  GIVEN WITH THE SEED: the statements are not yours to turn. If you find one false, say at which input.
  Laid BY PROGRAM, IN A SANDBOX (cutbox-rows.mjs): the forced cells as the released guide's own fill.sh prints them over the translation 8661d2c67a5aeee5… (all of the seat's roots in one cut). By AI agents, Wed Nov 11 2026. No macro, syntax, notation, axiom, sorry.
-/
import Derived.Test.YtfkejiljabmaaaaChecked
import GoSem.Claim
import GoSem.ClaimJoined
import GoSem.ClaimMapViews
import Derived.JoinedTies
import Derived.KernelRfl
namespace Go.Proofs.Ytfkejiljabmaaaa
/- THE CELL 'sum', in the pinned program and in every row, IS THE sha256 OF THE DUMP (.gsa) THAT YtfkejiljabmaaaaProg.lean LOADS. Nothing in Lean hashes anything: it is a label: what it is worth is what the hold of that sum in a sandbox is worth. -/
noncomputable def Try.pinned : Pinned := { name := "ytfkejiljabmaaaa", sum := "8661d2c67a5aeee5243ebd9eb44b20cba9ceb7934cd9e3abac93dbb06843838e", checked := Try.checked }
namespace Rows
def none {H : Type} : Left H := { results := [], args := [] }

/-- 'laws.FnExactEventName': WHATEVER THE INPUT: true; the input reads as it did. -/
def fnExactEventNameSpec : ChangeSpec := { name := "fnExactEventName", fn := fun _ => fun
  | [d] => { results := [.lit (.bool true)], args := [d] }
  | _ => none }
def fnExactEventNameRow : OpenClaim := { program := "ytfkejiljabmaaaa", sum := "8661d2c67a5aeee5243ebd9eb44b20cba9ceb7934cd9e3abac93dbb06843838e", func := "loop.example/g03010/laws.FnExactEventName", spec := "fnExactEventName", apart := false }
def FnExactEventNameSaid : Prop := fnExactEventNameRow.holds Try.pinned (OpenSpec.ofChange fnExactEventNameSpec)

/-- ITS FALSE NEIGHBOUR: 'it returns false'. Refute it at one input. -/
def fnExactEventNameWrong : ChangeSpec := { name := "fnExactEventName", fn := fun _ => fun
  | [d] => { results := [.lit (.bool false)], args := [d] }
  | _ => none }
def FnExactEventNameWrongFalsely : Prop := fnExactEventNameRow.holds Try.pinned (OpenSpec.ofChange fnExactEventNameWrong)

/-- 'laws.FnExactFirstApart': WHATEVER THE INPUT: true; the input reads as it did. -/
def fnExactFirstApartSpec : ChangeSpec := { name := "fnExactFirstApart", fn := fun _ => fun
  | [d1, d2] => { results := [.lit (.bool true)], args := [d1, d2] }
  | _ => none }
def fnExactFirstApartRow : OpenClaim := { program := "ytfkejiljabmaaaa", sum := "8661d2c67a5aeee5243ebd9eb44b20cba9ceb7934cd9e3abac93dbb06843838e", func := "loop.example/g03010/laws.FnExactFirstApart", spec := "fnExactFirstApart", apart := false }
def FnExactFirstApartSaid : Prop := fnExactFirstApartRow.holds Try.pinned (OpenSpec.ofChange fnExactFirstApartSpec)

/-- ITS FALSE NEIGHBOUR: 'it returns false'. Refute it at one input. -/
def fnExactFirstApartWrong : ChangeSpec := { name := "fnExactFirstApart", fn := fun _ => fun
  | [d1, d2] => { results := [.lit (.bool false)], args := [d1, d2] }
  | _ => none }
def FnExactFirstApartWrongFalsely : Prop := fnExactFirstApartRow.holds Try.pinned (OpenSpec.ofChange fnExactFirstApartWrong)

/-- 'laws.FnExactAverageMoves': WHATEVER THE INPUT: true; the input reads as it did. -/
def fnExactAverageMovesSpec : ChangeSpec := { name := "fnExactAverageMoves", fn := fun _ => fun
  | [d] => { results := [.lit (.bool true)], args := [d] }
  | _ => none }
def fnExactAverageMovesRow : OpenClaim := { program := "ytfkejiljabmaaaa", sum := "8661d2c67a5aeee5243ebd9eb44b20cba9ceb7934cd9e3abac93dbb06843838e", func := "loop.example/g03010/laws.FnExactAverageMoves", spec := "fnExactAverageMoves", apart := false }
def FnExactAverageMovesSaid : Prop := fnExactAverageMovesRow.holds Try.pinned (OpenSpec.ofChange fnExactAverageMovesSpec)

/-- ITS FALSE NEIGHBOUR: 'it returns false'. Refute it at one input. -/
def fnExactAverageMovesWrong : ChangeSpec := { name := "fnExactAverageMoves", fn := fun _ => fun
  | [d] => { results := [.lit (.bool false)], args := [d] }
  | _ => none }
def FnExactAverageMovesWrongFalsely : Prop := fnExactAverageMovesRow.holds Try.pinned (OpenSpec.ofChange fnExactAverageMovesWrong)

/-- 'laws.FnExactCountEvents': WHATEVER THE INPUT: true; the input reads as it did. -/
def fnExactCountEventsSpec : ChangeSpec := { name := "fnExactCountEvents", fn := fun _ => fun
  | [d1, d2] => { results := [.lit (.bool true)], args := [d1, d2] }
  | _ => none }
def fnExactCountEventsRow : OpenClaim := { program := "ytfkejiljabmaaaa", sum := "8661d2c67a5aeee5243ebd9eb44b20cba9ceb7934cd9e3abac93dbb06843838e", func := "loop.example/g03010/laws.FnExactCountEvents", spec := "fnExactCountEvents", apart := false }
def FnExactCountEventsSaid : Prop := fnExactCountEventsRow.holds Try.pinned (OpenSpec.ofChange fnExactCountEventsSpec)

/-- ITS FALSE NEIGHBOUR: 'it returns false'. Refute it at one input. -/
def fnExactCountEventsWrong : ChangeSpec := { name := "fnExactCountEvents", fn := fun _ => fun
  | [d1, d2] => { results := [.lit (.bool false)], args := [d1, d2] }
  | _ => none }
def FnExactCountEventsWrongFalsely : Prop := fnExactCountEventsRow.holds Try.pinned (OpenSpec.ofChange fnExactCountEventsWrong)

/-- 'laws.FnExactWinsOf': WHATEVER THE INPUT: true; the input reads as it did. -/
def fnExactWinsOfSpec : ChangeSpec := { name := "fnExactWinsOf", fn := fun _ => fun
  | [d1, d2, d3] => { results := [.lit (.bool true)], args := [d1, d2, d3] }
  | _ => none }
def fnExactWinsOfRow : OpenClaim := { program := "ytfkejiljabmaaaa", sum := "8661d2c67a5aeee5243ebd9eb44b20cba9ceb7934cd9e3abac93dbb06843838e", func := "loop.example/g03010/laws.FnExactWinsOf", spec := "fnExactWinsOf", apart := false }
def FnExactWinsOfSaid : Prop := fnExactWinsOfRow.holds Try.pinned (OpenSpec.ofChange fnExactWinsOfSpec)

/-- ITS FALSE NEIGHBOUR: 'it returns false'. Refute it at one input. -/
def fnExactWinsOfWrong : ChangeSpec := { name := "fnExactWinsOf", fn := fun _ => fun
  | [d1, d2, d3] => { results := [.lit (.bool false)], args := [d1, d2, d3] }
  | _ => none }
def FnExactWinsOfWrongFalsely : Prop := fnExactWinsOfRow.holds Try.pinned (OpenSpec.ofChange fnExactWinsOfWrong)

/-- 'laws.FnExactMeldCount': WHATEVER THE INPUT: true; the input reads as it did. -/
def fnExactMeldCountSpec : ChangeSpec := { name := "fnExactMeldCount", fn := fun _ => fun
  | [d] => { results := [.lit (.bool true)], args := [d] }
  | _ => none }
def fnExactMeldCountRow : OpenClaim := { program := "ytfkejiljabmaaaa", sum := "8661d2c67a5aeee5243ebd9eb44b20cba9ceb7934cd9e3abac93dbb06843838e", func := "loop.example/g03010/laws.FnExactMeldCount", spec := "fnExactMeldCount", apart := false }
def FnExactMeldCountSaid : Prop := fnExactMeldCountRow.holds Try.pinned (OpenSpec.ofChange fnExactMeldCountSpec)

/-- ITS FALSE NEIGHBOUR: 'it returns false'. Refute it at one input. -/
def fnExactMeldCountWrong : ChangeSpec := { name := "fnExactMeldCount", fn := fun _ => fun
  | [d] => { results := [.lit (.bool false)], args := [d] }
  | _ => none }
def FnExactMeldCountWrongFalsely : Prop := fnExactMeldCountRow.holds Try.pinned (OpenSpec.ofChange fnExactMeldCountWrong)

/-- 'laws.FnExactFormatMelds': WHATEVER THE INPUT: true; the input reads as it did. -/
def fnExactFormatMeldsSpec : ChangeSpec := { name := "fnExactFormatMelds", fn := fun _ => fun
  | [d] => { results := [.lit (.bool true)], args := [d] }
  | _ => none }
def fnExactFormatMeldsRow : OpenClaim := { program := "ytfkejiljabmaaaa", sum := "8661d2c67a5aeee5243ebd9eb44b20cba9ceb7934cd9e3abac93dbb06843838e", func := "loop.example/g03010/laws.FnExactFormatMelds", spec := "fnExactFormatMelds", inPlace := ["internal/abi.NoEscape", "internal/bytealg.MakeNoZero"], apart := false }
def FnExactFormatMeldsSaid : Prop := fnExactFormatMeldsRow.holds Try.pinned (OpenSpec.ofChange fnExactFormatMeldsSpec)

/-- ITS FALSE NEIGHBOUR: 'it returns false'. Refute it at one input. -/
def fnExactFormatMeldsWrong : ChangeSpec := { name := "fnExactFormatMelds", fn := fun _ => fun
  | [d] => { results := [.lit (.bool false)], args := [d] }
  | _ => none }
def FnExactFormatMeldsWrongFalsely : Prop := fnExactFormatMeldsRow.holds Try.pinned (OpenSpec.ofChange fnExactFormatMeldsWrong)

/-- 'laws.FnExactIsRecorded': WHATEVER THE INPUT: true; the input reads as it did. -/
def fnExactIsRecordedSpec : ChangeSpec := { name := "fnExactIsRecorded", fn := fun _ => fun
  | [d] => { results := [.lit (.bool true)], args := [d] }
  | _ => none }
def fnExactIsRecordedRow : OpenClaim := { program := "ytfkejiljabmaaaa", sum := "8661d2c67a5aeee5243ebd9eb44b20cba9ceb7934cd9e3abac93dbb06843838e", func := "loop.example/g03010/laws.FnExactIsRecorded", spec := "fnExactIsRecorded", apart := false }
def FnExactIsRecordedSaid : Prop := fnExactIsRecordedRow.holds Try.pinned (OpenSpec.ofChange fnExactIsRecordedSpec)

/-- ITS FALSE NEIGHBOUR: 'it returns false'. Refute it at one input. -/
def fnExactIsRecordedWrong : ChangeSpec := { name := "fnExactIsRecorded", fn := fun _ => fun
  | [d] => { results := [.lit (.bool false)], args := [d] }
  | _ => none }
def FnExactIsRecordedWrongFalsely : Prop := fnExactIsRecordedRow.holds Try.pinned (OpenSpec.ofChange fnExactIsRecordedWrong)

/-- 'laws.FnExactWildShare': WHATEVER THE INPUT: true; the input reads as it did. -/
def fnExactWildShareSpec : ChangeSpec := { name := "fnExactWildShare", fn := fun _ => fun
  | [d] => { results := [.lit (.bool true)], args := [d] }
  | _ => none }
def fnExactWildShareRow : OpenClaim := { program := "ytfkejiljabmaaaa", sum := "8661d2c67a5aeee5243ebd9eb44b20cba9ceb7934cd9e3abac93dbb06843838e", func := "loop.example/g03010/laws.FnExactWildShare", spec := "fnExactWildShare", apart := false }
def FnExactWildShareSaid : Prop := fnExactWildShareRow.holds Try.pinned (OpenSpec.ofChange fnExactWildShareSpec)

/-- ITS FALSE NEIGHBOUR: 'it returns false'. Refute it at one input. -/
def fnExactWildShareWrong : ChangeSpec := { name := "fnExactWildShare", fn := fun _ => fun
  | [d] => { results := [.lit (.bool false)], args := [d] }
  | _ => none }
def FnExactWildShareWrongFalsely : Prop := fnExactWildShareRow.holds Try.pinned (OpenSpec.ofChange fnExactWildShareWrong)

/-- 'laws.FnExactDealEvents': WHATEVER THE INPUT: true; the input reads as it did. -/
def fnExactDealEventsSpec : ChangeSpec := { name := "fnExactDealEvents", fn := fun _ => fun
  | [d1, d2, d3] => { results := [.lit (.bool true)], args := [d1, d2, d3] }
  | _ => none }
def fnExactDealEventsRow : OpenClaim := { program := "ytfkejiljabmaaaa", sum := "8661d2c67a5aeee5243ebd9eb44b20cba9ceb7934cd9e3abac93dbb06843838e", func := "loop.example/g03010/laws.FnExactDealEvents", spec := "fnExactDealEvents", apart := false }
def FnExactDealEventsSaid : Prop := fnExactDealEventsRow.holds Try.pinned (OpenSpec.ofChange fnExactDealEventsSpec)

/-- ITS FALSE NEIGHBOUR: 'it returns false'. Refute it at one input. -/
def fnExactDealEventsWrong : ChangeSpec := { name := "fnExactDealEvents", fn := fun _ => fun
  | [d1, d2, d3] => { results := [.lit (.bool false)], args := [d1, d2, d3] }
  | _ => none }
def FnExactDealEventsWrongFalsely : Prop := fnExactDealEventsRow.holds Try.pinned (OpenSpec.ofChange fnExactDealEventsWrong)

/-- 'laws.FnExactIsZeroSum': WHATEVER THE INPUT: true; the input reads as it did. -/
def fnExactIsZeroSumSpec : ChangeSpec := { name := "fnExactIsZeroSum", fn := fun _ => fun
  | [d] => { results := [.lit (.bool true)], args := [d] }
  | _ => none }
def fnExactIsZeroSumRow : OpenClaim := { program := "ytfkejiljabmaaaa", sum := "8661d2c67a5aeee5243ebd9eb44b20cba9ceb7934cd9e3abac93dbb06843838e", func := "loop.example/g03010/laws.FnExactIsZeroSum", spec := "fnExactIsZeroSum", apart := false }
def FnExactIsZeroSumSaid : Prop := fnExactIsZeroSumRow.holds Try.pinned (OpenSpec.ofChange fnExactIsZeroSumSpec)

/-- ITS FALSE NEIGHBOUR: 'it returns false'. Refute it at one input. -/
def fnExactIsZeroSumWrong : ChangeSpec := { name := "fnExactIsZeroSum", fn := fun _ => fun
  | [d] => { results := [.lit (.bool false)], args := [d] }
  | _ => none }
def FnExactIsZeroSumWrongFalsely : Prop := fnExactIsZeroSumRow.holds Try.pinned (OpenSpec.ofChange fnExactIsZeroSumWrong)

/- THE SECOND FORM. 'bulk': how many values and letters a reading holds, each counted each time it is reached (what is shared counts as often as it is met; a slice's spare places count too). A statement '..UptoSaid' is the law's where the arguments, and the package variables that the reading takes, are together of bulk at most 1048576: NARROWER than '..Said'. Prove '..Said' where nothing that the law and all that it calls make is longer than what came in: it says more and counts as full. Else prove '..UptoSaid'. A law counts once. -/
mutual
def uptoBulk {H : Type} : DataW H → Nat
  | .lit (.string bytes) => bytes.length + 1
  | .lit _ => 1
  | .nil => 1
  | .ptr d => uptoBulk d + 1
  | .slice elems spare => uptoBulkAll elems + uptoBulkAll spare + 1
  | .agg parts => uptoBulkAll parts + 1
  | .iface _ d => uptoBulk d + 1
  | .map entries => uptoBulkEntries entries + 1
  | .held _ => 1
def uptoBulkAll {H : Type} : List (DataW H) → Nat
  | [] => 0
  | d :: r => uptoBulk d + uptoBulkAll r
def uptoBulkEntries {H : Type} : List (Lit × DataW H) → Nat
  | [] => 0
  | x :: r => uptoBulkEntry x + uptoBulkEntries r
def uptoBulkEntry {H : Type} : Lit × DataW H → Nat
  | (.string bytes, d) => bytes.length + uptoBulk d + 1
  | (_, d) => uptoBulk d + 1
 end
def uptoSmall : (H : Type) → List (DataW H) → Bool := fun _ ds => decide (uptoBulkAll ds ≤ 1048576)
def OpenSpec.upto (s : _root_.Go.ChangeSpec) : _root_.Go.OpenSpec := { _root_.Go.OpenSpec.ofChange s with cond := some uptoSmall }

/-- 'laws.FnExactEventName', WHERE WHAT IT READS IS OF BULK AT MOST 1048576: true; the input reads as it did. -/
def fnExactEventNameUptoRow : OpenClaim := { program := "ytfkejiljabmaaaa", sum := "8661d2c67a5aeee5243ebd9eb44b20cba9ceb7934cd9e3abac93dbb06843838e", func := "loop.example/g03010/laws.FnExactEventName", spec := "fnExactEventName", apart := false, narrowed := true }
def FnExactEventNameUptoSaid : Prop := fnExactEventNameUptoRow.holds Try.pinned (OpenSpec.upto fnExactEventNameSpec)

/-- 'laws.FnExactFirstApart', WHERE WHAT IT READS IS OF BULK AT MOST 1048576: true; the input reads as it did. -/
def fnExactFirstApartUptoRow : OpenClaim := { program := "ytfkejiljabmaaaa", sum := "8661d2c67a5aeee5243ebd9eb44b20cba9ceb7934cd9e3abac93dbb06843838e", func := "loop.example/g03010/laws.FnExactFirstApart", spec := "fnExactFirstApart", apart := false, narrowed := true }
def FnExactFirstApartUptoSaid : Prop := fnExactFirstApartUptoRow.holds Try.pinned (OpenSpec.upto fnExactFirstApartSpec)

/-- 'laws.FnExactAverageMoves', WHERE WHAT IT READS IS OF BULK AT MOST 1048576: true; the input reads as it did. -/
def fnExactAverageMovesUptoRow : OpenClaim := { program := "ytfkejiljabmaaaa", sum := "8661d2c67a5aeee5243ebd9eb44b20cba9ceb7934cd9e3abac93dbb06843838e", func := "loop.example/g03010/laws.FnExactAverageMoves", spec := "fnExactAverageMoves", apart := false, narrowed := true }
def FnExactAverageMovesUptoSaid : Prop := fnExactAverageMovesUptoRow.holds Try.pinned (OpenSpec.upto fnExactAverageMovesSpec)

/-- 'laws.FnExactCountEvents', WHERE WHAT IT READS IS OF BULK AT MOST 1048576: true; the input reads as it did. -/
def fnExactCountEventsUptoRow : OpenClaim := { program := "ytfkejiljabmaaaa", sum := "8661d2c67a5aeee5243ebd9eb44b20cba9ceb7934cd9e3abac93dbb06843838e", func := "loop.example/g03010/laws.FnExactCountEvents", spec := "fnExactCountEvents", apart := false, narrowed := true }
def FnExactCountEventsUptoSaid : Prop := fnExactCountEventsUptoRow.holds Try.pinned (OpenSpec.upto fnExactCountEventsSpec)

/-- 'laws.FnExactWinsOf', WHERE WHAT IT READS IS OF BULK AT MOST 1048576: true; the input reads as it did. -/
def fnExactWinsOfUptoRow : OpenClaim := { program := "ytfkejiljabmaaaa", sum := "8661d2c67a5aeee5243ebd9eb44b20cba9ceb7934cd9e3abac93dbb06843838e", func := "loop.example/g03010/laws.FnExactWinsOf", spec := "fnExactWinsOf", apart := false, narrowed := true }
def FnExactWinsOfUptoSaid : Prop := fnExactWinsOfUptoRow.holds Try.pinned (OpenSpec.upto fnExactWinsOfSpec)

/-- 'laws.FnExactMeldCount', WHERE WHAT IT READS IS OF BULK AT MOST 1048576: true; the input reads as it did. -/
def fnExactMeldCountUptoRow : OpenClaim := { program := "ytfkejiljabmaaaa", sum := "8661d2c67a5aeee5243ebd9eb44b20cba9ceb7934cd9e3abac93dbb06843838e", func := "loop.example/g03010/laws.FnExactMeldCount", spec := "fnExactMeldCount", apart := false, narrowed := true }
def FnExactMeldCountUptoSaid : Prop := fnExactMeldCountUptoRow.holds Try.pinned (OpenSpec.upto fnExactMeldCountSpec)

/-- 'laws.FnExactFormatMelds', WHERE WHAT IT READS IS OF BULK AT MOST 1048576: true; the input reads as it did. -/
def fnExactFormatMeldsUptoRow : OpenClaim := { program := "ytfkejiljabmaaaa", sum := "8661d2c67a5aeee5243ebd9eb44b20cba9ceb7934cd9e3abac93dbb06843838e", func := "loop.example/g03010/laws.FnExactFormatMelds", spec := "fnExactFormatMelds", inPlace := ["internal/abi.NoEscape", "internal/bytealg.MakeNoZero"], apart := false, narrowed := true }
def FnExactFormatMeldsUptoSaid : Prop := fnExactFormatMeldsUptoRow.holds Try.pinned (OpenSpec.upto fnExactFormatMeldsSpec)

/-- 'laws.FnExactIsRecorded', WHERE WHAT IT READS IS OF BULK AT MOST 1048576: true; the input reads as it did. -/
def fnExactIsRecordedUptoRow : OpenClaim := { program := "ytfkejiljabmaaaa", sum := "8661d2c67a5aeee5243ebd9eb44b20cba9ceb7934cd9e3abac93dbb06843838e", func := "loop.example/g03010/laws.FnExactIsRecorded", spec := "fnExactIsRecorded", apart := false, narrowed := true }
def FnExactIsRecordedUptoSaid : Prop := fnExactIsRecordedUptoRow.holds Try.pinned (OpenSpec.upto fnExactIsRecordedSpec)

/-- 'laws.FnExactWildShare', WHERE WHAT IT READS IS OF BULK AT MOST 1048576: true; the input reads as it did. -/
def fnExactWildShareUptoRow : OpenClaim := { program := "ytfkejiljabmaaaa", sum := "8661d2c67a5aeee5243ebd9eb44b20cba9ceb7934cd9e3abac93dbb06843838e", func := "loop.example/g03010/laws.FnExactWildShare", spec := "fnExactWildShare", apart := false, narrowed := true }
def FnExactWildShareUptoSaid : Prop := fnExactWildShareUptoRow.holds Try.pinned (OpenSpec.upto fnExactWildShareSpec)

/-- 'laws.FnExactDealEvents', WHERE WHAT IT READS IS OF BULK AT MOST 1048576: true; the input reads as it did. -/
def fnExactDealEventsUptoRow : OpenClaim := { program := "ytfkejiljabmaaaa", sum := "8661d2c67a5aeee5243ebd9eb44b20cba9ceb7934cd9e3abac93dbb06843838e", func := "loop.example/g03010/laws.FnExactDealEvents", spec := "fnExactDealEvents", apart := false, narrowed := true }
def FnExactDealEventsUptoSaid : Prop := fnExactDealEventsUptoRow.holds Try.pinned (OpenSpec.upto fnExactDealEventsSpec)

/-- 'laws.FnExactIsZeroSum', WHERE WHAT IT READS IS OF BULK AT MOST 1048576: true; the input reads as it did. -/
def fnExactIsZeroSumUptoRow : OpenClaim := { program := "ytfkejiljabmaaaa", sum := "8661d2c67a5aeee5243ebd9eb44b20cba9ceb7934cd9e3abac93dbb06843838e", func := "loop.example/g03010/laws.FnExactIsZeroSum", spec := "fnExactIsZeroSum", apart := false, narrowed := true }
def FnExactIsZeroSumUptoSaid : Prop := fnExactIsZeroSumUptoRow.holds Try.pinned (OpenSpec.upto fnExactIsZeroSumSpec)

end Rows
end Go.Proofs.Ytfkejiljabmaaaa
