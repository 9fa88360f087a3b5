/-
  No cell of these rows narrows 'for every input' (looked for: loops, veiled, ifaces, maps, wideKeys, modest, calm, conditions, laid).
  DERIVED. THE GIVEN ROWS OF THIS SEAT. 9 by the template 'for every input the law returns true; each argument reads behind the call as it read before'; 0 by the template 'total and deterministic' (their statements: YtmdfedjdnjaaiaaGreatTotals.lean).
  GIVEN WITH THE SEED: the statements are not yours to turn. If you find one false, say at which input.
  Laid BY PROGRAM, IN A SANDBOX (cutbox-rows.mjs): the forced cells as the released guide's own fill.sh prints them over the translation 5ff2e99eb3decabf… (all of the seat's roots in one cut). By AI agents, Wed Nov 11 2026. No macro, syntax, notation, axiom, sorry.
-/
import Derived.Test.YtmdfedjdnjaaiaaGreatChecked
import GoSem.Claim
import GoSem.ClaimJoined
import GoSem.ClaimMapViews
import Derived.JoinedTies
import Derived.KernelRfl
namespace Go.Proofs.YtmdfedjdnjaaiaaGreat
/- THE CELL 'sum', in the pinned program and in every row, IS THE sha256 OF THE DUMP (.gsa) THAT YtmdfedjdnjaaiaaGreatProg.lean LOADS. Nothing in Lean hashes anything: it is a label: what it is worth is what the hold of that sum in a sandbox is worth. -/
noncomputable def Tryz.pinned : Pinned := { name := "ytmdfedjdnjaaiaagreat", sum := "5ff2e99eb3decabf7ea569bd6b2582d8c72f2d3c146f536f03d690fc611194e6", checked := Tryz.checked }
namespace Rows
def none {H : Type} : Left H := { results := [], args := [] }

/-- 'laws.FnRuns': WHATEVER THE INPUT: true; the input reads as it did. -/
def fnRunsSpec : ChangeSpec := { name := "fnRuns", fn := fun _ => fun
  | [d] => { results := [.lit (.bool true)], args := [d] }
  | _ => none }
def fnRunsRow : OpenClaim := { program := "ytmdfedjdnjaaiaagreat", sum := "5ff2e99eb3decabf7ea569bd6b2582d8c72f2d3c146f536f03d690fc611194e6", func := "loop.example/g03010/laws.FnRuns", spec := "fnRuns", recurses := true, apart := false }
def FnRunsSaid : Prop := fnRunsRow.holds Tryz.pinned (OpenSpec.ofChange fnRunsSpec)

/-- ITS FALSE NEIGHBOUR: 'it returns false'. Refute it at one input. -/
def fnRunsWrong : ChangeSpec := { name := "fnRuns", fn := fun _ => fun
  | [d] => { results := [.lit (.bool false)], args := [d] }
  | _ => none }
def FnRunsWrongFalsely : Prop := fnRunsRow.holds Tryz.pinned (OpenSpec.ofChange fnRunsWrong)

/-- 'laws.FnMeasured': WHATEVER THE INPUT: true; the input reads as it did. -/
def fnMeasuredSpec : ChangeSpec := { name := "fnMeasured", fn := fun _ => fun
  | [d] => { results := [.lit (.bool true)], args := [d] }
  | _ => none }
def fnMeasuredRow : OpenClaim := { program := "ytmdfedjdnjaaiaagreat", sum := "5ff2e99eb3decabf7ea569bd6b2582d8c72f2d3c146f536f03d690fc611194e6", func := "loop.example/g03010/laws.FnMeasured", spec := "fnMeasured", recurses := true, apart := false }
def FnMeasuredSaid : Prop := fnMeasuredRow.holds Tryz.pinned (OpenSpec.ofChange fnMeasuredSpec)

/-- ITS FALSE NEIGHBOUR: 'it returns false'. Refute it at one input. -/
def fnMeasuredWrong : ChangeSpec := { name := "fnMeasured", fn := fun _ => fun
  | [d] => { results := [.lit (.bool false)], args := [d] }
  | _ => none }
def FnMeasuredWrongFalsely : Prop := fnMeasuredRow.holds Tryz.pinned (OpenSpec.ofChange fnMeasuredWrong)

/-- 'laws.FnExactMatchRound': WHATEVER THE INPUT: true; the input reads as it did. -/
def fnExactMatchRoundSpec : ChangeSpec := { name := "fnExactMatchRound", fn := fun _ => fun
  | [d1, d2, d3, d4] => { results := [.lit (.bool true)], args := [d1, d2, d3, d4] }
  | _ => none }
def fnExactMatchRoundRow : OpenClaim := { program := "ytmdfedjdnjaaiaagreat", sum := "5ff2e99eb3decabf7ea569bd6b2582d8c72f2d3c146f536f03d690fc611194e6", func := "loop.example/g03010/laws.FnExactMatchRound", spec := "fnExactMatchRound", apart := false }
def FnExactMatchRoundSaid : Prop := fnExactMatchRoundRow.holds Tryz.pinned (OpenSpec.ofChange fnExactMatchRoundSpec)

/-- ITS FALSE NEIGHBOUR: 'it returns false'. Refute it at one input. -/
def fnExactMatchRoundWrong : ChangeSpec := { name := "fnExactMatchRound", fn := fun _ => fun
  | [d1, d2, d3, d4] => { results := [.lit (.bool false)], args := [d1, d2, d3, d4] }
  | _ => none }
def FnExactMatchRoundWrongFalsely : Prop := fnExactMatchRoundRow.holds Tryz.pinned (OpenSpec.ofChange fnExactMatchRoundWrong)

/-- 'laws.FnExactFaultOf': WHATEVER THE INPUT: true; the input reads as it did. -/
def fnExactFaultOfSpec : ChangeSpec := { name := "fnExactFaultOf", fn := fun _ => fun
  | [d] => { results := [.lit (.bool true)], args := [d] }
  | _ => none }
def fnExactFaultOfRow : OpenClaim := { program := "ytmdfedjdnjaaiaagreat", sum := "5ff2e99eb3decabf7ea569bd6b2582d8c72f2d3c146f536f03d690fc611194e6", func := "loop.example/g03010/laws.FnExactFaultOf", spec := "fnExactFaultOf", apart := false }
def FnExactFaultOfSaid : Prop := fnExactFaultOfRow.holds Tryz.pinned (OpenSpec.ofChange fnExactFaultOfSpec)

/-- ITS FALSE NEIGHBOUR: 'it returns false'. Refute it at one input. -/
def fnExactFaultOfWrong : ChangeSpec := { name := "fnExactFaultOf", fn := fun _ => fun
  | [d] => { results := [.lit (.bool false)], args := [d] }
  | _ => none }
def FnExactFaultOfWrongFalsely : Prop := fnExactFaultOfRow.holds Tryz.pinned (OpenSpec.ofChange fnExactFaultOfWrong)

/-- 'laws.FnRecords': WHATEVER THE INPUT: true; the input reads as it did. -/
def fnRecordsSpec : ChangeSpec := { name := "fnRecords", fn := fun _ => fun
  | [d] => { results := [.lit (.bool true)], args := [d] }
  | _ => none }
def fnRecordsRow : OpenClaim := { program := "ytmdfedjdnjaaiaagreat", sum := "5ff2e99eb3decabf7ea569bd6b2582d8c72f2d3c146f536f03d690fc611194e6", func := "loop.example/g03010/laws.FnRecords", spec := "fnRecords", inPlace := ["internal/bytealg.IndexByteString"], recurses := true, apart := false }
def FnRecordsSaid : Prop := fnRecordsRow.holds Tryz.pinned (OpenSpec.ofChange fnRecordsSpec)

/-- ITS FALSE NEIGHBOUR: 'it returns false'. Refute it at one input. -/
def fnRecordsWrong : ChangeSpec := { name := "fnRecords", fn := fun _ => fun
  | [d] => { results := [.lit (.bool false)], args := [d] }
  | _ => none }
def FnRecordsWrongFalsely : Prop := fnRecordsRow.holds Tryz.pinned (OpenSpec.ofChange fnRecordsWrong)

/-- 'laws.FnExactCouldHave': WHATEVER THE INPUT: true; the input reads as it did. -/
def fnExactCouldHaveSpec : ChangeSpec := { name := "fnExactCouldHave", fn := fun _ => fun
  | [d1, d2] => { results := [.lit (.bool true)], args := [d1, d2] }
  | _ => none }
def fnExactCouldHaveRow : OpenClaim := { program := "ytmdfedjdnjaaiaagreat", sum := "5ff2e99eb3decabf7ea569bd6b2582d8c72f2d3c146f536f03d690fc611194e6", func := "loop.example/g03010/laws.FnExactCouldHave", spec := "fnExactCouldHave", apart := false }
def FnExactCouldHaveSaid : Prop := fnExactCouldHaveRow.holds Tryz.pinned (OpenSpec.ofChange fnExactCouldHaveSpec)

/-- ITS FALSE NEIGHBOUR: 'it returns false'. Refute it at one input. -/
def fnExactCouldHaveWrong : ChangeSpec := { name := "fnExactCouldHave", fn := fun _ => fun
  | [d1, d2] => { results := [.lit (.bool false)], args := [d1, d2] }
  | _ => none }
def FnExactCouldHaveWrongFalsely : Prop := fnExactCouldHaveRow.holds Tryz.pinned (OpenSpec.ofChange fnExactCouldHaveWrong)

/-- 'laws.FnExactMatchSheet': WHATEVER THE INPUT: true; the input reads as it did. -/
def fnExactMatchSheetSpec : ChangeSpec := { name := "fnExactMatchSheet", fn := fun _ => fun
  | [d1, d2, d3, d4] => { results := [.lit (.bool true)], args := [d1, d2, d3, d4] }
  | _ => none }
def fnExactMatchSheetRow : OpenClaim := { program := "ytmdfedjdnjaaiaagreat", sum := "5ff2e99eb3decabf7ea569bd6b2582d8c72f2d3c146f536f03d690fc611194e6", func := "loop.example/g03010/laws.FnExactMatchSheet", spec := "fnExactMatchSheet", apart := false }
def FnExactMatchSheetSaid : Prop := fnExactMatchSheetRow.holds Tryz.pinned (OpenSpec.ofChange fnExactMatchSheetSpec)

/-- ITS FALSE NEIGHBOUR: 'it returns false'. Refute it at one input. -/
def fnExactMatchSheetWrong : ChangeSpec := { name := "fnExactMatchSheet", fn := fun _ => fun
  | [d1, d2, d3, d4] => { results := [.lit (.bool false)], args := [d1, d2, d3, d4] }
  | _ => none }
def FnExactMatchSheetWrongFalsely : Prop := fnExactMatchSheetRow.holds Tryz.pinned (OpenSpec.ofChange fnExactMatchSheetWrong)

/-- 'laws.FnExactBlunders': WHATEVER THE INPUT: true; the input reads as it did. -/
def fnExactBlundersSpec : ChangeSpec := { name := "fnExactBlunders", fn := fun _ => fun
  | [d] => { results := [.lit (.bool true)], args := [d] }
  | _ => none }
def fnExactBlundersRow : OpenClaim := { program := "ytmdfedjdnjaaiaagreat", sum := "5ff2e99eb3decabf7ea569bd6b2582d8c72f2d3c146f536f03d690fc611194e6", func := "loop.example/g03010/laws.FnExactBlunders", spec := "fnExactBlunders", apart := false }
def FnExactBlundersSaid : Prop := fnExactBlundersRow.holds Tryz.pinned (OpenSpec.ofChange fnExactBlundersSpec)

/-- ITS FALSE NEIGHBOUR: 'it returns false'. Refute it at one input. -/
def fnExactBlundersWrong : ChangeSpec := { name := "fnExactBlunders", fn := fun _ => fun
  | [d] => { results := [.lit (.bool false)], args := [d] }
  | _ => none }
def FnExactBlundersWrongFalsely : Prop := fnExactBlundersRow.holds Tryz.pinned (OpenSpec.ofChange fnExactBlundersWrong)

/-- 'laws.FnExactGameAt': WHATEVER THE INPUT: true; the input reads as it did. -/
def fnExactGameAtSpec : ChangeSpec := { name := "fnExactGameAt", fn := fun _ => fun
  | [d1, d2] => { results := [.lit (.bool true)], args := [d1, d2] }
  | _ => none }
def fnExactGameAtRow : OpenClaim := { program := "ytmdfedjdnjaaiaagreat", sum := "5ff2e99eb3decabf7ea569bd6b2582d8c72f2d3c146f536f03d690fc611194e6", func := "loop.example/g03010/laws.FnExactGameAt", spec := "fnExactGameAt", apart := false }
def FnExactGameAtSaid : Prop := fnExactGameAtRow.holds Tryz.pinned (OpenSpec.ofChange fnExactGameAtSpec)

/-- ITS FALSE NEIGHBOUR: 'it returns false'. Refute it at one input. -/
def fnExactGameAtWrong : ChangeSpec := { name := "fnExactGameAt", fn := fun _ => fun
  | [d1, d2] => { results := [.lit (.bool false)], args := [d1, d2] }
  | _ => none }
def FnExactGameAtWrongFalsely : Prop := fnExactGameAtRow.holds Tryz.pinned (OpenSpec.ofChange fnExactGameAtWrong)

/- THE SECOND FORM. 'bulk': how many values and letters a reading holds, each counted each time it is reached (what is shared counts as often as it is met; a slice's spare places count too). A statement '..UptoSaid' is the law's where the arguments, and the package variables that the reading takes, are together of bulk at most 1048576: NARROWER than '..Said'. Prove '..Said' where nothing that the law and all that it calls make is longer than what came in: it says more and counts as full. Else prove '..UptoSaid'. A law counts once. -/
mutual
def uptoBulk {H : Type} : DataW H → Nat
  | .lit (.string bytes) => bytes.length + 1
  | .lit _ => 1
  | .nil => 1
  | .ptr d => uptoBulk d + 1
  | .slice elems spare => uptoBulkAll elems + uptoBulkAll spare + 1
  | .agg parts => uptoBulkAll parts + 1
  | .iface _ d => uptoBulk d + 1
  | .map entries => uptoBulkEntries entries + 1
  | .held _ => 1
def uptoBulkAll {H : Type} : List (DataW H) → Nat
  | [] => 0
  | d :: r => uptoBulk d + uptoBulkAll r
def uptoBulkEntries {H : Type} : List (Lit × DataW H) → Nat
  | [] => 0
  | x :: r => uptoBulkEntry x + uptoBulkEntries r
def uptoBulkEntry {H : Type} : Lit × DataW H → Nat
  | (.string bytes, d) => bytes.length + uptoBulk d + 1
  | (_, d) => uptoBulk d + 1
 end
def uptoSmall : (H : Type) → List (DataW H) → Bool := fun _ ds => decide (uptoBulkAll ds ≤ 1048576)
def OpenSpec.upto (s : _root_.Go.ChangeSpec) : _root_.Go.OpenSpec := { _root_.Go.OpenSpec.ofChange s with cond := some uptoSmall }

/-- 'laws.FnRuns', WHERE WHAT IT READS IS OF BULK AT MOST 1048576: true; the input reads as it did. -/
def fnRunsUptoRow : OpenClaim := { program := "ytmdfedjdnjaaiaagreat", sum := "5ff2e99eb3decabf7ea569bd6b2582d8c72f2d3c146f536f03d690fc611194e6", func := "loop.example/g03010/laws.FnRuns", spec := "fnRuns", recurses := true, apart := false, narrowed := true }
def FnRunsUptoSaid : Prop := fnRunsUptoRow.holds Tryz.pinned (OpenSpec.upto fnRunsSpec)

/-- 'laws.FnMeasured', WHERE WHAT IT READS IS OF BULK AT MOST 1048576: true; the input reads as it did. -/
def fnMeasuredUptoRow : OpenClaim := { program := "ytmdfedjdnjaaiaagreat", sum := "5ff2e99eb3decabf7ea569bd6b2582d8c72f2d3c146f536f03d690fc611194e6", func := "loop.example/g03010/laws.FnMeasured", spec := "fnMeasured", recurses := true, apart := false, narrowed := true }
def FnMeasuredUptoSaid : Prop := fnMeasuredUptoRow.holds Tryz.pinned (OpenSpec.upto fnMeasuredSpec)

/-- 'laws.FnExactMatchRound', WHERE WHAT IT READS IS OF BULK AT MOST 1048576: true; the input reads as it did. -/
def fnExactMatchRoundUptoRow : OpenClaim := { program := "ytmdfedjdnjaaiaagreat", sum := "5ff2e99eb3decabf7ea569bd6b2582d8c72f2d3c146f536f03d690fc611194e6", func := "loop.example/g03010/laws.FnExactMatchRound", spec := "fnExactMatchRound", apart := false, narrowed := true }
def FnExactMatchRoundUptoSaid : Prop := fnExactMatchRoundUptoRow.holds Tryz.pinned (OpenSpec.upto fnExactMatchRoundSpec)

/-- 'laws.FnExactFaultOf', WHERE WHAT IT READS IS OF BULK AT MOST 1048576: true; the input reads as it did. -/
def fnExactFaultOfUptoRow : OpenClaim := { program := "ytmdfedjdnjaaiaagreat", sum := "5ff2e99eb3decabf7ea569bd6b2582d8c72f2d3c146f536f03d690fc611194e6", func := "loop.example/g03010/laws.FnExactFaultOf", spec := "fnExactFaultOf", apart := false, narrowed := true }
def FnExactFaultOfUptoSaid : Prop := fnExactFaultOfUptoRow.holds Tryz.pinned (OpenSpec.upto fnExactFaultOfSpec)

/-- 'laws.FnRecords', WHERE WHAT IT READS IS OF BULK AT MOST 1048576: true; the input reads as it did. -/
def fnRecordsUptoRow : OpenClaim := { program := "ytmdfedjdnjaaiaagreat", sum := "5ff2e99eb3decabf7ea569bd6b2582d8c72f2d3c146f536f03d690fc611194e6", func := "loop.example/g03010/laws.FnRecords", spec := "fnRecords", inPlace := ["internal/bytealg.IndexByteString"], recurses := true, apart := false, narrowed := true }
def FnRecordsUptoSaid : Prop := fnRecordsUptoRow.holds Tryz.pinned (OpenSpec.upto fnRecordsSpec)

/-- 'laws.FnExactCouldHave', WHERE WHAT IT READS IS OF BULK AT MOST 1048576: true; the input reads as it did. -/
def fnExactCouldHaveUptoRow : OpenClaim := { program := "ytmdfedjdnjaaiaagreat", sum := "5ff2e99eb3decabf7ea569bd6b2582d8c72f2d3c146f536f03d690fc611194e6", func := "loop.example/g03010/laws.FnExactCouldHave", spec := "fnExactCouldHave", apart := false, narrowed := true }
def FnExactCouldHaveUptoSaid : Prop := fnExactCouldHaveUptoRow.holds Tryz.pinned (OpenSpec.upto fnExactCouldHaveSpec)

/-- 'laws.FnExactMatchSheet', WHERE WHAT IT READS IS OF BULK AT MOST 1048576: true; the input reads as it did. -/
def fnExactMatchSheetUptoRow : OpenClaim := { program := "ytmdfedjdnjaaiaagreat", sum := "5ff2e99eb3decabf7ea569bd6b2582d8c72f2d3c146f536f03d690fc611194e6", func := "loop.example/g03010/laws.FnExactMatchSheet", spec := "fnExactMatchSheet", apart := false, narrowed := true }
def FnExactMatchSheetUptoSaid : Prop := fnExactMatchSheetUptoRow.holds Tryz.pinned (OpenSpec.upto fnExactMatchSheetSpec)

/-- 'laws.FnExactBlunders', WHERE WHAT IT READS IS OF BULK AT MOST 1048576: true; the input reads as it did. -/
def fnExactBlundersUptoRow : OpenClaim := { program := "ytmdfedjdnjaaiaagreat", sum := "5ff2e99eb3decabf7ea569bd6b2582d8c72f2d3c146f536f03d690fc611194e6", func := "loop.example/g03010/laws.FnExactBlunders", spec := "fnExactBlunders", apart := false, narrowed := true }
def FnExactBlundersUptoSaid : Prop := fnExactBlundersUptoRow.holds Tryz.pinned (OpenSpec.upto fnExactBlundersSpec)

/-- 'laws.FnExactGameAt', WHERE WHAT IT READS IS OF BULK AT MOST 1048576: true; the input reads as it did. -/
def fnExactGameAtUptoRow : OpenClaim := { program := "ytmdfedjdnjaaiaagreat", sum := "5ff2e99eb3decabf7ea569bd6b2582d8c72f2d3c146f536f03d690fc611194e6", func := "loop.example/g03010/laws.FnExactGameAt", spec := "fnExactGameAt", apart := false, narrowed := true }
def FnExactGameAtUptoSaid : Prop := fnExactGameAtUptoRow.holds Tryz.pinned (OpenSpec.upto fnExactGameAtSpec)

end Rows
end Go.Proofs.YtmdfedjdnjaaiaaGreat
