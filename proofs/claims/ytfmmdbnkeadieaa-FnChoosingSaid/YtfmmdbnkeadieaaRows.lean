/-
  No cell of these rows narrows 'for every input' (looked for: loops, veiled, ifaces, maps, wideKeys, modest, calm, conditions, laid).
  DERIVED. THE GIVEN ROWS OF THIS SEAT. 8 by the template 'for every input the law returns true; each argument reads behind the call as it read before'; 0 by the template 'total and deterministic' (their statements: YtfmmdbnkeadieaaTotals.lean).
  GIVEN WITH THE SEED: the statements are not yours to turn. If you find one false, say at which input.
  Laid BY PROGRAM, IN A SANDBOX (cutbox-rows.mjs): the forced cells as the released guide's own fill.sh prints them over the translation b3de4d71741043f7… (all of the seat's roots in one cut). By AI agents, Wed Nov 11 2026. No macro, syntax, notation, axiom, sorry.
-/
import Derived.Test.YtfmmdbnkeadieaaChecked
import GoSem.Claim
import GoSem.ClaimJoined
import GoSem.ClaimMapViews
import Derived.JoinedTies
import Derived.KernelRfl
namespace Go.Proofs.Ytfmmdbnkeadieaa
/- THE CELL 'sum', in the pinned program and in every row, IS THE sha256 OF THE DUMP (.gsa) THAT YtfmmdbnkeadieaaProg.lean LOADS. Nothing in Lean hashes anything: it is a label: what it is worth is what the hold of that sum in a sandbox is worth. -/
noncomputable def Try.pinned : Pinned := { name := "ytfmmdbnkeadieaa", sum := "b3de4d71741043f740348023bf2037bb0f95a9b77481fe1d5fc833c75661ca8e", checked := Try.checked }
namespace Rows
def none {H : Type} : Left H := { results := [], args := [] }

/-- 'laws.FnExactMeldCount': WHATEVER THE INPUT: true; the input reads as it did. -/
def fnExactMeldCountSpec : ChangeSpec := { name := "fnExactMeldCount", fn := fun _ => fun
  | [d] => { results := [.lit (.bool true)], args := [d] }
  | _ => none }
def fnExactMeldCountRow : OpenClaim := { program := "ytfmmdbnkeadieaa", sum := "b3de4d71741043f740348023bf2037bb0f95a9b77481fe1d5fc833c75661ca8e", func := "loop.example/g03010/laws.FnExactMeldCount", spec := "fnExactMeldCount", apart := false }
def FnExactMeldCountSaid : Prop := fnExactMeldCountRow.holds Try.pinned (OpenSpec.ofChange fnExactMeldCountSpec)

/-- ITS FALSE NEIGHBOUR: 'it returns false'. Refute it at one input. -/
def fnExactMeldCountWrong : ChangeSpec := { name := "fnExactMeldCount", fn := fun _ => fun
  | [d] => { results := [.lit (.bool false)], args := [d] }
  | _ => none }
def FnExactMeldCountWrongFalsely : Prop := fnExactMeldCountRow.holds Try.pinned (OpenSpec.ofChange fnExactMeldCountWrong)

/-- 'laws.FnExactNothingLost': WHATEVER THE INPUT: true; the input reads as it did. -/
def fnExactNothingLostSpec : ChangeSpec := { name := "fnExactNothingLost", fn := fun _ => fun
  | [d] => { results := [.lit (.bool true)], args := [d] }
  | _ => none }
def fnExactNothingLostRow : OpenClaim := { program := "ytfmmdbnkeadieaa", sum := "b3de4d71741043f740348023bf2037bb0f95a9b77481fe1d5fc833c75661ca8e", func := "loop.example/g03010/laws.FnExactNothingLost", spec := "fnExactNothingLost", apart := false }
def FnExactNothingLostSaid : Prop := fnExactNothingLostRow.holds Try.pinned (OpenSpec.ofChange fnExactNothingLostSpec)

/-- ITS FALSE NEIGHBOUR: 'it returns false'. Refute it at one input. -/
def fnExactNothingLostWrong : ChangeSpec := { name := "fnExactNothingLost", fn := fun _ => fun
  | [d] => { results := [.lit (.bool false)], args := [d] }
  | _ => none }
def FnExactNothingLostWrongFalsely : Prop := fnExactNothingLostRow.holds Try.pinned (OpenSpec.ofChange fnExactNothingLostWrong)

/-- 'laws.FnExactOpenShare': WHATEVER THE INPUT: true; the input reads as it did. -/
def fnExactOpenShareSpec : ChangeSpec := { name := "fnExactOpenShare", fn := fun _ => fun
  | [d] => { results := [.lit (.bool true)], args := [d] }
  | _ => none }
def fnExactOpenShareRow : OpenClaim := { program := "ytfmmdbnkeadieaa", sum := "b3de4d71741043f740348023bf2037bb0f95a9b77481fe1d5fc833c75661ca8e", func := "loop.example/g03010/laws.FnExactOpenShare", spec := "fnExactOpenShare", apart := false }
def FnExactOpenShareSaid : Prop := fnExactOpenShareRow.holds Try.pinned (OpenSpec.ofChange fnExactOpenShareSpec)

/-- ITS FALSE NEIGHBOUR: 'it returns false'. Refute it at one input. -/
def fnExactOpenShareWrong : ChangeSpec := { name := "fnExactOpenShare", fn := fun _ => fun
  | [d] => { results := [.lit (.bool false)], args := [d] }
  | _ => none }
def FnExactOpenShareWrongFalsely : Prop := fnExactOpenShareRow.holds Try.pinned (OpenSpec.ofChange fnExactOpenShareWrong)

/-- 'laws.FnExactIsFairDeck': WHATEVER THE INPUT: true; the input reads as it did. -/
def fnExactIsFairDeckSpec : ChangeSpec := { name := "fnExactIsFairDeck", fn := fun _ => fun
  | [d1, d2, d3] => { results := [.lit (.bool true)], args := [d1, d2, d3] }
  | _ => none }
def fnExactIsFairDeckRow : OpenClaim := { program := "ytfmmdbnkeadieaa", sum := "b3de4d71741043f740348023bf2037bb0f95a9b77481fe1d5fc833c75661ca8e", func := "loop.example/g03010/laws.FnExactIsFairDeck", spec := "fnExactIsFairDeck", apart := false }
def FnExactIsFairDeckSaid : Prop := fnExactIsFairDeckRow.holds Try.pinned (OpenSpec.ofChange fnExactIsFairDeckSpec)

/-- ITS FALSE NEIGHBOUR: 'it returns false'. Refute it at one input. -/
def fnExactIsFairDeckWrong : ChangeSpec := { name := "fnExactIsFairDeck", fn := fun _ => fun
  | [d1, d2, d3] => { results := [.lit (.bool false)], args := [d1, d2, d3] }
  | _ => none }
def FnExactIsFairDeckWrongFalsely : Prop := fnExactIsFairDeckRow.holds Try.pinned (OpenSpec.ofChange fnExactIsFairDeckWrong)

/-- 'laws.FnTallies': WHATEVER THE INPUT: true; the input reads as it did. -/
def fnTalliesSpec : ChangeSpec := { name := "fnTallies", fn := fun _ => fun
  | [d] => { results := [.lit (.bool true)], args := [d] }
  | _ => none }
def fnTalliesRow : OpenClaim := { program := "ytfmmdbnkeadieaa", sum := "b3de4d71741043f740348023bf2037bb0f95a9b77481fe1d5fc833c75661ca8e", func := "loop.example/g03010/laws.FnTallies", spec := "fnTallies", recurses := true, apart := false }
def FnTalliesSaid : Prop := fnTalliesRow.holds Try.pinned (OpenSpec.ofChange fnTalliesSpec)

/-- ITS FALSE NEIGHBOUR: 'it returns false'. Refute it at one input. -/
def fnTalliesWrong : ChangeSpec := { name := "fnTallies", fn := fun _ => fun
  | [d] => { results := [.lit (.bool false)], args := [d] }
  | _ => none }
def FnTalliesWrongFalsely : Prop := fnTalliesRow.holds Try.pinned (OpenSpec.ofChange fnTalliesWrong)

/-- 'laws.FnChoosing': WHATEVER THE INPUT: true; the input reads as it did. -/
def fnChoosingSpec : ChangeSpec := { name := "fnChoosing", fn := fun _ => fun
  | [d] => { results := [.lit (.bool true)], args := [d] }
  | _ => none }
def fnChoosingRow : OpenClaim := { program := "ytfmmdbnkeadieaa", sum := "b3de4d71741043f740348023bf2037bb0f95a9b77481fe1d5fc833c75661ca8e", func := "loop.example/g03010/laws.FnChoosing", spec := "fnChoosing", recurses := true, apart := false }
def FnChoosingSaid : Prop := fnChoosingRow.holds Try.pinned (OpenSpec.ofChange fnChoosingSpec)

/-- ITS FALSE NEIGHBOUR: 'it returns false'. Refute it at one input. -/
def fnChoosingWrong : ChangeSpec := { name := "fnChoosing", fn := fun _ => fun
  | [d] => { results := [.lit (.bool false)], args := [d] }
  | _ => none }
def FnChoosingWrongFalsely : Prop := fnChoosingRow.holds Try.pinned (OpenSpec.ofChange fnChoosingWrong)

/-- 'laws.FnExactRecordOut': WHATEVER THE INPUT: true; the input reads as it did. -/
def fnExactRecordOutSpec : ChangeSpec := { name := "fnExactRecordOut", fn := fun _ => fun
  | [d1, d2] => { results := [.lit (.bool true)], args := [d1, d2] }
  | _ => none }
def fnExactRecordOutRow : OpenClaim := { program := "ytfmmdbnkeadieaa", sum := "b3de4d71741043f740348023bf2037bb0f95a9b77481fe1d5fc833c75661ca8e", func := "loop.example/g03010/laws.FnExactRecordOut", spec := "fnExactRecordOut", apart := false }
def FnExactRecordOutSaid : Prop := fnExactRecordOutRow.holds Try.pinned (OpenSpec.ofChange fnExactRecordOutSpec)

/-- ITS FALSE NEIGHBOUR: 'it returns false'. Refute it at one input. -/
def fnExactRecordOutWrong : ChangeSpec := { name := "fnExactRecordOut", fn := fun _ => fun
  | [d1, d2] => { results := [.lit (.bool false)], args := [d1, d2] }
  | _ => none }
def FnExactRecordOutWrongFalsely : Prop := fnExactRecordOutRow.holds Try.pinned (OpenSpec.ofChange fnExactRecordOutWrong)

/-- 'laws.FnExactAutoMove': WHATEVER THE INPUT: true; the input reads as it did. -/
def fnExactAutoMoveSpec : ChangeSpec := { name := "fnExactAutoMove", fn := fun _ => fun
  | [d1, d2] => { results := [.lit (.bool true)], args := [d1, d2] }
  | _ => none }
def fnExactAutoMoveRow : OpenClaim := { program := "ytfmmdbnkeadieaa", sum := "b3de4d71741043f740348023bf2037bb0f95a9b77481fe1d5fc833c75661ca8e", func := "loop.example/g03010/laws.FnExactAutoMove", spec := "fnExactAutoMove", apart := false }
def FnExactAutoMoveSaid : Prop := fnExactAutoMoveRow.holds Try.pinned (OpenSpec.ofChange fnExactAutoMoveSpec)

/-- ITS FALSE NEIGHBOUR: 'it returns false'. Refute it at one input. -/
def fnExactAutoMoveWrong : ChangeSpec := { name := "fnExactAutoMove", fn := fun _ => fun
  | [d1, d2] => { results := [.lit (.bool false)], args := [d1, d2] }
  | _ => none }
def FnExactAutoMoveWrongFalsely : Prop := fnExactAutoMoveRow.holds Try.pinned (OpenSpec.ofChange fnExactAutoMoveWrong)

/- THE SECOND FORM. 'bulk': how many values and letters a reading holds, each counted each time it is reached (what is shared counts as often as it is met; a slice's spare places count too). A statement '..UptoSaid' is the law's where the arguments, and the package variables that the reading takes, are together of bulk at most 1048576: NARROWER than '..Said'. Prove '..Said' where nothing that the law and all that it calls make is longer than what came in: it says more and counts as full. Else prove '..UptoSaid'. A law counts once. -/
mutual
def uptoBulk {H : Type} : DataW H → Nat
  | .lit (.string bytes) => bytes.length + 1
  | .lit _ => 1
  | .nil => 1
  | .ptr d => uptoBulk d + 1
  | .slice elems spare => uptoBulkAll elems + uptoBulkAll spare + 1
  | .agg parts => uptoBulkAll parts + 1
  | .iface _ d => uptoBulk d + 1
  | .map entries => uptoBulkEntries entries + 1
  | .held _ => 1
def uptoBulkAll {H : Type} : List (DataW H) → Nat
  | [] => 0
  | d :: r => uptoBulk d + uptoBulkAll r
def uptoBulkEntries {H : Type} : List (Lit × DataW H) → Nat
  | [] => 0
  | x :: r => uptoBulkEntry x + uptoBulkEntries r
def uptoBulkEntry {H : Type} : Lit × DataW H → Nat
  | (.string bytes, d) => bytes.length + uptoBulk d + 1
  | (_, d) => uptoBulk d + 1
 end
def uptoSmall : (H : Type) → List (DataW H) → Bool := fun _ ds => decide (uptoBulkAll ds ≤ 1048576)
def OpenSpec.upto (s : _root_.Go.ChangeSpec) : _root_.Go.OpenSpec := { _root_.Go.OpenSpec.ofChange s with cond := some uptoSmall }

/-- 'laws.FnExactMeldCount', WHERE WHAT IT READS IS OF BULK AT MOST 1048576: true; the input reads as it did. -/
def fnExactMeldCountUptoRow : OpenClaim := { program := "ytfmmdbnkeadieaa", sum := "b3de4d71741043f740348023bf2037bb0f95a9b77481fe1d5fc833c75661ca8e", func := "loop.example/g03010/laws.FnExactMeldCount", spec := "fnExactMeldCount", apart := false, narrowed := true }
def FnExactMeldCountUptoSaid : Prop := fnExactMeldCountUptoRow.holds Try.pinned (OpenSpec.upto fnExactMeldCountSpec)

/-- 'laws.FnExactNothingLost', WHERE WHAT IT READS IS OF BULK AT MOST 1048576: true; the input reads as it did. -/
def fnExactNothingLostUptoRow : OpenClaim := { program := "ytfmmdbnkeadieaa", sum := "b3de4d71741043f740348023bf2037bb0f95a9b77481fe1d5fc833c75661ca8e", func := "loop.example/g03010/laws.FnExactNothingLost", spec := "fnExactNothingLost", apart := false, narrowed := true }
def FnExactNothingLostUptoSaid : Prop := fnExactNothingLostUptoRow.holds Try.pinned (OpenSpec.upto fnExactNothingLostSpec)

/-- 'laws.FnExactOpenShare', WHERE WHAT IT READS IS OF BULK AT MOST 1048576: true; the input reads as it did. -/
def fnExactOpenShareUptoRow : OpenClaim := { program := "ytfmmdbnkeadieaa", sum := "b3de4d71741043f740348023bf2037bb0f95a9b77481fe1d5fc833c75661ca8e", func := "loop.example/g03010/laws.FnExactOpenShare", spec := "fnExactOpenShare", apart := false, narrowed := true }
def FnExactOpenShareUptoSaid : Prop := fnExactOpenShareUptoRow.holds Try.pinned (OpenSpec.upto fnExactOpenShareSpec)

/-- 'laws.FnExactIsFairDeck', WHERE WHAT IT READS IS OF BULK AT MOST 1048576: true; the input reads as it did. -/
def fnExactIsFairDeckUptoRow : OpenClaim := { program := "ytfmmdbnkeadieaa", sum := "b3de4d71741043f740348023bf2037bb0f95a9b77481fe1d5fc833c75661ca8e", func := "loop.example/g03010/laws.FnExactIsFairDeck", spec := "fnExactIsFairDeck", apart := false, narrowed := true }
def FnExactIsFairDeckUptoSaid : Prop := fnExactIsFairDeckUptoRow.holds Try.pinned (OpenSpec.upto fnExactIsFairDeckSpec)

/-- 'laws.FnTallies', WHERE WHAT IT READS IS OF BULK AT MOST 1048576: true; the input reads as it did. -/
def fnTalliesUptoRow : OpenClaim := { program := "ytfmmdbnkeadieaa", sum := "b3de4d71741043f740348023bf2037bb0f95a9b77481fe1d5fc833c75661ca8e", func := "loop.example/g03010/laws.FnTallies", spec := "fnTallies", recurses := true, apart := false, narrowed := true }
def FnTalliesUptoSaid : Prop := fnTalliesUptoRow.holds Try.pinned (OpenSpec.upto fnTalliesSpec)

/-- 'laws.FnChoosing', WHERE WHAT IT READS IS OF BULK AT MOST 1048576: true; the input reads as it did. -/
def fnChoosingUptoRow : OpenClaim := { program := "ytfmmdbnkeadieaa", sum := "b3de4d71741043f740348023bf2037bb0f95a9b77481fe1d5fc833c75661ca8e", func := "loop.example/g03010/laws.FnChoosing", spec := "fnChoosing", recurses := true, apart := false, narrowed := true }
def FnChoosingUptoSaid : Prop := fnChoosingUptoRow.holds Try.pinned (OpenSpec.upto fnChoosingSpec)

/-- 'laws.FnExactRecordOut', WHERE WHAT IT READS IS OF BULK AT MOST 1048576: true; the input reads as it did. -/
def fnExactRecordOutUptoRow : OpenClaim := { program := "ytfmmdbnkeadieaa", sum := "b3de4d71741043f740348023bf2037bb0f95a9b77481fe1d5fc833c75661ca8e", func := "loop.example/g03010/laws.FnExactRecordOut", spec := "fnExactRecordOut", apart := false, narrowed := true }
def FnExactRecordOutUptoSaid : Prop := fnExactRecordOutUptoRow.holds Try.pinned (OpenSpec.upto fnExactRecordOutSpec)

/-- 'laws.FnExactAutoMove', WHERE WHAT IT READS IS OF BULK AT MOST 1048576: true; the input reads as it did. -/
def fnExactAutoMoveUptoRow : OpenClaim := { program := "ytfmmdbnkeadieaa", sum := "b3de4d71741043f740348023bf2037bb0f95a9b77481fe1d5fc833c75661ca8e", func := "loop.example/g03010/laws.FnExactAutoMove", spec := "fnExactAutoMove", apart := false, narrowed := true }
def FnExactAutoMoveUptoSaid : Prop := fnExactAutoMoveUptoRow.holds Try.pinned (OpenSpec.upto fnExactAutoMoveSpec)

end Rows
end Go.Proofs.Ytfmmdbnkeadieaa
