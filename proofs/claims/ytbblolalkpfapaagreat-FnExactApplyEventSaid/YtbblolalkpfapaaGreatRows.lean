/-
  No cell of these rows narrows 'for every input' (looked for: loops, veiled, ifaces, maps, wideKeys, modest, calm, conditions, laid).
  DERIVED. THE GIVEN ROWS OF THIS SEAT. 12 by the template 'for every input the law returns true; each argument reads behind the call as it read before'; 0 by the template 'total and deterministic' (their statements: YtbblolalkpfapaaGreatTotals.lean).
  GIVEN WITH THE SEED: the statements are not yours to turn. If you find one false, say at which input.
  Laid BY PROGRAM, IN A SANDBOX (cutbox-rows.mjs): the forced cells as the released guide's own fill.sh prints them over the translation ff27f4116b09cfba… (all of the seat's roots in one cut). By AI agents, Wed Nov 11 2026. No macro, syntax, notation, axiom, sorry.
-/
import Derived.Test.YtbblolalkpfapaaGreatChecked
import GoSem.Claim
import GoSem.ClaimJoined
import GoSem.ClaimMapViews
import Derived.JoinedTies
import Derived.KernelRfl
namespace Go.Proofs.YtbblolalkpfapaaGreat
/- THE CELL 'sum', in the pinned program and in every row, IS THE sha256 OF THE DUMP (.gsa) THAT YtbblolalkpfapaaGreatProg.lean LOADS. Nothing in Lean hashes anything: it is a label: what it is worth is what the hold of that sum in a sandbox is worth. -/
noncomputable def Tryz.pinned : Pinned := { name := "ytbblolalkpfapaagreat", sum := "ff27f4116b09cfbab1e2a6472719fef327efd44391bf0832d881404e89977d01", checked := Tryz.checked }
namespace Rows
def none {H : Type} : Left H := { results := [], args := [] }

/-- 'laws.FnExactMatchWinner': WHATEVER THE INPUT: true; the input reads as it did. -/
def fnExactMatchWinnerSpec : ChangeSpec := { name := "fnExactMatchWinner", fn := fun _ => fun
  | [d1, d2, d3, d4] => { results := [.lit (.bool true)], args := [d1, d2, d3, d4] }
  | _ => none }
def fnExactMatchWinnerRow : OpenClaim := { program := "ytbblolalkpfapaagreat", sum := "ff27f4116b09cfbab1e2a6472719fef327efd44391bf0832d881404e89977d01", func := "loop.example/g03010/laws.FnExactMatchWinner", spec := "fnExactMatchWinner", apart := false }
def FnExactMatchWinnerSaid : Prop := fnExactMatchWinnerRow.holds Tryz.pinned (OpenSpec.ofChange fnExactMatchWinnerSpec)

/-- ITS FALSE NEIGHBOUR: 'it returns false'. Refute it at one input. -/
def fnExactMatchWinnerWrong : ChangeSpec := { name := "fnExactMatchWinner", fn := fun _ => fun
  | [d1, d2, d3, d4] => { results := [.lit (.bool false)], args := [d1, d2, d3, d4] }
  | _ => none }
def FnExactMatchWinnerWrongFalsely : Prop := fnExactMatchWinnerRow.holds Tryz.pinned (OpenSpec.ofChange fnExactMatchWinnerWrong)

/-- 'laws.FnExactStepSeal': WHATEVER THE INPUT: true; the input reads as it did. -/
def fnExactStepSealSpec : ChangeSpec := { name := "fnExactStepSeal", fn := fun _ => fun
  | [d1, d2] => { results := [.lit (.bool true)], args := [d1, d2] }
  | _ => none }
def fnExactStepSealRow : OpenClaim := { program := "ytbblolalkpfapaagreat", sum := "ff27f4116b09cfbab1e2a6472719fef327efd44391bf0832d881404e89977d01", func := "loop.example/g03010/laws.FnExactStepSeal", spec := "fnExactStepSeal", apart := false }
def FnExactStepSealSaid : Prop := fnExactStepSealRow.holds Tryz.pinned (OpenSpec.ofChange fnExactStepSealSpec)

/-- ITS FALSE NEIGHBOUR: 'it returns false'. Refute it at one input. -/
def fnExactStepSealWrong : ChangeSpec := { name := "fnExactStepSeal", fn := fun _ => fun
  | [d1, d2] => { results := [.lit (.bool false)], args := [d1, d2] }
  | _ => none }
def FnExactStepSealWrongFalsely : Prop := fnExactStepSealRow.holds Tryz.pinned (OpenSpec.ofChange fnExactStepSealWrong)

/-- 'laws.FnExactStepTake': WHATEVER THE INPUT: true; the input reads as it did. -/
def fnExactStepTakeSpec : ChangeSpec := { name := "fnExactStepTake", fn := fun _ => fun
  | [d] => { results := [.lit (.bool true)], args := [d] }
  | _ => none }
def fnExactStepTakeRow : OpenClaim := { program := "ytbblolalkpfapaagreat", sum := "ff27f4116b09cfbab1e2a6472719fef327efd44391bf0832d881404e89977d01", func := "loop.example/g03010/laws.FnExactStepTake", spec := "fnExactStepTake", apart := false }
def FnExactStepTakeSaid : Prop := fnExactStepTakeRow.holds Tryz.pinned (OpenSpec.ofChange fnExactStepTakeSpec)

/-- ITS FALSE NEIGHBOUR: 'it returns false'. Refute it at one input. -/
def fnExactStepTakeWrong : ChangeSpec := { name := "fnExactStepTake", fn := fun _ => fun
  | [d] => { results := [.lit (.bool false)], args := [d] }
  | _ => none }
def FnExactStepTakeWrongFalsely : Prop := fnExactStepTakeRow.holds Tryz.pinned (OpenSpec.ofChange fnExactStepTakeWrong)

/-- 'laws.FnExactStepPlay': WHATEVER THE INPUT: true; the input reads as it did. -/
def fnExactStepPlaySpec : ChangeSpec := { name := "fnExactStepPlay", fn := fun _ => fun
  | [d1, d2] => { results := [.lit (.bool true)], args := [d1, d2] }
  | _ => none }
def fnExactStepPlayRow : OpenClaim := { program := "ytbblolalkpfapaagreat", sum := "ff27f4116b09cfbab1e2a6472719fef327efd44391bf0832d881404e89977d01", func := "loop.example/g03010/laws.FnExactStepPlay", spec := "fnExactStepPlay", apart := false }
def FnExactStepPlaySaid : Prop := fnExactStepPlayRow.holds Tryz.pinned (OpenSpec.ofChange fnExactStepPlaySpec)

/-- ITS FALSE NEIGHBOUR: 'it returns false'. Refute it at one input. -/
def fnExactStepPlayWrong : ChangeSpec := { name := "fnExactStepPlay", fn := fun _ => fun
  | [d1, d2] => { results := [.lit (.bool false)], args := [d1, d2] }
  | _ => none }
def FnExactStepPlayWrongFalsely : Prop := fnExactStepPlayRow.holds Tryz.pinned (OpenSpec.ofChange fnExactStepPlayWrong)

/-- 'laws.FnAgain': WHATEVER THE INPUT: true; the input reads as it did. -/
def fnAgainSpec : ChangeSpec := { name := "fnAgain", fn := fun _ => fun
  | [d] => { results := [.lit (.bool true)], args := [d] }
  | _ => none }
def fnAgainRow : OpenClaim := { program := "ytbblolalkpfapaagreat", sum := "ff27f4116b09cfbab1e2a6472719fef327efd44391bf0832d881404e89977d01", func := "loop.example/g03010/laws.FnAgain", spec := "fnAgain", recurses := true, apart := false }
def FnAgainSaid : Prop := fnAgainRow.holds Tryz.pinned (OpenSpec.ofChange fnAgainSpec)

/-- ITS FALSE NEIGHBOUR: 'it returns false'. Refute it at one input. -/
def fnAgainWrong : ChangeSpec := { name := "fnAgain", fn := fun _ => fun
  | [d] => { results := [.lit (.bool false)], args := [d] }
  | _ => none }
def FnAgainWrongFalsely : Prop := fnAgainRow.holds Tryz.pinned (OpenSpec.ofChange fnAgainWrong)

/-- 'laws.FnAudited': WHATEVER THE INPUT: true; the input reads as it did. -/
def fnAuditedSpec : ChangeSpec := { name := "fnAudited", fn := fun _ => fun
  | [d] => { results := [.lit (.bool true)], args := [d] }
  | _ => none }
def fnAuditedRow : OpenClaim := { program := "ytbblolalkpfapaagreat", sum := "ff27f4116b09cfbab1e2a6472719fef327efd44391bf0832d881404e89977d01", func := "loop.example/g03010/laws.FnAudited", spec := "fnAudited", recurses := true, apart := false }
def FnAuditedSaid : Prop := fnAuditedRow.holds Tryz.pinned (OpenSpec.ofChange fnAuditedSpec)

/-- ITS FALSE NEIGHBOUR: 'it returns false'. Refute it at one input. -/
def fnAuditedWrong : ChangeSpec := { name := "fnAudited", fn := fun _ => fun
  | [d] => { results := [.lit (.bool false)], args := [d] }
  | _ => none }
def FnAuditedWrongFalsely : Prop := fnAuditedRow.holds Tryz.pinned (OpenSpec.ofChange fnAuditedWrong)

/-- 'laws.FnExactBranch': WHATEVER THE INPUT: true; the input reads as it did. -/
def fnExactBranchSpec : ChangeSpec := { name := "fnExactBranch", fn := fun _ => fun
  | [d1, d2, d3] => { results := [.lit (.bool true)], args := [d1, d2, d3] }
  | _ => none }
def fnExactBranchRow : OpenClaim := { program := "ytbblolalkpfapaagreat", sum := "ff27f4116b09cfbab1e2a6472719fef327efd44391bf0832d881404e89977d01", func := "loop.example/g03010/laws.FnExactBranch", spec := "fnExactBranch", apart := false }
def FnExactBranchSaid : Prop := fnExactBranchRow.holds Tryz.pinned (OpenSpec.ofChange fnExactBranchSpec)

/-- ITS FALSE NEIGHBOUR: 'it returns false'. Refute it at one input. -/
def fnExactBranchWrong : ChangeSpec := { name := "fnExactBranch", fn := fun _ => fun
  | [d1, d2, d3] => { results := [.lit (.bool false)], args := [d1, d2, d3] }
  | _ => none }
def FnExactBranchWrongFalsely : Prop := fnExactBranchRow.holds Tryz.pinned (OpenSpec.ofChange fnExactBranchWrong)

/-- 'laws.FnExactStepSettle': WHATEVER THE INPUT: true; the input reads as it did. -/
def fnExactStepSettleSpec : ChangeSpec := { name := "fnExactStepSettle", fn := fun _ => fun
  | [d] => { results := [.lit (.bool true)], args := [d] }
  | _ => none }
def fnExactStepSettleRow : OpenClaim := { program := "ytbblolalkpfapaagreat", sum := "ff27f4116b09cfbab1e2a6472719fef327efd44391bf0832d881404e89977d01", func := "loop.example/g03010/laws.FnExactStepSettle", spec := "fnExactStepSettle", apart := false }
def FnExactStepSettleSaid : Prop := fnExactStepSettleRow.holds Tryz.pinned (OpenSpec.ofChange fnExactStepSettleSpec)

/-- ITS FALSE NEIGHBOUR: 'it returns false'. Refute it at one input. -/
def fnExactStepSettleWrong : ChangeSpec := { name := "fnExactStepSettle", fn := fun _ => fun
  | [d] => { results := [.lit (.bool false)], args := [d] }
  | _ => none }
def FnExactStepSettleWrongFalsely : Prop := fnExactStepSettleRow.holds Tryz.pinned (OpenSpec.ofChange fnExactStepSettleWrong)

/-- 'laws.FnExactStepDeal': WHATEVER THE INPUT: true; the input reads as it did. -/
def fnExactStepDealSpec : ChangeSpec := { name := "fnExactStepDeal", fn := fun _ => fun
  | [d1, d2, d3] => { results := [.lit (.bool true)], args := [d1, d2, d3] }
  | _ => none }
def fnExactStepDealRow : OpenClaim := { program := "ytbblolalkpfapaagreat", sum := "ff27f4116b09cfbab1e2a6472719fef327efd44391bf0832d881404e89977d01", func := "loop.example/g03010/laws.FnExactStepDeal", spec := "fnExactStepDeal", apart := false }
def FnExactStepDealSaid : Prop := fnExactStepDealRow.holds Tryz.pinned (OpenSpec.ofChange fnExactStepDealSpec)

/-- ITS FALSE NEIGHBOUR: 'it returns false'. Refute it at one input. -/
def fnExactStepDealWrong : ChangeSpec := { name := "fnExactStepDeal", fn := fun _ => fun
  | [d1, d2, d3] => { results := [.lit (.bool false)], args := [d1, d2, d3] }
  | _ => none }
def FnExactStepDealWrongFalsely : Prop := fnExactStepDealRow.holds Tryz.pinned (OpenSpec.ofChange fnExactStepDealWrong)

/-- 'laws.FnEvents': WHATEVER THE INPUT: true; the input reads as it did. -/
def fnEventsSpec : ChangeSpec := { name := "fnEvents", fn := fun _ => fun
  | [d] => { results := [.lit (.bool true)], args := [d] }
  | _ => none }
def fnEventsRow : OpenClaim := { program := "ytbblolalkpfapaagreat", sum := "ff27f4116b09cfbab1e2a6472719fef327efd44391bf0832d881404e89977d01", func := "loop.example/g03010/laws.FnEvents", spec := "fnEvents", recurses := true, apart := false }
def FnEventsSaid : Prop := fnEventsRow.holds Tryz.pinned (OpenSpec.ofChange fnEventsSpec)

/-- ITS FALSE NEIGHBOUR: 'it returns false'. Refute it at one input. -/
def fnEventsWrong : ChangeSpec := { name := "fnEvents", fn := fun _ => fun
  | [d] => { results := [.lit (.bool false)], args := [d] }
  | _ => none }
def FnEventsWrongFalsely : Prop := fnEventsRow.holds Tryz.pinned (OpenSpec.ofChange fnEventsWrong)

/-- 'laws.FnExactApplyEvent': WHATEVER THE INPUT: true; the input reads as it did. -/
def fnExactApplyEventSpec : ChangeSpec := { name := "fnExactApplyEvent", fn := fun _ => fun
  | [d1, d2] => { results := [.lit (.bool true)], args := [d1, d2] }
  | _ => none }
def fnExactApplyEventRow : OpenClaim := { program := "ytbblolalkpfapaagreat", sum := "ff27f4116b09cfbab1e2a6472719fef327efd44391bf0832d881404e89977d01", func := "loop.example/g03010/laws.FnExactApplyEvent", spec := "fnExactApplyEvent", apart := false }
def FnExactApplyEventSaid : Prop := fnExactApplyEventRow.holds Tryz.pinned (OpenSpec.ofChange fnExactApplyEventSpec)

/-- ITS FALSE NEIGHBOUR: 'it returns false'. Refute it at one input. -/
def fnExactApplyEventWrong : ChangeSpec := { name := "fnExactApplyEvent", fn := fun _ => fun
  | [d1, d2] => { results := [.lit (.bool false)], args := [d1, d2] }
  | _ => none }
def FnExactApplyEventWrongFalsely : Prop := fnExactApplyEventRow.holds Tryz.pinned (OpenSpec.ofChange fnExactApplyEventWrong)

/-- 'laws.FnExactRunEvents': WHATEVER THE INPUT: true; the input reads as it did. -/
def fnExactRunEventsSpec : ChangeSpec := { name := "fnExactRunEvents", fn := fun _ => fun
  | [d1, d2] => { results := [.lit (.bool true)], args := [d1, d2] }
  | _ => none }
def fnExactRunEventsRow : OpenClaim := { program := "ytbblolalkpfapaagreat", sum := "ff27f4116b09cfbab1e2a6472719fef327efd44391bf0832d881404e89977d01", func := "loop.example/g03010/laws.FnExactRunEvents", spec := "fnExactRunEvents", apart := false }
def FnExactRunEventsSaid : Prop := fnExactRunEventsRow.holds Tryz.pinned (OpenSpec.ofChange fnExactRunEventsSpec)

/-- ITS FALSE NEIGHBOUR: 'it returns false'. Refute it at one input. -/
def fnExactRunEventsWrong : ChangeSpec := { name := "fnExactRunEvents", fn := fun _ => fun
  | [d1, d2] => { results := [.lit (.bool false)], args := [d1, d2] }
  | _ => none }
def FnExactRunEventsWrongFalsely : Prop := fnExactRunEventsRow.holds Tryz.pinned (OpenSpec.ofChange fnExactRunEventsWrong)

/- THE SECOND FORM. 'bulk': how many values and letters a reading holds, each counted each time it is reached (what is shared counts as often as it is met; a slice's spare places count too). A statement '..UptoSaid' is the law's where the arguments, and the package variables that the reading takes, are together of bulk at most 1048576: NARROWER than '..Said'. Prove '..Said' where nothing that the law and all that it calls make is longer than what came in: it says more and counts as full. Else prove '..UptoSaid'. A law counts once. -/
mutual
def uptoBulk {H : Type} : DataW H → Nat
  | .lit (.string bytes) => bytes.length + 1
  | .lit _ => 1
  | .nil => 1
  | .ptr d => uptoBulk d + 1
  | .slice elems spare => uptoBulkAll elems + uptoBulkAll spare + 1
  | .agg parts => uptoBulkAll parts + 1
  | .iface _ d => uptoBulk d + 1
  | .map entries => uptoBulkEntries entries + 1
  | .held _ => 1
def uptoBulkAll {H : Type} : List (DataW H) → Nat
  | [] => 0
  | d :: r => uptoBulk d + uptoBulkAll r
def uptoBulkEntries {H : Type} : List (Lit × DataW H) → Nat
  | [] => 0
  | x :: r => uptoBulkEntry x + uptoBulkEntries r
def uptoBulkEntry {H : Type} : Lit × DataW H → Nat
  | (.string bytes, d) => bytes.length + uptoBulk d + 1
  | (_, d) => uptoBulk d + 1
 end
def uptoSmall : (H : Type) → List (DataW H) → Bool := fun _ ds => decide (uptoBulkAll ds ≤ 1048576)
def OpenSpec.upto (s : _root_.Go.ChangeSpec) : _root_.Go.OpenSpec := { _root_.Go.OpenSpec.ofChange s with cond := some uptoSmall }

/-- 'laws.FnExactMatchWinner', WHERE WHAT IT READS IS OF BULK AT MOST 1048576: true; the input reads as it did. -/
def fnExactMatchWinnerUptoRow : OpenClaim := { program := "ytbblolalkpfapaagreat", sum := "ff27f4116b09cfbab1e2a6472719fef327efd44391bf0832d881404e89977d01", func := "loop.example/g03010/laws.FnExactMatchWinner", spec := "fnExactMatchWinner", apart := false, narrowed := true }
def FnExactMatchWinnerUptoSaid : Prop := fnExactMatchWinnerUptoRow.holds Tryz.pinned (OpenSpec.upto fnExactMatchWinnerSpec)

/-- 'laws.FnExactStepSeal', WHERE WHAT IT READS IS OF BULK AT MOST 1048576: true; the input reads as it did. -/
def fnExactStepSealUptoRow : OpenClaim := { program := "ytbblolalkpfapaagreat", sum := "ff27f4116b09cfbab1e2a6472719fef327efd44391bf0832d881404e89977d01", func := "loop.example/g03010/laws.FnExactStepSeal", spec := "fnExactStepSeal", apart := false, narrowed := true }
def FnExactStepSealUptoSaid : Prop := fnExactStepSealUptoRow.holds Tryz.pinned (OpenSpec.upto fnExactStepSealSpec)

/-- 'laws.FnExactStepTake', WHERE WHAT IT READS IS OF BULK AT MOST 1048576: true; the input reads as it did. -/
def fnExactStepTakeUptoRow : OpenClaim := { program := "ytbblolalkpfapaagreat", sum := "ff27f4116b09cfbab1e2a6472719fef327efd44391bf0832d881404e89977d01", func := "loop.example/g03010/laws.FnExactStepTake", spec := "fnExactStepTake", apart := false, narrowed := true }
def FnExactStepTakeUptoSaid : Prop := fnExactStepTakeUptoRow.holds Tryz.pinned (OpenSpec.upto fnExactStepTakeSpec)

/-- 'laws.FnExactStepPlay', WHERE WHAT IT READS IS OF BULK AT MOST 1048576: true; the input reads as it did. -/
def fnExactStepPlayUptoRow : OpenClaim := { program := "ytbblolalkpfapaagreat", sum := "ff27f4116b09cfbab1e2a6472719fef327efd44391bf0832d881404e89977d01", func := "loop.example/g03010/laws.FnExactStepPlay", spec := "fnExactStepPlay", apart := false, narrowed := true }
def FnExactStepPlayUptoSaid : Prop := fnExactStepPlayUptoRow.holds Tryz.pinned (OpenSpec.upto fnExactStepPlaySpec)

/-- 'laws.FnAgain', WHERE WHAT IT READS IS OF BULK AT MOST 1048576: true; the input reads as it did. -/
def fnAgainUptoRow : OpenClaim := { program := "ytbblolalkpfapaagreat", sum := "ff27f4116b09cfbab1e2a6472719fef327efd44391bf0832d881404e89977d01", func := "loop.example/g03010/laws.FnAgain", spec := "fnAgain", recurses := true, apart := false, narrowed := true }
def FnAgainUptoSaid : Prop := fnAgainUptoRow.holds Tryz.pinned (OpenSpec.upto fnAgainSpec)

/-- 'laws.FnAudited', WHERE WHAT IT READS IS OF BULK AT MOST 1048576: true; the input reads as it did. -/
def fnAuditedUptoRow : OpenClaim := { program := "ytbblolalkpfapaagreat", sum := "ff27f4116b09cfbab1e2a6472719fef327efd44391bf0832d881404e89977d01", func := "loop.example/g03010/laws.FnAudited", spec := "fnAudited", recurses := true, apart := false, narrowed := true }
def FnAuditedUptoSaid : Prop := fnAuditedUptoRow.holds Tryz.pinned (OpenSpec.upto fnAuditedSpec)

/-- 'laws.FnExactBranch', WHERE WHAT IT READS IS OF BULK AT MOST 1048576: true; the input reads as it did. -/
def fnExactBranchUptoRow : OpenClaim := { program := "ytbblolalkpfapaagreat", sum := "ff27f4116b09cfbab1e2a6472719fef327efd44391bf0832d881404e89977d01", func := "loop.example/g03010/laws.FnExactBranch", spec := "fnExactBranch", apart := false, narrowed := true }
def FnExactBranchUptoSaid : Prop := fnExactBranchUptoRow.holds Tryz.pinned (OpenSpec.upto fnExactBranchSpec)

/-- 'laws.FnExactStepSettle', WHERE WHAT IT READS IS OF BULK AT MOST 1048576: true; the input reads as it did. -/
def fnExactStepSettleUptoRow : OpenClaim := { program := "ytbblolalkpfapaagreat", sum := "ff27f4116b09cfbab1e2a6472719fef327efd44391bf0832d881404e89977d01", func := "loop.example/g03010/laws.FnExactStepSettle", spec := "fnExactStepSettle", apart := false, narrowed := true }
def FnExactStepSettleUptoSaid : Prop := fnExactStepSettleUptoRow.holds Tryz.pinned (OpenSpec.upto fnExactStepSettleSpec)

/-- 'laws.FnExactStepDeal', WHERE WHAT IT READS IS OF BULK AT MOST 1048576: true; the input reads as it did. -/
def fnExactStepDealUptoRow : OpenClaim := { program := "ytbblolalkpfapaagreat", sum := "ff27f4116b09cfbab1e2a6472719fef327efd44391bf0832d881404e89977d01", func := "loop.example/g03010/laws.FnExactStepDeal", spec := "fnExactStepDeal", apart := false, narrowed := true }
def FnExactStepDealUptoSaid : Prop := fnExactStepDealUptoRow.holds Tryz.pinned (OpenSpec.upto fnExactStepDealSpec)

/-- 'laws.FnEvents', WHERE WHAT IT READS IS OF BULK AT MOST 1048576: true; the input reads as it did. -/
def fnEventsUptoRow : OpenClaim := { program := "ytbblolalkpfapaagreat", sum := "ff27f4116b09cfbab1e2a6472719fef327efd44391bf0832d881404e89977d01", func := "loop.example/g03010/laws.FnEvents", spec := "fnEvents", recurses := true, apart := false, narrowed := true }
def FnEventsUptoSaid : Prop := fnEventsUptoRow.holds Tryz.pinned (OpenSpec.upto fnEventsSpec)

/-- 'laws.FnExactApplyEvent', WHERE WHAT IT READS IS OF BULK AT MOST 1048576: true; the input reads as it did. -/
def fnExactApplyEventUptoRow : OpenClaim := { program := "ytbblolalkpfapaagreat", sum := "ff27f4116b09cfbab1e2a6472719fef327efd44391bf0832d881404e89977d01", func := "loop.example/g03010/laws.FnExactApplyEvent", spec := "fnExactApplyEvent", apart := false, narrowed := true }
def FnExactApplyEventUptoSaid : Prop := fnExactApplyEventUptoRow.holds Tryz.pinned (OpenSpec.upto fnExactApplyEventSpec)

/-- 'laws.FnExactRunEvents', WHERE WHAT IT READS IS OF BULK AT MOST 1048576: true; the input reads as it did. -/
def fnExactRunEventsUptoRow : OpenClaim := { program := "ytbblolalkpfapaagreat", sum := "ff27f4116b09cfbab1e2a6472719fef327efd44391bf0832d881404e89977d01", func := "loop.example/g03010/laws.FnExactRunEvents", spec := "fnExactRunEvents", apart := false, narrowed := true }
def FnExactRunEventsUptoSaid : Prop := fnExactRunEventsUptoRow.holds Tryz.pinned (OpenSpec.upto fnExactRunEventsSpec)

end Rows
end Go.Proofs.YtbblolalkpfapaaGreat
