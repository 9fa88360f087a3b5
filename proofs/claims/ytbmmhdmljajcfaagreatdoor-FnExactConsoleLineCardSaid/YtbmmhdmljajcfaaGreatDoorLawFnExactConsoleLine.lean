/- The given tied card of FnExactConsoleLine holds. Conditions: none beyond the card's own. -/
import Derived.Test.YtbmmhdmljajcfaaGreatDoorOvaFnExactConsoleLine
import Derived.Test.YtbmmhdmljajcfaaGreatDoorGobFnExactConsoleLine
set_option linter.unusedVariables false
open Go
namespace Go.Proofs.YtbmmhdmljajcfaaGreatDoor.FF
open Go.ChangeShapes Go.WideShapes Go.ChangeAt Go.RowKit
theorem abW:Rows.FnExactConsoleLineCardSaid:=
 Claim7.holds_tied_plain_at .later [] [.data,.data,.data,.sentinel,.sentinel] true (true,"66d660e697c8618cd58fc91012fcf406d149a0e5f3e5171234bfd437ef351852") true
  over (fun _ h=>by cases h) Xf (fun _ h=>by cases h) fnExactConsoleLine_row_tie rfl ⟨rfl,rfl⟩ Zz rfl
  (fun f fn hf Hl=>by
    obtain rfl:f=7:=Option.some.inj (Xh.symm.trans hf) |>.symm
    obtain rfl:fn=Tryz.f7:=(Option.some.inj (Tryz.func7.symm.trans Hl)).symm
    exact ⟨Xg,fun j t ht=>by
     rw[Tryz.params7] at ht
     have hm:t∈[29,9]:=by simpa using Array.mem_of_getElem? ht
     have w9:([29,9].all fun u=> !Tryz.prog.wantsStandIn u)=true:=by kernel_rfl
     exact (show Tryz.prog.wantsStandIn t=false by simpa using List.all_eq_true.1 w9 t hm)⟩)
  goes
end Go.Proofs.YtbmmhdmljajcfaaGreatDoor.FF
namespace Go.Proofs.YtbmmhdmljajcfaaGreatDoor
theorem fnExactConsoleLine_holds:Rows.FnExactConsoleLineCardSaid:=FF.abW
end Go.Proofs.YtbmmhdmljajcfaaGreatDoor
