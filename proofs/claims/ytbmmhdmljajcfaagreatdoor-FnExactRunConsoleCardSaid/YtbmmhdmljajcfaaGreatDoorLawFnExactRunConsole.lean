/- The given tied card of FnExactRunConsole holds. Conditions: none beyond the card's own. -/
import Derived.Test.YtbmmhdmljajcfaaGreatDoorOvaFnExactRunConsole
import Derived.Test.YtbmmhdmljajcfaaGreatDoorGobFnExactRunConsole
import Derived.Test.YtbmmhdmljajcfaaGreatDoorRows
import Derived.Test.YtbmmhdmljajcfaaGreatDoorVLaw
import Derived.WalkKit
import Derived.ProofKit
import Derived.OpenShut
import Derived.ShutString
import Derived.ChangeOld
import Derived.Below
import Derived.SizedLaws
import Derived.Test.YtbmmhdmljajcfaaGreatDoorCards
import Derived.Test.YtbmmhdmljajcfaaGreatDoorTie
import Derived.LaidMore
import Derived.Stop.Joined
import Derived.Lib.LaidTab
import Derived.SevenTiedAt
set_option linter.unusedVariables false
open Go
namespace Go.Proofs.YtbmmhdmljajcfaaGreatDoor.iX
open Go.ChangeShapes Go.WideShapes Go.ChangeAt Go.RowKit
theorem abW:Rows.FnExactRunConsoleCardSaid:=
 Claim7.holds_tied_plain_at .later [] [.data,.data,.data,.sentinel,.sentinel] true (true,"66d660e697c8618cd58fc91012fcf406d149a0e5f3e5171234bfd437ef351852") true
  over (fun _ h=>by cases h) Xf (fun _ h=>by cases h) fnExactRunConsole_row_tie rfl ⟨rfl,rfl⟩ Zz rfl
  (fun f fn hf Hl=>by
    obtain rfl:f=6:=Option.some.inj (Xh.symm.trans hf) |>.symm
    obtain rfl:fn=Tryz.f6:=(Option.some.inj (Tryz.func6.symm.trans Hl)).symm
    exact ⟨Xg,fun j t ht=>by
     rw[Tryz.params6] at ht
     have hm:t∈[9]:=by simpa using Array.mem_of_getElem? ht
     have w9:([9].all fun u=> !Tryz.prog.wantsStandIn u)=true:=by kernel_rfl
     exact (show Tryz.prog.wantsStandIn t=false by simpa using List.all_eq_true.1 w9 t hm)⟩)
  goes
end Go.Proofs.YtbmmhdmljajcfaaGreatDoor.iX
namespace Go.Proofs.YtbmmhdmljajcfaaGreatDoor
theorem fnExactRunConsole_holds:Rows.FnExactRunConsoleCardSaid:=iX.abW
end Go.Proofs.YtbmmhdmljajcfaaGreatDoor
