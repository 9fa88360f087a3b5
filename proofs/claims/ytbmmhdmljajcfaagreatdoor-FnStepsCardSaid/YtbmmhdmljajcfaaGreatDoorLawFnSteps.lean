/- The given tied card of FnSteps holds. Conditions: none beyond the card's own. -/
import Derived.Test.YtbmmhdmljajcfaaGreatDoorOvaFnSteps
import Derived.Test.YtbmmhdmljajcfaaGreatDoorGobFnSteps
import Derived.Test.YtbmmhdmljajcfaaGreatDoorRows
import Derived.Test.YtbmmhdmljajcfaaGreatDoorVLaw
import Derived.WalkKit
import Derived.ProofKit
import Derived.OpenShut
import Derived.ShutString
import Derived.ChangeOld
import Derived.Below
import Derived.SizedLaws
import Derived.Test.YtbmmhdmljajcfaaGreatDoorCards
import Derived.Test.YtbmmhdmljajcfaaGreatDoorTie
import Derived.LaidMore
import Derived.Stop.Joined
import Derived.Lib.LaidTab
import Derived.SevenTiedAt
set_option linter.unusedVariables false
open Go
namespace Go.Proofs.YtbmmhdmljajcfaaGreatDoor.nu
open Go.ChangeShapes Go.WideShapes Go.ChangeAt Go.RowKit
theorem Q9:Rows.FnStepsCardSaid:=
 Claim7.holds_tied_plain_at .later [] [.data,.data,.data,.sentinel,.sentinel] true (true,"66d660e697c8618cd58fc91012fcf406d149a0e5f3e5171234bfd437ef351852") true
  over (fun _ h=>by cases h) Ox (fun _ h=>by cases h) fnSteps_row_tie rfl ⟨rfl,rfl⟩ Q7 rfl
  (fun f fn hf DJ=>by
    obtain rfl:f=4:=Option.some.inj (Oz.symm.trans hf) |>.symm
    obtain rfl:fn=Tryz.f4:=(Option.some.inj (Tryz.func4.symm.trans DJ)).symm
    exact ⟨Oy,fun j t ht=>by
     rw[Tryz.params4] at ht
     have hm:t∈[42]:=by simpa using Array.mem_of_getElem? ht
     have GX:([42].all fun u=> !Tryz.prog.wantsStandIn u)=true:=by kernel_rfl
     exact (show Tryz.prog.wantsStandIn t=false by simpa using List.all_eq_true.1 GX t hm)⟩)
  goes
end Go.Proofs.YtbmmhdmljajcfaaGreatDoor.nu
namespace Go.Proofs.YtbmmhdmljajcfaaGreatDoor
theorem fnSteps_holds:Rows.FnStepsCardSaid:=nu.Q9
end Go.Proofs.YtbmmhdmljajcfaaGreatDoor
