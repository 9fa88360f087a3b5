import Derived.Test.YtbmmhdmljajcfaaGreatDoorOvaFnConsole
import Derived.Test.YtbmmhdmljajcfaaGreatDoorGobFnConsole
import Derived.Test.YtbmmhdmljajcfaaGreatDoorRows
import Derived.Test.YtbmmhdmljajcfaaGreatDoorVLaw
import Derived.WalkKit
import Derived.ProofKit
import Derived.OpenShut
import Derived.ShutString
import Derived.ChangeOld
import Derived.Below
import Derived.SizedLaws
import Derived.Test.YtbmmhdmljajcfaaGreatDoorCards
import Derived.Test.YtbmmhdmljajcfaaGreatDoorTie
import Derived.LaidMore
import Derived.Stop.Joined
import Derived.Lib.LaidTab
import Derived.SevenTiedAt
set_option linter.unusedVariables false
open Go
namespace Go.Proofs.YtbmmhdmljajcfaaGreatDoor.mw
open Go.ChangeShapes Go.WideShapes Go.ChangeAt Go.RowKit
theorem V7:Rows.FnConsoleCardSaid:=
 Claim7.holds_tied_plain_at .later [] [.data,.data,.data,.sentinel,.sentinel] true (true,"66d660e697c8618cd58fc91012fcf406d149a0e5f3e5171234bfd437ef351852") true
  over (fun _ h=>by cases h) Tp (fun _ h=>by cases h) fnConsole_row_tie rfl ⟨rfl,rfl⟩ V5 rfl
  (fun f fn hf CV=>by
    obtain rfl:f=5:=Option.some.inj (Tr.symm.trans hf) |>.symm
    obtain rfl:fn=Tryz.f5:=(Option.some.inj (Tryz.func5.symm.trans CV)).symm
    exact ⟨Tq,fun j t ht=>by
     rw[Tryz.params5] at ht
     have hm:t∈[42]:=by simpa using Array.mem_of_getElem? ht
     have sV:([42].all fun u=> !Tryz.prog.wantsStandIn u)=true:=by kernel_rfl
     exact (show Tryz.prog.wantsStandIn t=false by simpa using List.all_eq_true.1 sV t hm)⟩)
  goes
end Go.Proofs.YtbmmhdmljajcfaaGreatDoor.mw
namespace Go.Proofs.YtbmmhdmljajcfaaGreatDoor
theorem fnConsole_holds:Rows.FnConsoleCardSaid:=mw.V7
end Go.Proofs.YtbmmhdmljajcfaaGreatDoor
