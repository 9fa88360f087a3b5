/- Closed facts of the card. Conditions: none. -/
import Derived.Test.YtbmmhdmljajcfaaGreatDoorRows
import Derived.Test.YtbmmhdmljajcfaaGreatDoorVLaw
import Derived.Test.YtbmmhdmljajcfaaGreatDoorKit
import Derived.WalkKit
import Derived.ProofKit
import Derived.OpenShut
import Derived.ShutString
import Derived.ChangeOld
import Derived.Below
import Derived.SizedLaws
import Derived.Test.YtbmmhdmljajcfaaGreatDoorCards
import Derived.Test.YtbmmhdmljajcfaaGreatDoorTie
import Derived.LaidMore
import Derived.Stop.Joined
import Derived.Lib.LaidTab
import Derived.SevenTiedAt
set_option linter.unusedVariables false
open Go
namespace Go.Proofs.YtbmmhdmljajcfaaGreatDoor.iX
theorem Xf:Rows.fnExactRunConsoleRow.wfByText (OpenSpec.ofChange Rows.fnExactRunConsoleSpec)=true:=by kernel_rfl
theorem Xg:true=Tryz.prog.looks []:=by kernel_rfl
theorem Zz:Tryz.prog.mainIs=some (((true,"66d660e697c8618cd58fc91012fcf406d149a0e5f3e5171234bfd437ef351852"):Bool×String).1,((true,"66d660e697c8618cd58fc91012fcf406d149a0e5f3e5171234bfd437ef351852"):Bool×String).2.toList):=by kernel_rfl
theorem Xh:Tryz.prog.funcNamed "loop.example/g03010/laws.FnExactRunConsole" =some 6:=by kernel_rfl
theorem goes:false=Rows.fnExactRunConsoleRow.goesBy Tryz.prog:=by kernel_rfl
end Go.Proofs.YtbmmhdmljajcfaaGreatDoor.iX
