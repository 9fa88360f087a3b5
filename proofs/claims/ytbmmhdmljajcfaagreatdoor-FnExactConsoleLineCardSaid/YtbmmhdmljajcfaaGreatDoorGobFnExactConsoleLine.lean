/- Closed facts of the card. Conditions: none. -/
import Derived.Test.YtbmmhdmljajcfaaGreatDoorKit
import Derived.Test.YtbmmhdmljajcfaaGreatDoorCards
import Derived.Test.YtbmmhdmljajcfaaGreatDoorTie
import Derived.LaidMore
import Derived.Lib.LaidTab
set_option linter.unusedVariables false
open Go
namespace Go.Proofs.YtbmmhdmljajcfaaGreatDoor.FF
theorem Xf:Rows.fnExactConsoleLineRow.wfByText (OpenSpec.ofChange Rows.fnExactConsoleLineSpec)=true:=by kernel_rfl
theorem Xg:true=Tryz.prog.looks []:=by kernel_rfl
theorem Zz:Tryz.prog.mainIs=some (((true,"66d660e697c8618cd58fc91012fcf406d149a0e5f3e5171234bfd437ef351852"):Bool×String).1,((true,"66d660e697c8618cd58fc91012fcf406d149a0e5f3e5171234bfd437ef351852"):Bool×String).2.toList):=by kernel_rfl
theorem Xh:Tryz.prog.funcNamed "loop.example/g03010/laws.FnExactConsoleLine" =some 7:=by kernel_rfl
theorem goes:false=Rows.fnExactConsoleLineRow.goesBy Tryz.prog:=by kernel_rfl
