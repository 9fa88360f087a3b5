/- Sizes, copies, comparisons in plain Lean. Conditions: enough rounds, what the statement's guard lets pass. Printed by a program. -/
import Derived.Test.YtbmmhdmljajcfaaGreatDoorTg
import Derived.Test.YtbmmhdmljajcfaaGreatDoorXImplConsoleLine
import Derived.Test.YtbmmhdmljajcfaaGreatDoorXSpecConsoleLine
import Derived.Test.YtbmmhdmljajcfaaGreatDoorKit
import Derived.Test.YtbmmhdmljajcfaaGreatDoorFFnExactRunConsole
set_option linter.unusedVariables false
set_option linter.unusedSimpArgs false
namespace Go.Proofs.YtbmmhdmljajcfaaGreatDoor
open Go Go.Proofs.YtbmmhdmljajcfaaGreatDoor.V
theorem e_.loop {R:Type} {k:Nat} (hk:cy<=k) (v:List ByteArray) (e0 e1:Option R) (hv:v.length<1048577): ∀(m i n:Nat),i+m=v.length->m<n->e_.l4 k v v e0 e1 n (i:Int)=e1:=by
 intro m
 induction m with
 |zero=>
  intro i n hi hn
  obtain ⟨n,rfl⟩: ∃n',n=n' +1:=⟨n-1,by omega⟩
  refine kz rfl ?_
  exact br aC
 |succ m ih=>
  intro i n hi hn
  obtain ⟨n,rfl⟩: ∃n',n=n' +1:=⟨n-1,by omega⟩
  have tu:i<v.length:=by omega
  refine kz rfl ?_
  refine bT ae ?_
  refine cT (cg tu) ?_
  refine cT (cg tu) ?_
  refine bF (by simp) ?_
  rw[aK]
  exact ih (i+1) n (by omega) (by omega)
theorem e_.eq {k:Nat} (hk:cy<=k) {v:List ByteArray} (hv:v.length<1048577):e_.f k v v=some true:=by
 refine bF (by simp) ?_
 exact e_.loop hk v _ _ hv v.length 0 k (by omega) (by simp[cy] at hk;omega)
end Go.Proofs.YtbmmhdmljajcfaaGreatDoor
