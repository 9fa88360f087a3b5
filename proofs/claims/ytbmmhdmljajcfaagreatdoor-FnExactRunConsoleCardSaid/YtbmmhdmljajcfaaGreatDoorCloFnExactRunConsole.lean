/- The closed facts of the row: what the law reaches, enters and names. Conditions: none. -/
import Derived.Test.YtbmmhdmljajcfaaGreatDoorRows
import Derived.Test.YtbmmhdmljajcfaaGreatDoorVLaw
import Derived.Test.YtbmmhdmljajcfaaGreatDoorKit
import Derived.WalkKit
import Derived.ProofKit
import Derived.OpenShut
import Derived.ShutString
import Derived.ChangeOld
import Derived.Below
import Derived.SizedLaws
import Derived.Test.YtbmmhdmljajcfaaGreatDoorCards
import Derived.Test.YtbmmhdmljajcfaaGreatDoorTie
import Derived.LaidMore
import Derived.Stop.Joined
import Derived.Lib.LaidTab
import Derived.SevenTiedAt
set_option linter.unusedVariables false
open Go
namespace Go.Proofs.YtbmmhdmljajcfaaGreatDoor.iX
theorem own:ownKnob Tryz.prog.godebug=none:=by kernel_rfl
theorem laidOut:laidOutB Tryz.prog=true:=by kernel_rfl
theorem reach:((Rows.fnExactRunConsoleRow.inPlace==Tryz.prog.inPlace 6)&&(Rows.fnExactRunConsoleRow.unfollowed==Tryz.prog.unfollowed 6)&&(Rows.fnExactRunConsoleRow.recurses==Tryz.prog.recurses 6)&&(Rows.fnExactRunConsoleRow.named==Tryz.prog.varsNamed 6))=true:=by kernel_rfl
theorem enters:Tryz.prog.mayEnter=true:=by kernel_rfl
theorem Zk:Tryz.prog.stopsHeard=true:=by kernel_rfl
theorem Zm:(Rows.fnExactRunConsoleRow.lifted==Tryz.prog.liftsFinal)=true:=by kernel_rfl
theorem makes:(Tryz.prog.make==some Rows.fnExactRunConsoleRow.make)=true:=by kernel_rfl
theorem keys:(Rows.fnExactRunConsoleRow.plainKeys==Tryz.prog.plainKeys)=true:=by kernel_rfl
set_option maxHeartbeats 100000000 in
theorem closed:joinedFacts Tryz.prog 6 Tryz.f6 Rows.fnExactRunConsoleSpec Rows.fnExactRunConsoleRow=true:=by
 have h0:=reach
 simp only[Bool.and_eq_true] at h0
 obtain ⟨⟨⟨h1,h2⟩,h3⟩,h4⟩:=h0
 have h5:=enters;have h6:=Zk;have h7:=Zm;have h8:=makes;have h9:=keys;have UH:=laidOut
 unfold joinedFacts
 repeat' (with_reducible refine V.bA ?_ ?_)
 all_goals first| (with_reducible assumption)| (clear h1 h2 h3 h4 h5 h6 h7 h8 h9 UH;as_aux_lemma=>kernel_rfl)
end Go.Proofs.YtbmmhdmljajcfaaGreatDoor.iX
