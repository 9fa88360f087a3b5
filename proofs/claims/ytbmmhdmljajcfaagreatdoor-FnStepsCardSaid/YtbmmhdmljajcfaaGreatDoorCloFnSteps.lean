/- The closed facts of the row: what the law reaches, enters and names. Conditions: none. -/
import Derived.Test.YtbmmhdmljajcfaaGreatDoorRows
import Derived.Test.YtbmmhdmljajcfaaGreatDoorVLaw
import Derived.Test.YtbmmhdmljajcfaaGreatDoorKit
import Derived.WalkKit
import Derived.ProofKit
import Derived.OpenShut
import Derived.ShutString
import Derived.ChangeOld
import Derived.Below
import Derived.SizedLaws
import Derived.Test.YtbmmhdmljajcfaaGreatDoorCards
import Derived.Test.YtbmmhdmljajcfaaGreatDoorTie
import Derived.LaidMore
import Derived.Stop.Joined
import Derived.Lib.LaidTab
import Derived.SevenTiedAt
set_option linter.unusedVariables false
open Go
namespace Go.Proofs.YtbmmhdmljajcfaaGreatDoor.nu
theorem own:ownKnob Tryz.prog.godebug=none:=by kernel_rfl
theorem laidOut:laidOutB Tryz.prog=true:=by kernel_rfl
theorem reach:((Rows.fnStepsRow.inPlace==Tryz.prog.inPlace 4)&&(Rows.fnStepsRow.unfollowed==Tryz.prog.unfollowed 4)&&(Rows.fnStepsRow.recurses==Tryz.prog.recurses 4)&&(Rows.fnStepsRow.named==Tryz.prog.varsNamed 4))=true:=by kernel_rfl
theorem enters:Tryz.prog.mayEnter=true:=by kernel_rfl
theorem Qr:Tryz.prog.stopsHeard=true:=by kernel_rfl
theorem Qs:(Rows.fnStepsRow.lifted==Tryz.prog.liftsFinal)=true:=by kernel_rfl
theorem makes:(Tryz.prog.make==some Rows.fnStepsRow.make)=true:=by kernel_rfl
theorem keys:(Rows.fnStepsRow.plainKeys==Tryz.prog.plainKeys)=true:=by kernel_rfl
set_option maxHeartbeats 100000000 in
theorem closed:joinedFacts Tryz.prog 4 Tryz.f4 Rows.fnStepsSpec Rows.fnStepsRow=true:=by
 have h0:=reach
 simp only[Bool.and_eq_true] at h0
 obtain ⟨⟨⟨h1,h2⟩,h3⟩,h4⟩:=h0
 have h5:=enters;have h6:=Qr;have h7:=Qs;have h8:=makes;have h9:=keys;have Mh:=laidOut
 unfold joinedFacts
 repeat' (with_reducible refine V.ch ?_ ?_)
 all_goals first| (with_reducible assumption)| (clear h1 h2 h3 h4 h5 h6 h7 h8 h9 Mh;as_aux_lemma=>kernel_rfl)
end Go.Proofs.YtbmmhdmljajcfaaGreatDoor.nu
