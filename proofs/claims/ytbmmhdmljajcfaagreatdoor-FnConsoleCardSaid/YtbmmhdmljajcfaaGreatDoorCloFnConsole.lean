/- The closed facts of the row: what the law reaches, enters and names. Conditions: none. -/
import Derived.Test.YtbmmhdmljajcfaaGreatDoorRows
import Derived.Test.YtbmmhdmljajcfaaGreatDoorVLaw
import Derived.Test.YtbmmhdmljajcfaaGreatDoorKit
import Derived.WalkKit
import Derived.ProofKit
import Derived.OpenShut
import Derived.ShutString
import Derived.ChangeOld
import Derived.Below
import Derived.SizedLaws
import Derived.Test.YtbmmhdmljajcfaaGreatDoorCards
import Derived.Test.YtbmmhdmljajcfaaGreatDoorTie
import Derived.LaidMore
import Derived.Stop.Joined
import Derived.Lib.LaidTab
import Derived.SevenTiedAt
set_option linter.unusedVariables false
open Go
namespace Go.Proofs.YtbmmhdmljajcfaaGreatDoor.mw
theorem own:ownKnob Tryz.prog.godebug=none:=by kernel_rfl
theorem laidOut:laidOutB Tryz.prog=true:=by kernel_rfl
theorem reach:((Rows.fnConsoleRow.inPlace==Tryz.prog.inPlace 5)&&(Rows.fnConsoleRow.unfollowed==Tryz.prog.unfollowed 5)&&(Rows.fnConsoleRow.recurses==Tryz.prog.recurses 5)&&(Rows.fnConsoleRow.named==Tryz.prog.varsNamed 5))=true:=by kernel_rfl
theorem enters:Tryz.prog.mayEnter=true:=by kernel_rfl
theorem VF:Tryz.prog.stopsHeard=true:=by kernel_rfl
theorem VG:(Rows.fnConsoleRow.lifted==Tryz.prog.liftsFinal)=true:=by kernel_rfl
theorem makes:(Tryz.prog.make==some Rows.fnConsoleRow.make)=true:=by kernel_rfl
theorem keys:(Rows.fnConsoleRow.plainKeys==Tryz.prog.plainKeys)=true:=by kernel_rfl
set_option maxHeartbeats 100000000 in
theorem closed:joinedFacts Tryz.prog 5 Tryz.f5 Rows.fnConsoleSpec Rows.fnConsoleRow=true:=by
 have h0:=reach
 simp only[Bool.and_eq_true] at h0
 obtain ⟨⟨⟨h1,h2⟩,h3⟩,h4⟩:=h0
 have h5:=enters;have h6:=VF;have h7:=VG;have h8:=makes;have h9:=keys;have N1:=laidOut
 unfold joinedFacts
 repeat' (with_reducible refine V.bi ?_ ?_)
 all_goals first| (with_reducible assumption)| (clear h1 h2 h3 h4 h5 h6 h7 h8 h9 N1;as_aux_lemma=>kernel_rfl)
end Go.Proofs.YtbmmhdmljajcfaaGreatDoor.mw
