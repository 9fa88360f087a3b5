/- The closed facts of the row: what the law reaches, enters and names. Conditions: none. -/
import Derived.Test.YtbmmhdmljajcfaaGreatDoorKit
import Derived.Test.YtbmmhdmljajcfaaGreatDoorCards
import Derived.Test.YtbmmhdmljajcfaaGreatDoorTie
import Derived.LaidMore
import Derived.Lib.LaidTab
set_option linter.unusedVariables false
open Go
namespace Go.Proofs.YtbmmhdmljajcfaaGreatDoor.FF
theorem own:ownKnob Tryz.prog.godebug=none:=by kernel_rfl
theorem laidOut:laidOutB Tryz.prog=true:=by kernel_rfl
theorem reach:((Rows.fnExactConsoleLineRow.inPlace==Tryz.prog.inPlace 7)&&(Rows.fnExactConsoleLineRow.unfollowed==Tryz.prog.unfollowed 7)&&(Rows.fnExactConsoleLineRow.recurses==Tryz.prog.recurses 7)&&(Rows.fnExactConsoleLineRow.named==Tryz.prog.varsNamed 7))=true:=by kernel_rfl
theorem enters:Tryz.prog.mayEnter=true:=by kernel_rfl
theorem Zk:Tryz.prog.stopsHeard=true:=by kernel_rfl
theorem Zm:(Rows.fnExactConsoleLineRow.lifted==Tryz.prog.liftsFinal)=true:=by kernel_rfl
theorem makes:(Tryz.prog.make==some Rows.fnExactConsoleLineRow.make)=true:=by kernel_rfl
theorem keys:(Rows.fnExactConsoleLineRow.plainKeys==Tryz.prog.plainKeys)=true:=by kernel_rfl
set_option maxHeartbeats 100000000 in
theorem closed:joinedFacts Tryz.prog 7 Tryz.f7 Rows.fnExactConsoleLineSpec Rows.fnExactConsoleLineRow=true:=by
 have h0:=reach
 simp only[Bool.and_eq_true] at h0
 obtain ⟨⟨⟨h1,h2⟩,h3⟩,h4⟩:=h0
 have h5:=enters;have h6:=Zk;have h7:=Zm;have h8:=makes;have h9:=keys;have UH:=laidOut
 unfold joinedFacts
 repeat' (with_reducible refine V.bA ?_ ?_)
 all_goals first| (with_reducible assumption)| (clear h1 h2 h3 h4 h5 h6 h7 h8 h9 UH;as_aux_lemma=>kernel_rfl)
