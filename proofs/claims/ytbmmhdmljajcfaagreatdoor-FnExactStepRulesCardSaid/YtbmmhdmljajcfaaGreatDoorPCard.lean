/- Cards in plain Lean. Conditions: none. -/
import Derived.Test.YtbmmhdmljajcfaaGreatDoorKit
import Derived.Test.YtbmmhdmljajcfaaGreatDoorFFnExactStepRules
import Derived.Test.YtbmmhdmljajcfaaGreatDoorPRange
set_option linter.unusedVariables false
set_option linter.unusedSimpArgs false
namespace Go.Proofs.YtbmmhdmljajcfaaGreatDoor
open Go Go.Proofs.YtbmmhdmljajcfaaGreatDoor.V
def isCard (c:Int):Bool:=inR c 0 51
def suitOf (c:Int):Int:=bif isCard c then c.tdiv 13 else-1
def rankOf (c:Int):Int:=bif isCard c then c.tmod 13 else-1
def isRed (c:Int):Bool:=inR (suitOf c) 1 2
theorem isCard_iff {c:Int}:isCard c=true↔0<=c/\c<=51:=inR_iff
theorem spec_IsCard.eq (k:Nat) (c:Int):spec_IsCard.f k c=some (isCard c):=bind_s (spec_l1In.eq ..)
theorem impl_IsCard.eq (k:Nat) (c:Int):impl_IsCard.f k c=some (isCard c):=bind_s (impl_InRange.eq ..)
theorem suit_wrap {c:Int} (h:isCard c=true):IntKind.wrap .i64 (c.tdiv 13)=c.tdiv 13:=by
 have:=isCard_iff.1 h
 have e:=Int.tdiv_eq_ediv_of_nonneg (b:=13) this.1
 exact wrap_i64 (by omega) (by omega)
theorem spec_SuitOf.eq (k:Nat) (c:Int):spec_SuitOf.f k c=some (suitOf c):=by
 refine (bind_s (spec_IsCard.eq ..)).trans ?_
 unfold suitOf
 cases h:isCard c with
 |false=>rfl
 |true=>exact (bif_f rfl).trans (by rw[suit_wrap h];rfl)
theorem impl_SuitOf.eq (k:Nat) (c:Int):impl_SuitOf.f k c=some (suitOf c):=by
 refine (bind_s (impl_IsCard.eq ..)).trans ?_
 unfold suitOf
 cases h:isCard c with
 |false=>rfl
 |true=>exact (bif_f rfl).trans (by rw[suit_wrap h];rfl)
theorem spec_RankOf.eq (k:Nat) (c:Int):spec_RankOf.f k c=some (rankOf c):=by
 refine (bind_s (spec_IsCard.eq ..)).trans ?_
 unfold rankOf
 cases isCard c<;>rfl
theorem impl_RankOf.eq (k:Nat) (c:Int):impl_RankOf.f k c=some (rankOf c):=by
 refine (bind_s (impl_IsCard.eq ..)).trans ?_
 unfold rankOf
 cases isCard c<;>rfl
theorem spec_IsRed.eq (k:Nat) (c:Int):spec_IsRed.f k c=some (isRed c):=(bind_s (spec_SuitOf.eq ..)).trans (bind_s (spec_l1In.eq ..))
theorem impl_IsRed.eq (k:Nat) (c:Int):impl_IsRed.f k c=some (isRed c):=by
 refine (bind_s (impl_SuitOf.eq ..)).trans ?_
 unfold isRed inR
 by_cases h:suitOf c=1
 ·rw[h];rfl
 ·refine (bif_f (by simpa using h)).trans ((bind_s (impl_SuitOf.eq ..)).trans ?_)
  by_cases h2:suitOf c=2
  ·rw[h2];rfl
  ·have e1:(suitOf c==(2:Int))=false:=by simp[h2]
   have e2:(decide (1<=suitOf c)&&decide (suitOf c<=2))=false:=by
    by_cases h3:1<=suitOf c
    ·rw[dec_t h3,dec_f (p:=suitOf c<=2) (by omega)];rfl
    ·rw[dec_f h3];rfl
   rw[e1,e2]
end Go.Proofs.YtbmmhdmljajcfaaGreatDoor
