/- Patterns in plain Lean. Conditions: enough rounds, lists of at most 2^20. -/
import Derived.Test.YtbmmhdmljajcfaaGreatDoorKit
import Derived.Test.YtbmmhdmljajcfaaGreatDoorFFnExactStepRules
import Derived.Test.YtbmmhdmljajcfaaGreatDoorPRange
set_option linter.unusedVariables false
set_option linter.unusedSimpArgs false
namespace Go.Proofs.YtbmmhdmljajcfaaGreatDoor
open Go Go.Proofs.YtbmmhdmljajcfaaGreatDoor.V
def leafB (a:Int):Bool:=inR a 100 103||inR a 200 212||inR a 300 312||(a==400)
theorem spec_l8Leaf.eq (k:Nat) (a:Int):spec_l8Leaf.f k a=some (leafB a):=by
 unfold spec_l8Leaf.f leafB
 simp only[spec_l1In.eq,Option.bind_some]
 cases inR a 100 103<;>cases inR a 200 212<;>cases inR a 300 312<;>rfl
theorem impl_isTest.eq (k:Nat) (a:Int):impl_isTest.f k a=some (leafB a):=by
 unfold impl_isTest.f leafB
 simp only[impl_InRange.eq,Option.bind_some]
 cases inR a 100 103<;>cases inR a 200 212<;>cases inR a 300 312<;>rfl
def patOK (d a:Int):Bool:=leafB a||((a== -1)&&decide (1<=d))||((a== -2||a== -3)&&decide (2<=d))
def patD (d a:Int):Int:=bif leafB a then d+1 else bif a== -1 then d else d-1
def okPat:List Int->Int->Bool
 | [],d=>d==1
 |a::l,d=>patOK d a&&okPat l (patD d a)
theorem run_pat (q:Bool): ∀(l:List Int) (d:Int),run patOK patD (fun d=>some ((d==1)&&q)) (fun _ _=>some false) l d=some (okPat l d&&q)
 | [],d=>rfl
 |a::l,d=>by
  show (bif patOK d a then run patOK patD _ _ l (patD d a) else some false)=some (patOK d a&&okPat l (patD d a)&&q)
  rw[run_pat q l (patD d a)]
  cases patOK d a<;>rfl
theorem patD_le {d a:Int} (h:patOK d a=true) (h0:0<=d):0<=patD d a/\patD d a<=d+1:=by
 unfold patOK at h
 cases hl:leafB a with
 |true=>have e:patD d a=d+1:=by unfold patD;rw[hl];rfl
        omega
 |false=>
  by_cases h1:a= -1
  ·have e:patD d a=d:=by unfold patD;rw[hl,h1];rfl
   omega
  ·have h1':(a==(-1:Int))=false:=by simp[h1]
   have e:patD d a=d-1:=by unfold patD;rw[hl,h1'];rfl
   rw[hl,h1'] at h
   simp at h
   omega
theorem pat_round {R:Type} (d a:Int) (X Y Z W:Option R) (hX:leafB a=true->X=W) (hY:a= -1->Y=W) (hZ:(a= -2\/a= -3)->Z=W) (e:Option R) (hle:leafB a=true->a≠ -1/\a≠ -2/\a≠ -3):
 (bif leafB a then X else bif (a==(-1:Int)) then (bif decide (d>=1) then Y else bif (a==(-2:Int)) then (bif decide (d>=2) then Z else e) else bif (a==(-3:Int)) then (bif decide (d>=2) then Z else e) else e) else bif (a==(-2:Int)) then (bif decide (d>=2) then Z else e) else bif (a==(-3:Int)) then (bif decide (d>=2) then Z else e) else e)=bif patOK d a then W else e:=by
 unfold patOK
 cases hl:leafB a with
 |true=>simp[hX hl]
 |false=>
  by_cases h1:a= -1
  ·subst h1
   by_cases hd:1<=d<;>simp[hd,hY rfl]
  ·by_cases h2:a= -2
   ·subst h2
    by_cases hd:2<=d<;>simp[hd,hZ (.inl rfl)]
   ·by_cases h3:a= -3
    ·subst h3
     by_cases hd:2<=d<;>simp[hd,hZ (.inr rfl)]
    ·have e1:(a==(-1:Int))=false:=by simp[h1]
     have e2:(a==(-2:Int))=false:=by simp[h2]
     have e3:(a==(-3:Int))=false:=by simp[h3]
     rw[e1,e2,e3]
     rfl
theorem leafB_ne {a:Int} (h:leafB a=true):a≠ -1/\a≠ -2/\a≠ -3:=by
 refine ⟨?_,?_,?_⟩<;>rintro rfl<;>exact absurd h (by decide)
def isPattern (l:List Int):Bool:=okPat l 0&&decide ((l.length:Int)<=20)
theorem spec_IsPattern.eq {k:Nat} (hk:BIG<=k) {l:List Int} (hl:l.length<1048577):spec_IsPattern.f k l=some (isPattern l):=by
 have h:=scan (B:=Int) l (fun m b i=>spec_IsPattern.l3 k l (fun x2=>some false) (fun x3=>bif (x3==(1:Int)) then some (decide ((l.length:Int)<=(20:Int))) else some false) m b i) patOK patD (fun d=>some ((d==1)&&decide ((l.length:Int)<=20))) (fun _ _=>some false) (fun i b=>0<=b/\b<=(i:Int))
  (fun m b i h hI=>by
    refine (spec_IsPattern.l3_succ ..).trans ?_
    refine (bif_t (dec_t (by omega))).trans ?_
    refine (chk_t (in_t h)).trans ?_
    rw[Int.toNat_natCast,getD_lt _ h]
    refine (bind_s (spec_l8Leaf.eq ..)).trans ?_
    simp only[chk_t (in_t h)]
    rw[wrap_up (by omega),wrap_i64 (n:=b+1) (by omega) (by omega),wrap_i64 (n:=b-1) (by omega) (by omega)]
    refine pat_round b l[i] _ _ _ _ (fun e=>by unfold patD;rw[e];rfl) (fun e=>by unfold patD;rw[e];rfl) (fun e=>by unfold patD;rcases e with e|e<;>rw[e]<;>rfl) _ leafB_ne)
  (fun b i h hI hp=>by have:=patD_le hp hI.1;constructor<;>omega)
  (fun m b hI=>(spec_IsPattern.l3_succ ..).trans ((bif_f (dec_f (by omega))).trans (by show (bif (b==(1:Int)) then _ else _)=_;cases (b==(1:Int))<;>rfl)))
  l.length 0 k 0 (by omega) (BIG_lt hk hl) (by simp)
 refine h.trans ?_
 rw[List.drop_zero,run_pat]
 rfl
theorem impl_IsPattern.eq {k:Nat} (hk:BIG<=k) {l:List Int} (hl:l.length<1048577):impl_IsPattern.f k l=some (isPattern l):=by
 have h:=scan (B:=Int) l (fun m b i=>impl_IsPattern.l3 k l (l.length:Int) (fun x2=>some false) (fun x3=>(impl_InRange.f k (l.length:Int) (1:Int) (20:Int)).bind fun r4=>bif r4 then some (x3==(1:Int)) else some false) m b i) patOK patD (fun d=>some ((d==1)&&inR (l.length:Int) 1 20)) (fun _ _=>some false) (fun i b=>0<=b/\b<=(i:Int))
  (fun m b i h hI=>by
    refine (impl_IsPattern.l3_succ ..).trans ?_
    refine (bif_t (dec_t (by omega))).trans ?_
    refine (chk_t (in_t h)).trans ?_
    rw[Int.toNat_natCast,getD_lt _ h]
    refine (bind_s (impl_isTest.eq ..)).trans ?_
    rw[wrap_up (by omega),wrap_i64 (n:=b+1) (by omega) (by omega),wrap_i64 (n:=b-1) (by omega) (by omega)]
    refine pat_round b l[i] _ _ _ _ (fun e=>by unfold patD;rw[e];rfl) (fun e=>by unfold patD;rw[e];rfl) (fun e=>by unfold patD;rcases e with e|e<;>rw[e]<;>rfl) _ leafB_ne)
  (fun b i h hI hp=>by have:=patD_le hp hI.1;constructor<;>omega)
  (fun m b hI=>(impl_IsPattern.l3_succ ..).trans ((bif_f (dec_f (by omega))).trans ((bind_s (impl_InRange.eq ..)).trans (by cases inR (l.length:Int) 1 20<;>simp))))
  l.length 0 k 0 (by omega) (BIG_lt hk hl) (by simp)
 refine h.trans ?_
 rw[List.drop_zero,run_pat]
 unfold isPattern inR
 cases l with
 |nil=>rfl
 |cons a l=>
  have e:decide ((1:Int)<=((a::l).length:Int))=true:=dec_t (by simp;omega)
  rw[e];rfl
def maybePat (l:List Int):Bool:=((l.length:Int)==0)||isPattern l
theorem spec_l22Pattern.eq {k:Nat} (hk:BIG<=k) {l:List Int} (hl:l.length<1048577):spec_l22Pattern.f k l=some (maybePat l):=by
 unfold spec_l22Pattern.f maybePat
 rw[spec_IsPattern.eq hk hl]
 cases ((l.length:Int)==0)<;>rfl
theorem impl_isMaybe.eq {k:Nat} (hk:BIG<=k) {l:List Int} (hl:l.length<1048577):impl_isMaybe.f k l=some (maybePat l):=by
 unfold impl_isMaybe.f maybePat
 rw[impl_IsPattern.eq hk hl]
 cases ((l.length:Int)==0)<;>rfl
end Go.Proofs.YtbmmhdmljajcfaaGreatDoor
