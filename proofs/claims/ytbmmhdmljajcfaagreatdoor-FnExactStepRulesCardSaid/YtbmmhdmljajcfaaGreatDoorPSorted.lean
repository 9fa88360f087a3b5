/- Sorting by insertion. Conditions: enough rounds, lists of at most 2^20. -/
import Derived.Test.YtbmmhdmljajcfaaGreatDoorKit
import Derived.Test.YtbmmhdmljajcfaaGreatDoorFFnExactStepRules
import Derived.Test.YtbmmhdmljajcfaaGreatDoorPRange
set_option linter.unusedVariables false
set_option linter.unusedSimpArgs false
namespace Go.Proofs.YtbmmhdmljajcfaaGreatDoor
open Go Go.Proofs.YtbmmhdmljajcfaaGreatDoor.V
def posF (c:Int) (v:List Int):Nat->Nat
 |0=>0
 |k+1=>bif decide (v.getD k 0>c) then posF c v k else k+1
theorem posF_le (c:Int) (v:List Int): ∀k,posF c v k<=k
 |0=>Nat.le_refl _
 |k+1=>by
  have:=posF_le c v k
  unfold posF
  cases decide (v.getD k 0>c) with
  |true=>simp only[cond_true];omega
  |false=>simp only[cond_false];omega
def insI (v:List Int) (c:Int):List Int:=v.take (posF c v v.length)++c::v.drop (posF c v v.length)
def sortedI (l:List Int):List Int:=l.foldl insI []
theorem insI_len (v:List Int) (c:Int):(insI v c).length=v.length+1:=by
 have:=posF_le c v v.length
 simp[insI];omega
theorem ins_expr {v:List Int} {j:Nat} (d c:Int) (hj:j<=v.length) (n:Nat) (hn:n=(v++[d]).length):
 (((v++[d]).take (j+1))++(((((v++[d]).take n).drop j).take (n-(j+1)))++((v++[d]).drop ((j+1)+(min (n-j) (n-(j+1))))))).set j c=v.take j++c::v.drop j:=by
 have hm:n=v.length+1:=by rw[hn];simp
 have e1:(v++[d]).take n=v++[d]:=List.take_of_length_le (by simp;omega)
 have e2:(v++[d]).drop ((j+1)+(min (n-j) (n-(j+1))))=[]:=List.drop_eq_nil_of_le (by simp;omega)
 have e3:((v++[d]).drop j).take (n-(j+1))=v.drop j:=by
  rw[List.drop_append_of_le_length hj,List.take_append_of_le_length (by simp;omega),List.take_of_length_le (by simp;omega)]
 rw[e1,e2,e3,List.append_nil,List.set_eq_take_append_cons_drop]
 have hl:((v++[d]).take (j+1)).length=j+1:=by simp;omega
 rw[if_pos (by rw[List.length_append,hl];omega)]
 congr 1
 ·rw[List.take_append_of_le_length (by omega),List.take_take,show min j (j+1)=j by omega,List.take_append_of_le_length hj]
 ·rw[List.drop_append,hl,Nat.sub_self,List.drop_zero,List.drop_eq_nil_of_le (by omega),List.nil_append]
theorem impl_Sorted.inner {R:Type} (k:Nat) (c:Int) (v:List Int) (e0:Int->Option R) (hv:v.length<1048577): ∀(j n:Nat),j<=v.length->j<n->impl_Sorted.l6 k c v e0 n (j:Int)=e0 ((posF c v j:Nat):Int):=by
 intro j
 induction j with
 |zero=>
  intro n hj hn
  obtain ⟨n,rfl⟩: ∃n',n=n' +1:=⟨n-1,by omega⟩
  exact (impl_Sorted.l6_succ ..).trans (bif_f (dec_f (by omega)))
 |succ j ih=>
  intro n hj hn
  obtain ⟨n,rfl⟩: ∃n',n=n' +1:=⟨n-1,by omega⟩
  refine (impl_Sorted.l6_succ ..).trans ((bif_t (dec_t (by omega))).trans ?_)
  have e:IntKind.wrap .i64 (((j+1:Nat):Int)-1)=(j:Int):=by rw[wrap_i64 (by omega) (by omega)];omega
  rw[e]
  refine (chk_t (in_t (by omega))).trans ?_
  rw[Int.toNat_natCast]
  unfold posF
  cases h:decide (v.getD j 0>c) with
  |true=>exact (bif_t rfl).trans (ih n (by omega) (by omega))
  |false=>rfl
theorem impl_Sorted.eq {k:Nat} (hk:BIG<=k) {l:List Int} (hl:l.length<1048577):impl_Sorted.f k l=some (sortedI l):=by
 have h:=scan (B:=List Int) l (fun m b i=>impl_Sorted.l3 k l (l.length:Int) (fun x2=>some x2) m i b) (fun _ _=>true) insI (fun x2=>some x2) (fun _ _=>none) (fun i b=>b.length=i)
  (fun m b i h hI=>by
    have hp:=posF_le l[i] b b.length
    have hb:b.length<1048577:=by omega
    refine (impl_Sorted.l3_succ ..).trans ((bif_t (dec_t (by omega))).trans ((chk_t (in_t h)).trans ?_))
    rw[Int.toNat_natCast,getD_lt _ h]
    refine (impl_Sorted.inner k l[i] b _ hb b.length k (Nat.le_refl _) (BIG_lt hk hb)).trans ?_
    have hx:(((b++[(0:Int)]).length:Nat):Int)=((b.length+1:Nat):Int):=by simp
    refine (chk_t (dec_t (by simp[room];omega))).trans ?_
    refine (chk_t (and_t (dec_t (by omega)) (dec_t (by omega)))).trans ?_
    rw[wrap_up (by omega)]
    refine (chk_t (and_t (dec_t (by omega)) (dec_t (by omega)))).trans ?_
    refine (chk_t (and_t (dec_t (by omega)) (dec_t (by omega)))).trans ?_
    refine (chk_t (and_t (dec_t (by omega)) (dec_t (by omega)))).trans ?_
    have hex:=fun c=>ins_expr (v:=b) (j:=posF l[i] b b.length) 0 c hp (b++[(0:Int)]).length rfl
    rw[Int.toNat_natCast,Int.toNat_natCast,Int.toNat_natCast]
    refine (chk_t (and_t (dec_t (by omega)) (dec_t ?_))).trans ?_
    ·have:=congrArg List.length (hex 0)
     rw[List.length_set] at this
     rw[this];simp;omega
    ·rw[hex,wrap_up (by omega)]
     rfl)
  (fun b i h hI _=>by rw[insI_len];omega)
  (fun m b hI=>(impl_Sorted.l3_succ ..).trans (bif_f (dec_f (by omega))))
  l.length 0 k [] (by omega) (BIG_lt hk hl) rfl
 refine h.trans ?_
 rw[List.drop_zero,run_fold]
 rfl
end Go.Proofs.YtbmmhdmljajcfaaGreatDoor
