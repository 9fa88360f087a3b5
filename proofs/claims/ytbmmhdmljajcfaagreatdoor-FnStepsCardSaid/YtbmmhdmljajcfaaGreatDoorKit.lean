/- Steps of the plain functions that a program printed. Conditions: none. -/
import Derived.Test.YtbmmhdmljajcfaaGreatDoorVLaw
import Derived.WalkKit
set_option linter.unusedVariables false
set_option linter.unusedSimpArgs false
namespace Go.Proofs.YtbmmhdmljajcfaaGreatDoor.V
open Go
abbrev cO:Nat:=1073741824
theorem ab {R:Type} {c:Bool} {x:Option R} (h:c=true):aC c x=x:=by subst h;rfl
theorem ak {R:Type} {c:Bool} {x y:R} (h:c=true):(bif c then x else y)=x:=by subst h;rfl
theorem af {R:Type} {c:Bool} {x y:R} (h:c=false):(bif c then x else y)=y:=by subst h;rfl
theorem aa {A B:Type} {x:Option A} {a:A} {F:A->Option B} (h:x=some a):x.bind F=F a:=by subst h;rfl
theorem ch {a b:Bool} (h:a=true) (h':b=true):(a&&b)=true:=by subst h;subst h';rfl
theorem ae {p:Prop} [d:Decidable p] (h:p):decide p=true:=decide_eq_true h
theorem aM {p:Prop} [d:Decidable p] (h: ¬p):decide p=false:=decide_eq_false h
theorem wrap_i64 {n:Int} (h1: -9223372036854775808<=n) (h2:n<=9223372036854775807):IntKind.wrap .i64 n=n:=Go.IntWalk.i64_in n ⟨h1,h2⟩
theorem aR {i:Nat} (h:i<4611686018427387904):IntKind.wrap .i64 ((i:Int)+1)=((i+1:Nat):Int):=by
 rw[wrap_i64 (by omega) (by omega)];omega
theorem cy {i n:Nat} (h:i<n):(decide ((0:Int)<=(i:Int))&&decide ((i:Int)<(n:Int)))=true:=ch (ae (by omega)) (ae (by omega))
theorem aP {α:Type} {l:List α} {i:Nat} (d:α) (h:i<l.length):l.getD i d=l[i]:=by simp[List.getD_eq_getElem?_getD,h]
theorem Kv {l:List Int} {i:Nat} (d:Int) (h:i<l.length):l.getD i d∈l:=by rw[aP _ h];exact List.getElem_mem h
theorem drop_cons {α:Type} {l:List α} {i:Nat} (h:i<l.length):l.drop i=l[i]::l.drop (i+1):=by rw[List.drop_eq_getElem_cons h]
theorem I5 {α:Type} {l:List α} {i m:Nat} {d:α} (h:i<l.length):(l.take i++List.replicate (m+1) d).set i l[i] =l.take (i+1)++List.replicate m d:=by
 have e:l.take (i+1)=l.take i++[l[i]]:=List.take_succ_eq_append_getElem h
 rw[e,List.set_append]
 simp only[List.length_take,show min i l.length=i by omega,Nat.lt_irrefl,if_false,Nat.sub_self,List.replicate_succ,List.set_cons_zero,List.append_assoc,List.singleton_append]
theorem Kw {α:Type} {l:List α} {i m:Nat} {d:α} (h:i+m=l.length):(l.take i++List.replicate m d).length=l.length:=by simp;omega
def run {A B R:Type} (p:B->A->Bool) (g:B->A->B) (e:B->Option R) (z:B->A->Option R):List A->B->Option R
 | [],b=>e b
 |a::l,b=>bif p b a then run p g e z l (g b a) else z b a
theorem scan {A B R:Type} (v:List A) (L:Nat->B->Int->Option R) (p:B->A->Bool) (g:B->A->B) (e:B->Option R) (z:B->A->Option R) (I:Nat->B->Prop)
 (step: ∀n b i (h:i<v.length),I i b->L (n+1) b (i:Int)=bif p b v[i] then L n (g b v[i]) ((i+1:Nat):Int) else z b v[i])
 (keep: ∀b i (h:i<v.length),I i b->p b v[i] =true->I (i+1) (g b v[i]))
 (stop: ∀n b,I v.length b->L (n+1) b (v.length:Int)=e b): ∀(m i n:Nat) (b:B),i+m=v.length->m<n->I i b->L n b (i:Int)=run p g e z (v.drop i) b:=by
 intro m
 induction m with
 |zero=>
  intro i n b hi hn hI
  obtain ⟨n,rfl⟩: ∃n',n=n' +1:=⟨n-1,by omega⟩
  obtain rfl:i=v.length:=by omega
  rw[stop n b hI,List.drop_length]
  rfl
 |succ m ih=>
  intro i n b hi hn hI
  obtain ⟨n,rfl⟩: ∃n',n=n' +1:=⟨n-1,by omega⟩
  have Q8:i<v.length:=by omega
  rw[step n b i Q8 hI,drop_cons Q8]
  show _=bif p b v[i] then _ else _
  cases hp:p b v[i] with
  |false=>rfl
  |true=>exact ih (i+1) n _ (by omega) (by omega) (keep b i Q8 hI hp)
theorem qB {A B R:Type} (p:A->Bool) (g:B->A->B) (e:B->Option R) (z:Option R): ∀(l:List A) (b:B),run (fun _ a=>p a) g e (fun _ _=>z) l b=bif l.all p then e (l.foldl g b) else z
 | [],b=>rfl
 |a::l,b=>by
  show (bif p a then run (fun _ a=>p a) g e (fun _ _=>z) l (g b a) else z)=_
  rw[qB p g e z l (g b a),List.all_cons,List.foldl_cons]
  cases p a<;>rfl
theorem dC {A B R:Type} (g:B->A->B) (e:B->Option R) (z:B->A->Option R): ∀(l:List A) (b:B),run (fun _ _=>true) g e z l b=e (l.foldl g b)
 | [],b=>rfl
 |a::l,b=>dC g e z l (g b a)
theorem foldl_add: ∀(l:List Int) (b:Int),l.foldl (fun b a=>b+a) b=b+l.sum
 | [],b=>by simp
 |a::l,b=>by rw[List.foldl_cons,foldl_add l (b+a),List.sum_cons];omega
def jJ (a lo hi:Int):Bool:=decide (lo<=a)&&decide (a<=hi)
theorem eD {a lo hi:Int}:jJ a lo hi=true↔lo<=a/\a<=hi:=by simp[jJ]
theorem cU {k n:Nat} (hk:cO<=k) (hn:n<1048577):n<k:=by simp[cO] at hk;omega
theorem mh {k n:Nat} (hk:cO<=k) (hn:n<1073741824):n<k:=by simp[cO] at hk;omega
theorem lN {n:Nat} (h:n<=17592186044416):decide (n*8<=room)=true:=ae (by unfold room;omega)
theorem GV {n:Nat} (h:n<=5864062014805):decide (n*24<=room)=true:=ae (by unfold room;omega)
theorem wA {α:Type}: ∀(l:List (List α)) (b:List α),l.foldl (fun b a=>b++a) b=b++l.flatten
 | [],b=>by simp
 |a::l,b=>by rw[List.foldl_cons,wA l (b++a),List.flatten_cons,List.append_assoc]
theorem mN {α β:Type} (f:α->β): ∀(l:List α) (b:List β),l.foldl (fun b a=>b++[f a]) b=b++l.map f
 | [],b=>by simp
 |a::l,b=>by rw[List.foldl_cons,mN f l (b++[f a]),List.map_cons,List.append_assoc];rfl
theorem foldl_filter {α:Type} (p:α->Bool): ∀(l:List α) (b:List α),l.foldl (fun b a=>bif p a then b++[a] else b) b=b++l.filter p
 | [],b=>by simp
 |a::l,b=>by
  rw[List.foldl_cons,foldl_filter p l,List.filter_cons]
  cases p a<;>simp
def OC {B:Type} (g:Nat->B->B):Nat->Nat->B->B
 |0,_,b=>b
 |m+1,i,b=>OC g m (i+1) (g i b)
theorem upto {B R:Type} (N:Nat) (L:Nat->B->Int->Option R) (g:Nat->B->B) (e:B->Option R) (I:Nat->B->Prop)
 (step: ∀n b i,i<N->I i b->L (n+1) b (i:Int)=L n (g i b) ((i+1:Nat):Int))
 (keep: ∀b i,i<N->I i b->I (i+1) (g i b))
 (stop: ∀n b,I N b->L (n+1) b (N:Int)=e b): ∀(m i n:Nat) (b:B),i+m=N->m<n->I i b->L n b (i:Int)=e (OC g m i b):=by
 intro m
 induction m with
 |zero=>
  intro i n b hi hn hI
  obtain ⟨n,rfl⟩: ∃n',n=n' +1:=⟨n-1,by omega⟩
  obtain rfl:i=N:=by omega
  exact stop n b hI
 |succ m ih=>
  intro i n b hi hn hI
  obtain ⟨n,rfl⟩: ∃n',n=n' +1:=⟨n-1,by omega⟩
  rw[step n b i (by omega) hI]
  exact ih (i+1) n _ (by omega) (by omega) (keep b i (by omega) hI)
theorem Kx {α:Type} {l:List α} {i:Nat} (r d:α) (h:i<l.length):(l.set i r).getD i d=r:=by simp[List.getD_eq_getElem?_getD,h]
end Go.Proofs.YtbmmhdmljajcfaaGreatDoor.V
