/- Steps of the plain functions that a program printed. Conditions: none. -/
import Derived.Test.YtbmmhdmljajcfaaGreatDoorTg
import Derived.Test.YtbmmhdmljajcfaaGreatDoorVLaw
set_option linter.unusedVariables false
set_option linter.unusedSimpArgs false
namespace Go.Proofs.YtbmmhdmljajcfaaGreatDoor.V
open Go
abbrev cy:Nat:=1073741824
theorem bW {R:Type} {c:Bool} {x:Option R} (h:c=true):bY c x=x:=by subst h;rfl
theorem jV {R:Type} {c:Bool} {x y:R} (h:c=true):(bif c then x else y)=x:=by subst h;rfl
theorem br {R:Type} {c:Bool} {x y:R} (h:c=false):(bif c then x else y)=y:=by subst h;rfl
theorem bN {A B:Type} {x:Option A} {a:A} {F:A->Option B} (h:x=some a):x.bind F=F a:=by subst h;rfl
theorem cT {R:Type} {c:Bool} {x z:Option R} (h:c=true) (e:x=z):bY c x=z:=(bW h).trans e
theorem bT {R:Type} {c:Bool} {x y z:R} (h:c=true) (e:x=z):(bif c then x else y)=z:=(jV h).trans e
theorem bF {R:Type} {c:Bool} {x y z:R} (h:c=false) (e:y=z):(bif c then x else y)=z:=(br h).trans e
theorem bS {A B:Type} {x:Option A} {a:A} {F:A->Option B} {z:Option B} (h:x=some a) (e:F a=z):x.bind F=z:=(bN h).trans e
theorem bg {p:Prop} {q:Prop} (h: ¬p:=by decide):p->q:=fun x=>absurd x h
theorem bA {a b:Bool} (h:a=true) (h':b=true):(a&&b)=true:=by subst h;subst h';rfl
theorem ae {p:Prop} [d:Decidable p] (h:p:=by omega):decide p=true:=decide_eq_true h
theorem aC {p:Prop} [d:Decidable p] (h: ¬p:=by omega):decide p=false:=decide_eq_false h
theorem wrap_i64 {n:Int} (h1: -9223372036854775808<=n:=by omega) (h2:n<=9223372036854775807:=by omega):aF n=n:=Go.IntWalk.i64_in n ⟨h1,h2⟩
theorem aK {i:Nat} (h:i<4611686018427387904:=by omega):aF ((i:Int)+1)=((i+1:Nat):Int):=by
 rw[wrap_i64];omega
theorem cg {i n:Nat} (h:i<n):(decide ((0:Int)<=(i:Int))&&decide ((i:Int)<(n:Int)))=true:=bA ae ae
theorem aN {α:Type} {l:List α} {i:Nat} (d:α) (h:i<l.length):l.getD i d=l[i]:=by simp[aL,h]
theorem nX {l:LI} {i:Nat} (d:Int) (h:i<l.length):l.getD i d∈l:=by rw[aN _ h];exact aj h
theorem drop_cons {α:Type} {l:List α} {i:Nat} (h:i<l.length):l.drop i=l[i]::l.drop (i+1):=by rw[List.drop_eq_getElem_cons h]
theorem P1 {α:Type} {l:List α} {i m:Nat} {d:α} (h:i<l.length):(l.take i++List.replicate (m+1) d).set i l[i] =l.take (i+1)++List.replicate m d:=by
 have e:l.take (i+1)=l.take i++[l[i]]:=be h
 rw[e,List.set_append]
 simp only[aP,show min i l.length=i by omega,Nat.lt_irrefl,if_false,Nat.sub_self,List.replicate_succ,List.set_cons_zero,bp,List.singleton_append]
theorem R3 {α:Type} {l:List α} {i m:Nat} {d:α} (h:i+m=l.length):(l.take i++List.replicate m d).length=l.length:=by simp;omega
def run {A B R:Type} (p:B->A->Bool) (g:B->A->B) (e:B->Option R) (z:B->A->Option R):List A->B->Option R
 | [],b=>e b
 |a::l,b=>bif p b a then run p g e z l (g b a) else z b a
theorem scan {A B R:Type} (v:List A) (L:Nat->B->Int->Option R) (p:B->A->Bool) (g:B->A->B) (e:B->Option R) (z:B->A->Option R) (I:Nat->B->Prop)
 (step: ∀n b i (h:i<v.length),I i b->L (n+1) b (i:Int)=bif p b v[i] then L n (g b v[i]) ((i+1:Nat):Int) else z b v[i])
 (keep: ∀b i (h:i<v.length),I i b->p b v[i] =true->I (i+1) (g b v[i]))
 (stop: ∀n b,I v.length b->L (n+1) b (v.length:Int)=e b): ∀(m i n:Nat) (b:B),i+m=v.length->m<n->I i b->L n b (i:Int)=run p g e z (v.drop i) b:=by
 intro m
 induction m with
 |zero=>
  intro i n b hi hn hI
  obtain ⟨n,rfl⟩: ∃n',n=n' +1:=⟨n-1,by omega⟩
  obtain rfl:i=v.length:=by omega
  rw[stop n b hI,List.drop_length]
  rfl
 |succ m ih=>
  intro i n b hi hn hI
  obtain ⟨n,rfl⟩: ∃n',n=n' +1:=⟨n-1,by omega⟩
  have tu:i<v.length:=by omega
  rw[step n b i tu hI,drop_cons tu]
  show _=bif p b v[i] then _ else _
  cases hp:p b v[i] with
  |false=>rfl
  |true=>exact ih (i+1) n _ (by omega) (by omega) (keep b i tu hI hp)
theorem tv {A B R:Type} (p:A->Bool) (g:B->A->B) (e:B->Option R) (z:Option R): ∀(l:List A) (b:B),run (fun _ a=>p a) g e (fun _ _=>z) l b=bif l.all p then e (l.foldl g b) else z
 | [],b=>rfl
 |a::l,b=>by
  show (bif p a then run (fun _ a=>p a) g e (fun _ _=>z) l (g b a) else z)=_
  rw[tv p g e z l (g b a),List.all_cons,aY]
  cases p a<;>rfl
theorem bX {A B R:Type} (g:B->A->B) (e:B->Option R) (z:B->A->Option R): ∀(l:List A) (b:B),run (fun _ _=>true) g e z l b=e (l.foldl g b)
 | [],b=>rfl
 |a::l,b=>bX g e z l (g b a)
theorem foldl_add: ∀(l:LI) (b:Int),l.foldl (fun b a=>b+a) b=b+l.sum
 | [],b=>by simp
 |a::l,b=>by rw[aY,foldl_add l (b+a),List.sum_cons];omega
def mJ (a lo hi:Int):Bool:=decide (lo<=a)&&decide (a<=hi)
theorem ja {a lo hi:Int}:mJ a lo hi=true↔lo<=a/\a<=hi:=by simp[mJ]
theorem cd {k n:Nat} (hk:cy<=k) (hn:n<1048577):n<k:=by simp[cy] at hk;omega
theorem qx {n:Int} (h: -9223372036854775808<=n/\n<=9223372036854775807):tf .i64 n:=by
 show (Lit.int .i64 n).wf=true
 simp[Lit.wf,IntKind.min,IntKind.max,IntKind.signed,IntKind.bits]
 omega
theorem pV {k n:Nat} (hk:cy<=k) (hn:n<1073741824):n<k:=by simp[cy] at hk;omega
theorem nY {n:Nat} (h:n<=17592186044416:=by omega):decide (n*8<=room)=true:=ae (by unfold room;omega)
theorem D6 {n:Nat} (h:n<=5864062014805:=by omega):decide (n*24<=room)=true:=ae (by unfold room;omega)
theorem uC {α:Type}: ∀(l:List (List α)) (b:List α),l.foldl (fun b a=>b++a) b=b++l.flatten
 | [],b=>by simp
 |a::l,b=>by rw[aY,uC l (b++a),List.flatten_cons,bp]
theorem nZ {α β:Type} (f:α->β): ∀(l:List α) (b:List β),l.foldl (fun b a=>b++[f a]) b=b++l.map f
 | [],b=>by simp
 |a::l,b=>by rw[aY,nZ f l (b++[f a]),bM,bp];rfl
theorem foldl_filter {α:Type} (p:α->Bool): ∀(l:List α) (b:List α),l.foldl (fun b a=>bif p a then b++[a] else b) b=b++l.filter p
 | [],b=>by simp
 |a::l,b=>by
  rw[aY,foldl_filter p l,List.filter_cons]
  cases p a<;>simp
def M4 {B:Type} (g:Nat->B->B):Nat->Nat->B->B
 |0,_,b=>b
 |m+1,i,b=>M4 g m (i+1) (g i b)
theorem upto {B R:Type} (N:Nat) (L:Nat->B->Int->Option R) (g:Nat->B->B) (e:B->Option R) (I:Nat->B->Prop)
 (step: ∀n b i,i<N->I i b->L (n+1) b (i:Int)=L n (g i b) ((i+1:Nat):Int))
 (keep: ∀b i,i<N->I i b->I (i+1) (g i b))
 (stop: ∀n b,I N b->L (n+1) b (N:Int)=e b): ∀(m i n:Nat) (b:B),i+m=N->m<n->I i b->L n b (i:Int)=e (M4 g m i b):=by
 intro m
 induction m with
 |zero=>
  intro i n b hi hn hI
  obtain ⟨n,rfl⟩: ∃n',n=n' +1:=⟨n-1,by omega⟩
  obtain rfl:i=N:=by omega
  exact stop n b hI
 |succ m ih=>
  intro i n b hi hn hI
  obtain ⟨n,rfl⟩: ∃n',n=n' +1:=⟨n-1,by omega⟩
  rw[step n b i (by omega) hI]
  exact ih (i+1) n _ (by omega) (by omega) (keep b i (by omega) hI)
def mkI (w:LI) (m m':Int):Prop:=w.length<1048577/\m' =m+(w.length:Int)/\ ∀j,j<w.length->w[j]? =some (m+(j:Int))
def abO:LL->Int->Int->Prop
 | [],m,m'=>m' =m
 |x::l,m,m'=> ∃q,mkI x m q/\abO l q m'
def abz (w:LL) (m m':Int):Prop:=w.length<1048577/\m<=m' /\m' <=m+8796093022208/\abO w m m'
theorem iL {w:LI} {m m':Int} (h:mkI w m m'):m<=m' /\m' <=m+1048576:=by obtain ⟨h1,h2,_⟩:=h;omega
theorem aam {w:LL} {m m':Int} (h:abz w m m'):m<=m' /\m' <=m+8796093022208:=⟨h.2.1,h.2.2.1⟩
theorem EH {α:Type} {l:List α} {i:Nat} (r d:α) (h:i<l.length):(l.set i r).getD i d=r:=by simp[aL,h]
theorem adW {a b:Nat} (h:a<b):Nat.blt a b=true:=by rw[Nat.blt_eq];exact h
theorem abA {α:Type} {x y:List α} {i:Nat} {w:α} (hl:y.length=x.length) (hi:i<x.length) (h:y.take (i+1)=(x.set i w).take (i+1)):y.take i=x.take i/\y.drop i=w::y.drop (i+1):=by
 have hy:i<y.length:=by omega
 have e1:y.take i=x.take i:=by
  have:=congrArg (List.take i) h
  rw[List.take_take,List.take_take] at this
  simpa[List.take_set_of_le] using this
 refine ⟨e1,?_⟩
 rw[List.drop_eq_getElem_cons hy]
 congr 1
 have:=congrArg (fun l=>l[i]?) h
 simp[List.getElem?_take,hi,hy] at this
 exact this
