/- Steps of the plain functions that a program printed. Conditions: none. -/
import Derived.Test.YtbmmhdmljajcfaaGreatDoorVLaw
import Derived.WalkKit
set_option linter.unusedVariables false
set_option linter.unusedSimpArgs false
namespace Go.Proofs.YtbmmhdmljajcfaaGreatDoor.V
open Go
abbrev BIG:Nat:=1073741824
theorem chk_t {R:Type} {c:Bool} {x:Option R} (h:c=true):chk c x=x:=by subst h;rfl
theorem bif_t {R:Type} {c:Bool} {x y:R} (h:c=true):(bif c then x else y)=x:=by subst h;rfl
theorem bif_f {R:Type} {c:Bool} {x y:R} (h:c=false):(bif c then x else y)=y:=by subst h;rfl
theorem bind_s {A B:Type} {x:Option A} {a:A} {F:A->Option B} (h:x=some a):x.bind F=F a:=by subst h;rfl
theorem and_t {a b:Bool} (h:a=true) (h':b=true):(a&&b)=true:=by subst h;subst h';rfl
theorem dec_t {p:Prop} [d:Decidable p] (h:p):decide p=true:=decide_eq_true h
theorem dec_f {p:Prop} [d:Decidable p] (h: ¬p):decide p=false:=decide_eq_false h
theorem wrap_i64 {n:Int} (h1: -9223372036854775808<=n) (h2:n<=9223372036854775807):IntKind.wrap .i64 n=n:=Go.IntWalk.i64_in n ⟨h1,h2⟩
theorem wrap_up {i:Nat} (h:i<4611686018427387904):IntKind.wrap .i64 ((i:Int)+1)=((i+1:Nat):Int):=by
 rw[wrap_i64 (by omega) (by omega)];omega
theorem in_t {i n:Nat} (h:i<n):(decide ((0:Int)<=(i:Int))&&decide ((i:Int)<(n:Int)))=true:=and_t (dec_t (by omega)) (dec_t (by omega))
theorem getD_lt {α:Type} {l:List α} {i:Nat} (d:α) (h:i<l.length):l.getD i d=l[i]:=by simp[List.getD_eq_getElem?_getD,h]
theorem drop_cons {α:Type} {l:List α} {i:Nat} (h:i<l.length):l.drop i=l[i]::l.drop (i+1):=by rw[List.drop_eq_getElem_cons h]
theorem copy_step {α:Type} {l:List α} {i m:Nat} {d:α} (h:i<l.length):(l.take i++List.replicate (m+1) d).set i l[i] =l.take (i+1)++List.replicate m d:=by
 have e:l.take (i+1)=l.take i++[l[i]]:=List.take_succ_eq_append_getElem h
 rw[e,List.set_append]
 simp only[List.length_take,show min i l.length=i by omega,Nat.lt_irrefl,if_false,Nat.sub_self,List.replicate_succ,List.set_cons_zero,List.append_assoc,List.singleton_append]
def run {A B R:Type} (p:B->A->Bool) (g:B->A->B) (e:B->Option R) (z:B->A->Option R):List A->B->Option R
 | [],b=>e b
 |a::l,b=>bif p b a then run p g e z l (g b a) else z b a
theorem scan {A B R:Type} (v:List A) (L:Nat->B->Int->Option R) (p:B->A->Bool) (g:B->A->B) (e:B->Option R) (z:B->A->Option R) (I:Nat->B->Prop)
 (step: ∀n b i (h:i<v.length),I i b->L (n+1) b (i:Int)=bif p b v[i] then L n (g b v[i]) ((i+1:Nat):Int) else z b v[i])
 (keep: ∀b i (h:i<v.length),I i b->p b v[i] =true->I (i+1) (g b v[i]))
 (stop: ∀n b,I v.length b->L (n+1) b (v.length:Int)=e b): ∀(m i n:Nat) (b:B),i+m=v.length->m<n->I i b->L n b (i:Int)=run p g e z (v.drop i) b:=by
 intro m
 induction m with
 |zero=>
  intro i n b hi hn hI
  obtain ⟨n,rfl⟩: ∃n',n=n' +1:=⟨n-1,by omega⟩
  obtain rfl:i=v.length:=by omega
  rw[stop n b hI,List.drop_length]
  rfl
 |succ m ih=>
  intro i n b hi hn hI
  obtain ⟨n,rfl⟩: ∃n',n=n' +1:=⟨n-1,by omega⟩
  have hil:i<v.length:=by omega
  rw[step n b i hil hI,drop_cons hil]
  show _=bif p b v[i] then _ else _
  cases hp:p b v[i] with
  |false=>rfl
  |true=>exact ih (i+1) n _ (by omega) (by omega) (keep b i hil hI hp)
theorem run_all {A B R:Type} (p:A->Bool) (g:B->A->B) (e:B->Option R) (z:Option R): ∀(l:List A) (b:B),run (fun _ a=>p a) g e (fun _ _=>z) l b=bif l.all p then e (l.foldl g b) else z
 | [],b=>rfl
 |a::l,b=>by
  show (bif p a then run (fun _ a=>p a) g e (fun _ _=>z) l (g b a) else z)=_
  rw[run_all p g e z l (g b a),List.all_cons,List.foldl_cons]
  cases p a<;>rfl
theorem run_fold {A B R:Type} (g:B->A->B) (e:B->Option R) (z:B->A->Option R): ∀(l:List A) (b:B),run (fun _ _=>true) g e z l b=e (l.foldl g b)
 | [],b=>rfl
 |a::l,b=>run_fold g e z l (g b a)
theorem foldl_add: ∀(l:List Int) (b:Int),l.foldl (fun b a=>b+a) b=b+l.sum
 | [],b=>by simp
 |a::l,b=>by rw[List.foldl_cons,foldl_add l (b+a),List.sum_cons];omega
def inR (a lo hi:Int):Bool:=decide (lo<=a)&&decide (a<=hi)
theorem inR_iff {a lo hi:Int}:inR a lo hi=true↔lo<=a/\a<=hi:=by simp[inR]
theorem BIG_lt {k n:Nat} (hk:BIG<=k) (hn:n<1048577):n<k:=by simp[BIG] at hk;omega
theorem BIG_lt' {k n:Nat} (hk:BIG<=k) (hn:n<1073741824):n<k:=by simp[BIG] at hk;omega
theorem rm8 {n:Nat} (h:n<=17592186044416):decide (n*8<=room)=true:=dec_t (by unfold room;omega)
theorem rm24 {n:Nat} (h:n<=5864062014805):decide (n*24<=room)=true:=dec_t (by unfold room;omega)
theorem foldl_app {α:Type}: ∀(l:List (List α)) (b:List α),l.foldl (fun b a=>b++a) b=b++l.flatten
 | [],b=>by simp
 |a::l,b=>by rw[List.foldl_cons,foldl_app l (b++a),List.flatten_cons,List.append_assoc]
theorem foldl_snoc {α β:Type} (f:α->β): ∀(l:List α) (b:List β),l.foldl (fun b a=>b++[f a]) b=b++l.map f
 | [],b=>by simp
 |a::l,b=>by rw[List.foldl_cons,foldl_snoc f l (b++[f a]),List.map_cons,List.append_assoc];rfl
theorem foldl_filter {α:Type} (p:α->Bool): ∀(l:List α) (b:List α),l.foldl (fun b a=>bif p a then b++[a] else b) b=b++l.filter p
 | [],b=>by simp
 |a::l,b=>by
  rw[List.foldl_cons,foldl_filter p l,List.filter_cons]
  cases p a<;>simp
def upN {B:Type} (g:Nat->B->B):Nat->Nat->B->B
 |0,_,b=>b
 |m+1,i,b=>upN g m (i+1) (g i b)
theorem upto {B R:Type} (N:Nat) (L:Nat->B->Int->Option R) (g:Nat->B->B) (e:B->Option R) (I:Nat->B->Prop)
 (step: ∀n b i,i<N->I i b->L (n+1) b (i:Int)=L n (g i b) ((i+1:Nat):Int))
 (keep: ∀b i,i<N->I i b->I (i+1) (g i b))
 (stop: ∀n b,I N b->L (n+1) b (N:Int)=e b): ∀(m i n:Nat) (b:B),i+m=N->m<n->I i b->L n b (i:Int)=e (upN g m i b):=by
 intro m
 induction m with
 |zero=>
  intro i n b hi hn hI
  obtain ⟨n,rfl⟩: ∃n',n=n' +1:=⟨n-1,by omega⟩
  obtain rfl:i=N:=by omega
  exact stop n b hI
 |succ m ih=>
  intro i n b hi hn hI
  obtain ⟨n,rfl⟩: ∃n',n=n' +1:=⟨n-1,by omega⟩
  rw[step n b i (by omega) hI]
  exact ih (i+1) n _ (by omega) (by omega) (keep b i (by omega) hI)
def mkI (w:List Int) (m m':Int):Prop:=w.length<1048577/\m' =m+(w.length:Int)/\ ∀j,j<w.length->w[j]? =some (m+(j:Int))
def mkIIs:List (List Int)->Int->Int->Prop
 | [],m,m'=>m' =m
 |x::l,m,m'=> ∃q,mkI x m q/\mkIIs l q m'
def mkII (w:List (List Int)) (m m':Int):Prop:=w.length<1048577/\m<=m' /\m' <=m+8796093022208/\mkIIs w m m'
theorem mkI_le {w:List Int} {m m':Int} (h:mkI w m m'):m<=m' /\m' <=m+1048576:=by obtain ⟨h1,h2,_⟩:=h;omega
theorem mkII_le {w:List (List Int)} {m m':Int} (h:mkII w m m'):m<=m' /\m' <=m+8796093022208:=⟨h.2.1,h.2.2.1⟩
theorem set_getD {α:Type} {l:List α} {i:Nat} (r d:α) (h:i<l.length):(l.set i r).getD i d=r:=by simp[List.getD_eq_getElem?_getD,h]
theorem blt_t {a b:Nat} (h:a<b):Nat.blt a b=true:=by rw[Nat.blt_eq];exact h
theorem drop_of_take {α:Type} {x y:List α} {i:Nat} {w:α} (hl:y.length=x.length) (hi:i<x.length) (h:y.take (i+1)=(x.set i w).take (i+1)):y.take i=x.take i/\y.drop i=w::y.drop (i+1):=by
 have hy:i<y.length:=by omega
 have e1:y.take i=x.take i:=by
  have:=congrArg (List.take i) h
  rw[List.take_take,List.take_take] at this
  simpa[List.take_set_of_le] using this
 refine ⟨e1,?_⟩
 rw[List.drop_eq_getElem_cons hy]
 congr 1
 have:=congrArg (fun l=>l[i]?) h
 simp[List.getElem?_take,hi,hy] at this
 exact this
end Go.Proofs.YtbmmhdmljajcfaaGreatDoor.V
