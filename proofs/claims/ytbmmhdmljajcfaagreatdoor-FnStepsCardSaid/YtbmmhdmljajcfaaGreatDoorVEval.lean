/- The abstract evaluator and its soundness: part VEval. Conditions: as each section says. -/
import Derived.Below
import Derived.OwnWalk
import Derived.KernelRfl
import Derived.Orders
set_option linter.unusedVariables false
set_option linter.unusedSimpArgs false
namespace Go.Proofs.YtbmmhdmljajcfaaGreatDoor.V
open Go
inductive TK where
 |int (k:IntKind)|bool|str|slice (e:Nat)|struct (fs:List (Nat×Nat))|array (n e:Nat)|ptr (e:Nat)|err|other
structure TE where
 k:TK
 size:Nat
 bytes:Nat
def look {α:Type}:List (Nat×α)->Nat->Option α
 | [],_=>none
 | (j,x)::l,i=>bif j==i then some x else look l i
abbrev TT:=Nat->Option TE
abbrev LI:=List Int
abbrev LL:=List (List Int)
abbrev t2 {A B C:Type} (r:A×B×C):C:=r.2.2
abbrev t3 {A B C D:Type} (r:A×B×C×D):D:=r.2.2.2
abbrev t4 {A B C D E:Type} (r:A×B×C×D×E):E:=r.2.2.2.2
abbrev t5 {A B C D E F:Type} (r:A×B×C×D×E×F):F:=r.2.2.2.2.2
abbrev t6 {A B C D E F G:Type} (r:A×B×C×D×E×F×G):G:=r.2.2.2.2.2.2
abbrev t7 {A B C D E F G H:Type} (r:A×B×C×D×E×F×G×H):H:=r.2.2.2.2.2.2.2
abbrev t8 {A B C D E F G H I:Type} (r:A×B×C×D×E×F×G×H×I):I:=r.2.2.2.2.2.2.2.2
abbrev t9 {A B C D E F G H I J:Type} (r:A×B×C×D×E×F×G×H×I×J):J:=r.2.2.2.2.2.2.2.2.2
inductive jC where
 |int (n:Int)|ints (l:List Int)
def gi (r:List jC) (f:Nat):Int:=match r[f]? with|some (.int n)=>n|_=>0
def gl (r:List jC) (f:Nat):List Int:=match r[f]? with|some (.ints l)=>l|_=>[]
inductive Row where
 |ints (k:IntKind) (l:List Int)
 |cx (l:List Bool)
 |strs (l:List ByteArray)
 |rows (own:Bool) (l:List (List Int))
 |cB (sg:List Bool) (own:Bool) (l:List (List jC))
def Row.len:Row->Nat
 | .ints _ l=>l.length
 | .cx l=>l.length
 | .strs l=>l.length
 | .rows _ l=>l.length
 | .cB _ _ l=>l.length
def Row.size:Row->Nat
 | .cB sg _ _=>sg.length
 |_=>1
inductive Cell where
 |sc (v:Value)|sl (own:Bool) (l:List Int)|free
def bn (own:Bool) (r:List jC):Nat->List Bool->List Cell
 |_,[]=>[]
 |f,true::sg=> .sl own (gl r f)::bn own r (f+1) sg
 |f,false::sg=> .sc (.int .i64 (gi r f))::bn own r (f+1) sg
def Row.cells:Row->List Cell
 | .ints k l=>l.map fun n=> .sc (.int k n)
 | .cx l=>l.map fun x=> .sc (.bool x)
 | .strs l=>l.map fun x=> .sc (.string x)
 | .rows own l=>l.map fun x=> .sl own x
 | .cB sg own l=>l.flatMap fun r=>bn own r 0 sg
def Row.eb:Row->Row
 | .rows _ l=> .rows false l
 | .cB sg _ l=> .cB sg false l
 |r=>r
def Row.take (n:Nat):Row->Row
 | .ints k l=> .ints k (l.take n)
 | .cx l=> .cx (l.take n)
 | .strs l=> .strs (l.take n)
 | .rows own l=> .rows own (l.take n)
 | .cB sg own l=> .cB sg own (l.take n)
def Row.drop (n:Nat):Row->Row
 | .ints k l=> .ints k (l.drop n)
 | .cx l=> .cx (l.drop n)
 | .strs l=> .strs (l.drop n)
 | .rows own l=> .rows own (l.drop n)
 | .cB sg own l=> .cB sg own (l.drop n)
def Row.n8:Row->Bool
 | .cB _ _ _=>true
 |_=>false
def Row.deep:Row->Bool
 | .rows _ _=>true
 | .cB _ _ _=>true
 |_=>false
def Row.owned:Row->Bool
 | .rows own _=>own
 | .cB _ own _=>own
 |_=>true
inductive LV where
 |any|undef
 |i (k:IntKind) (n:Int)|b (x:Bool)|s (x:ByteArray)
 |nil
 |val (p:Bool) (r:Row)
 |own (id:Nat)
 |sub (id lo hi:Nat)
 |inner (id ver i f:Nat)
 |eJ (id k:Nat)
 |arr (id n:Nat)
 |oG (id i f:Nat)
 |C2 (p:Bool) (r:Row) (i f:Nat)
 |wT (id ver i f j:Nat)
 |er (isNil:Bool)
 |fn (f:Nat)
inductive A1 where
 |l (x:LV)|agg (xs:List LV)
inductive AV where
 |one (x:A1)|DM (xs:List A1)
abbrev AV.l (x:LV):AV:= .one (.l x)
inductive aq where
 |row (e ver:Nat) (r:Row)
 |hole (e ver:Nat) (r:Row) (i f:Nat)
 |box (t:Nat) (cells:List LV)
 |dH
structure St where
 sl:Nat->AV
 hp:Nat->Option aq
 nx:Nat
inductive X where
 |normal|exit (id:Nat)|ret
inductive kd where
 |own|eb|aZ
 deriving DecidableEq
inductive DL where
 |i (k:IntKind) (n:Int)|b (x:Bool)|s (x:ByteArray)
 |sl (c:kd) (r:Row)
 |er (isNil:Bool)
inductive DV where
 |l (x:DL)|agg (xs:List DL)|ptr (xs:List DL)
inductive Mode where
 |oU|Bn|io|eb
 deriving DecidableEq
structure fR where
 v:AV
 up:List (Nat×Option aq)
 nx:Nat
 rl:List Nat
 rc:List Nat
section
variable {R:Type}
def aC (p:Bool) (x:Option R):Option R:=bif p then x else none
abbrev Pd (R:Type):=FuncId->List DV->(List DV->Option R)->Option R
def aA (tt:TT):Nat->Nat->List Nat
 |0,t=>[t]
 |d+1,t=>match tt t with
  |some ⟨.struct fs,_,_⟩=>fs.flatMap fun f=>aA tt d f.2
  |_=>[t]
def depth:Nat:=6
def wW (tt:TT) (t:Nat):Bool:=match tt t with|some ⟨.slice _,_,_⟩=>true|_=>false
def qq (tt:TT) (t:Nat):Bool:=match tt t with|some ⟨.slice _,_,_⟩=>true|some ⟨.int k,_,_⟩=>decide (k= .i64)|_=>false
def cp (tt:TT) (e:Nat):Option Row:=match tt e with
 |some ⟨.int k,_,_⟩=>some (.ints k [])
 |some ⟨.bool,_,_⟩=>some (.cx [])
 |some ⟨.str,_,_⟩=>some (.strs [])
 |some ⟨.slice _,_,_⟩=>some (.rows true [])
 |some ⟨.struct _,_,_⟩=>bif (aA tt depth e).all (qq tt) then some (.cB ((aA tt depth e).map (wW tt)) true []) else none
 |_=>none
def mf (tt:TT) (t:Nat):LV:=match tt t with
 |some ⟨.int k,_,_⟩=> .i k 0
 |some ⟨.bool,_,_⟩=> .b false
 |some ⟨.str,_,_⟩=> .s ByteArray.empty
 |some ⟨.slice _,_,_⟩=> .nil
 |some ⟨.err,_,_⟩=> .er true
 |_=> .any
def uW:Bool->jC
 |true=> .ints []
 |false=> .int 0
def e_ (n:Nat):Row->Row
 | .ints k _=> .ints k (List.replicate n 0)
 | .cx _=> .cx (List.replicate n false)
 | .strs _=> .strs (List.replicate n ByteArray.empty)
 | .rows _ _=> .rows true (List.replicate n [])
 | .cB sg _ _=> .cB sg true (List.replicate n (sg.map uW))
def Dd:Value->LV
 | .int k n=> .i k n
 | .bool x=> .b x
 | .string x=> .s x
 | .slice none 0 0=> .nil
 | .nilIface=> .er true
 |_=> .any
def St.rd (nt:Nat) (S:Nat->AV):Operand->AV
 | .tmp t=>bif Nat.blt t nt then S t else .l .any
 | .const v=> .l (Dd v)
 | .func f=> .l (.fn f)
 | .global _=> .l .any
def fG (hp:Nat->Option aq):LV->Option (Row×List Nat)
 | .val _ r=>some (r,[])
 | .own id=>match hp id with|some (.row _ _ r)=>some (r.eb,[id])|_=>none
 | .sub id lo hi=>match hp id with|some (.row _ _ r)=>some (((r.eb).take hi).drop lo,[id])|_=>none
 | .inner id ver i f=>match hp id with
   |some (.row _ v (.rows _ l))=>bif v==ver then some (.ints .i64 (l.getD i []),[id]) else none
   |some (.row _ v (.cB _ _ l))=>bif v==ver then some (.ints .i64 (gl (l.getD i []) f),[id]) else none
   |_=>none
 |_=>none
def jg (hp:Nat->Option aq) (id:Nat):Option Row:=match hp id with
 |some (.row _ _ r)=>some r
 |some (.hole _ _ r _ _)=>some r
 |_=>none
def lenOf (hp:Nat->Option aq):LV->Option (Nat×List Nat×List Nat)
 | .nil=>some (0,[],[])
 | .val _ r=>some (r.len,[],[])
 | .own id=>match jg hp id with|some r=>some (r.len,[id],[])|none=>none
 | .sub id lo hi=>match jg hp id with|some r=>some (hi-lo,[id],[])|none=>none
 | .inner id ver i f=>match hp id with
   |some (.row _ v (.rows _ l))=>bif v==ver then some ((l.getD i []).length,[],[id]) else none
   |some (.row _ v (.cB _ _ l))=>bif v==ver then some ((gl (l.getD i []) f).length,[],[id]) else none
   |_=>none
 |_=>none
def storable (hp:Nat->Option aq):LV->Bool
 | .any=>false
 | .undef=>false
 | .own id=>(jg hp id).isSome
 | .sub id _ _=>(jg hp id).isSome
 | .oG id _ _=>(jg hp id).isSome
 | .arr id _=>(jg hp id).isSome
 | .inner id ver _ _=>(match hp id with|some (.row _ v _)=>v==ver|_=>false)
 | .wT id ver _ _ _=>(match hp id with|some (.row _ v _)=>v==ver|_=>false)
 |_=>true
def k_ (hp:Nat->Option aq):AV->Option (List LV)
 | .one (.l x)=>bif storable hp x then some [x] else none
 | .one (.agg xs)=>bif xs.all (storable hp) then some xs else none
 | .DM _=>none
def sC (op:BinOp) (k:IntKind) (x y:Int):Int:=
 let a:=BitVec.ofInt k.bits x
 let b:=BitVec.ofInt k.bits y
 match op with
 | .and=>k.wrap (a &&& b).toNat
 | .or=>k.wrap (a ||| b).toNat
 | .xor=>k.wrap (a ^^^ b).toNat
 |_=>k.wrap (a &&& ~~~b).toNat
def eo:Nat:=9223372036854775807
def room:Nat:=140737488355328
def binOp (op:BinOp) (x y:LV) (K:LV->Option R):Option R:=
 match op,x,y with
 | .shl,.i k a,.i _ b=>aC (decide (0<=b)) (K (.i k (k.wrap (a*2^(min b.toNat k.bits)))))
 | .shr,.i k a,.i _ b=>aC (decide (0<=b)) (K (.i k (a.fdiv (2^(min b.toNat k.bits)))))
 |_,.i k a,.i k' b=>
  bif decide (k=k') then
   match op with
   | .add=>K (.i k (k.wrap (a+b)))
   | .sub=>K (.i k (k.wrap (a-b)))
   | .mul=>K (.i k (k.wrap (a*b)))
   | .quo=>aC (!decide (b=0)) (K (.i k (k.wrap (a.tdiv b))))
   | .rem=>aC (!decide (b=0)) (K (.i k (a.tmod b)))
   | .eql=>K (.b (a==b))
   | .neq=>K (.b (a != b))
   | .lss=>K (.b (decide (a<b)))
   | .leq=>K (.b (decide (a<=b)))
   | .gtr=>K (.b (decide (a>b)))
   | .geq=>K (.b (decide (a>=b)))
   | .and| .or| .xor| .andNot=>K (.i k (sC op k a b))
   |_=>none
  else none
 | .add,.s a,.s b=>aC (decide (a.size+b.size<=eo)) (K (.s (a++b)))
 | .eql,.s a,.s b=>K (.b (a.toList==b.toList))
 | .neq,.s a,.s b=>K (.b !(a.toList==b.toList))
 | .eql,.b a,.b b=>K (.b (a==b))
 | .neq,.b a,.b b=>K (.b !(a==b))
 | .eql,.er a,.er true=>K (.b a)
 | .neq,.er a,.er true=>K (.b !a)
 |_,_,_=>none
def unOp (op:UnOp) (x:LV) (K:LV->Option R):Option R:=
 match op,x with
 | .neg,.i k n=>K (.i k (k.wrap (0-n)))
 | .not,.b x=>K (.b !x)
 |_,_=>none
end
def n9 (hp:Nat->Option aq):LV->Option (Bool×List Int×List Nat)
 | .nil=>some (true,[],[])
 | .val _ (.ints .i64 l)=>some (false,l,[])
 | .own id=>match hp id with|some (.row _ _ (.ints .i64 l))=>some (true,l,[id])|_=>none
 | .sub id 0 hi=>match hp id with|some (.row _ _ (.ints .i64 l))=>some (true,l.take hi,[id])|_=>none
 |_=>none
def kill (hp:Nat->Option aq) (ids:List Nat):Nat->Option aq:=fun j=>bif ids.elem j then none else hp j
def fI (hp:Nat->Option aq):List Bool->List LV->Option (Bool×List jC×List Nat)
 | [],[]=>some (true,[],[])
 |false::sg,.i .i64 n::xs=>match fI hp sg xs with
  |some (o,r,ks)=>some (o,.int n::r,ks)
  |none=>none
 |true::sg,x::xs=>match n9 hp x with
  |some (o,l,ks)=>match fI (kill hp ks) sg xs with
   |some (o',r,ks')=>some (o&&o',.ints l::r,ks++ks')
   |none=>none
  |none=>none
 |_,_=>none
def rowOf (hp:Nat->Option aq):Row->List AV->Option (Row×List Nat)
 |r,[]=>some (r,[])
 | .ints k _,.one (.l (.i k' n))::xs=>bif decide (k=k') then
  match rowOf hp (.ints k []) xs with|some (.ints _ l,ks)=>some (.ints k (n::l),ks)|_=>none else none
 | .cx _,.one (.l (.b x))::xs=>match rowOf hp (.cx []) xs with|some (.cx l,ks)=>some (.cx (x::l),ks)|_=>none
 | .strs _,.one (.l (.s x))::xs=>match rowOf hp (.strs []) xs with|some (.strs l,ks)=>some (.strs (x::l),ks)|_=>none
 | .rows _ _,.one (.l x)::xs=>match n9 hp x with
   |some (o,y,ks)=>match rowOf (kill hp ks) (.rows true []) xs with
    |some (.rows o' l,ks')=>some (.rows (o&&o') (y::l),ks++ks')
    |_=>none
   |none=>none
 | .cB sg _ _,.one (.agg x)::xs=>match fI hp sg x with
   |some (o,y,ks)=>match rowOf (kill hp ks) (.cB sg true []) xs with
    |some (.cB _ o' l,ks')=>some (.cB sg (o&&o') (y::l),ks++ks')
    |_=>none
   |none=>none
 |_,_=>none
def cF (ids:List Nat):List (Nat×Option aq):=ids.map fun j=>(j,none)
def Row.y7:Row->Row->Option Row
 | .ints k l,.ints k' l'=>bif decide (k=k') then some (.ints k (l++l')) else none
 | .cx l,.cx l'=>some (.cx (l++l'))
 | .strs l,.strs l'=>some (.strs (l++l'))
 | .rows o l,.rows o' l'=>some (.rows (o&&o') (l++l'))
 | .cB sg o l,.cB Oe o' l'=>bif sg==Oe then some (.cB sg (o&&o') (l++l')) else none
 |_,_=>none
def jO (l:List LV) (k:Nat):List LV->List LV
 | []=>l
 |x::xs=>jO (l.set k x) (k+1) xs
def De (l:List LV) (k:Nat) (xs:List LV):List LV:=bif Nat.beq k 0&&Nat.beq xs.length l.length then xs else jO l k xs
def Df (id ver i:Nat):Row->(f:Nat)->Bool->AV
 | .ints k l,_,_=> .l (.i k (l.getD i 0))
 | .cx l,_,_=> .l (.b (l.getD i false))
 | .strs l,_,_=> .l (.s (l.getD i ByteArray.empty))
 | .rows _ _,_,_=> .l (.inner id ver i 0)
 | .cB sg _ l,f,agg=>bif agg then .one (.agg (sg.zipIdx.map fun (b,f)=>bif b then .inner id ver i f else .i .i64 (gi (l.getD i []) f)))
   else match sg[f]? with
    |some true=> .l (.inner id ver i f)
    |some false=> .l (.i .i64 (gi (l.getD i []) f))
    |none=> .l .any
def Dg (p:Bool) (i:Nat):Row->(f:Nat)->Bool->AV
 | .ints k l,_,_=> .l (.i k (l.getD i 0))
 | .cx l,_,_=> .l (.b (l.getD i false))
 | .strs l,_,_=> .l (.s (l.getD i ByteArray.empty))
 | .rows _ l,_,_=> .l (.val p (.ints .i64 (l.getD i [])))
 | .cB sg _ l,f,agg=>bif agg then .one (.agg (sg.zipIdx.map fun (b,f)=>bif b then .val p (.ints .i64 (gl (l.getD i []) f)) else .i .i64 (gi (l.getD i []) f)))
   else match sg[f]? with
    |some true=> .l (.val p (.ints .i64 (gl (l.getD i []) f)))
    |some false=> .l (.i .i64 (gi (l.getD i []) f))
    |none=> .l .any
def qT (sg:List Bool) (r:List jC) (f:Nat) (x:jC):List jC:=sg.zipIdx.map fun (b,g)=>bif g==f then x else bif b then .ints (gl r g) else .int (gi r g)
def ki (hp:Nat->Option aq) (agg:Bool) (i:Nat) (f:Nat) (x:AV):Row->Option (Row×List Nat×Bool)
 | .ints k l=>match x with| .one (.l (.i k' n))=>bif decide (k=k') then some (.ints k (l.set i n),[],false) else none|_=>none
 | .cx l=>match x with| .one (.l (.b n))=>some (.cx (l.set i n),[],false)|_=>none
 | .strs l=>match x with| .one (.l (.s n))=>some (.strs (l.set i n),[],false)|_=>none
 | .rows o l=>match x with
   | .one (.l x)=>match n9 hp x with|some (o',y,ks)=>some (.rows (o&&o') (l.set i y),ks,true)|none=>none
   |_=>none
 | .cB sg o l=>match x with
   | .one (.agg xs)=>bif agg then (match fI hp sg xs with|some (o',y,ks)=>some (.cB sg (o&&o') (l.set i y),ks,true)|none=>none) else none
   | .one (.l (.i .i64 n))=>bif agg then none else (match sg[f]? with|some false=>some (.cB sg o (l.set i (qT sg (l.getD i []) f (.int n))),[],true)|_=>none)
   |_=>none
def EV (i j:Nat) (n:Int):Row->Option Row
 | .rows true l=>some (.rows true (l.set i ((l.getD i []).set j n)))
 |_=>none
def dm (r:Row) (i f:Nat):List Int:=match r with
 | .rows _ l=>l.getD i []
 | .cB _ _ l=>gl (l.getD i []) f
 |_=>[]
def lX (i f:Nat) (y:List Int):Row->Option Row
 | .rows true l=>some (.rows true (l.set i y))
 | .cB sg true l=>match sg[f]? with|some true=>some (.cB sg true (l.set i (qT sg (l.getD i []) f (.ints y))))|_=>none
 |_=>none
def strOf (l:List Int):ByteArray:=⟨(l.map fun n=>UInt8.ofNat n.toNat).toArray⟩
def sb (s:ByteArray) (i:Nat):Int:=((s.data[i]?).getD 0).toNat
def cZ (tt:TT) (t:Nat):Bool:=match tt t with|some ⟨.struct _,_,_⟩=>true|_=>false
def jd (tt:TT) (t:Nat):Option Nat:=match tt t with|some ⟨.slice e,_,_⟩=>some e|_=>none
def bytesOf (tt:TT) (t:Nat):Nat:=match tt t with|some e=>e.bytes|none=>0
def bh (tt:TT) (t:Nat):Nat:=match tt t with|some e=>e.size|none=>0
def cQ (tt:TT) (t:Nat):Bool:=match tt t with
 |some ⟨.int _,_,_⟩=>true
 |some ⟨.bool,_,_⟩=>true
 |some ⟨.str,_,_⟩=>true
 |some ⟨.slice _,_,_⟩=>true
 |some ⟨.ptr _,_,_⟩=>true
 |some ⟨.err,_,_⟩=>true
 |_=>false
def zw (tt:TT) (t:Nat):Nat:=match tt t with|some ⟨.slice e,_,_⟩=>bh tt e|_=>0
def JJ (tt:TT) (t:Nat) (r:Row):Bool:=zw tt t==r.size&&Nat.blt 0 r.size
section
variable {R:Type}
def kP (nx:Nat) (v:AV) (K:fR->Option R):Option R:=K ⟨v,[],nx,[],[]⟩
def HK (x:AV) (K:Int->Option R):Option R:=match x with| .one (.l (.i _ n))=>K n|_=>none
def nJ (tt:TT) (nx:Nat) (t:Nat) (K:fR->Option R):Option R:=
 match tt t with
 |some ⟨.struct _,_,_⟩=>K ⟨.l (.eJ nx 0),[(nx,some (.box t ((aA tt depth t).map (mf tt))))],nx+1,[],[]⟩
 |some ⟨.array n e,_,_⟩=>match cp tt e with
  |some r=>bif Nat.blt 0 n&&r.size==1&& !r.deep then K ⟨.l (.arr nx n),[(nx,some (.row t 0 (e_ n r)))],nx+1,[],[]⟩ else none
  |none=>none
 |some _=>bif cQ tt t then K ⟨.l (.eJ nx 0),[(nx,some (.box t [mf tt t]))],nx+1,[],[]⟩ else none
 |none=>none
def qt (tt:TT) (hp:Nat->Option aq) (nx:Nat) (t:Nat) (x:AV) (K:fR->Option R):Option R:=
 match tt t with
 |some ⟨.array _ _,_,_⟩=>none
 |some e=>match k_ hp x with
  |some xs=>K ⟨.l (.eJ nx 0),[(nx,some (.box t xs))],nx+1,[],[]⟩
  |none=>none
 |none=>none
def kJ (tt:TT) (hp:Nat->Option aq) (fs:List (Nat×Nat)) (zero:List LV):List (Nat×AV)->Option (List LV)
 | []=>some zero
 | (i,x)::ps=>match fs[i]?,k_ hp x with
   |some (off,ft),some xs=>match tt ft with
    |some e=>bif xs.length==e.size&&Nat.ble (off+xs.length) zero.length then kJ tt hp fs (jO zero off xs) ps else none
    |none=>none
   |_,_=>none
def mB (tt:TT) (hp:Nat->Option aq) (nx:Nat) (t:Nat) (parts:List (Nat×AV)) (K:fR->Option R):Option R:=
 match tt t with
 |some ⟨.struct fs,_,_⟩=>match kJ tt hp fs ((aA tt depth t).map (mf tt)) parts with
  |some xs=>kP nx (.one (.agg xs)) K
  |none=>none
 |some ⟨.array n e,_,_⟩=>match parts,tt e with
  | [],some _=>kP nx (.one (.agg (List.replicate n (mf tt e)))) K
  |_,_=>none
 |_=>none
def uX:Nat->List (Nat×AV)->Option (List AV)
 |_,[]=>some []
 |i,(j,x)::ps=>bif i==j then (match uX (i+1) ps with|some xs=>some (x::xs)|none=>none) else none
def fa (tt:TT) (hp:Nat->Option aq) (nx:Nat) (t len:Nat) (parts:List (Nat×AV)) (K:fR->Option R):Option R:=
 match jd tt t with
 |some e=>match cp tt e,uX 0 parts with
  |some r0,some xs=>bif xs.length==len&&Nat.ble (len*r0.size) 16777216 then (match rowOf hp r0 xs with
   |some (r,ks)=>K ⟨.l (.own nx),cF ks++[(nx,some (.row e 0 r))],nx+1,[],ks⟩
   |none=>none) else none
  |_,_=>none
 |none=>none
def pi (tt:TT) (hp:Nat->Option aq) (nx:Nat) (t:Nat) (p:AV) (K:fR->Option R):Option R:=
 match p with
 | .one (.l (.eJ id k))=>match hp id with
   |some (.box _ cells)=>bif cZ tt t then (bif Nat.ble (k+bh tt t) cells.length then K ⟨.one (.agg ((cells.drop k).take (bh tt t))),[],nx,[],[id]⟩ else none)
    else bif cQ tt t then (match cells[k]? with|some x=>K ⟨.l x,[],nx,[],[id]⟩|none=>none) else none
   |_=>none
 | .one (.l (.oG id i f))=>match hp id with
   |some (.row _ ver r)=>bif (bif cZ tt t then bh tt t==r.size&&f==0&&r.n8 else cQ tt t&&Nat.blt f r.size) then K ⟨Df id ver i r f (cZ tt t),[],nx,[],[id]⟩ else none
   |_=>none
 | .one (.l (.C2 p r i f))=>bif (bif cZ tt t then bh tt t==r.size&&f==0&&r.n8 else cQ tt t&&Nat.blt f r.size) then kP nx (Dg p i r f (cZ tt t)) K else none
 | .one (.l (.wT id ver i f j))=>match hp id with
   |some (.row _ v r)=>bif v==ver&&cQ tt t then K ⟨.l (.i .i64 ((dm r i f).getD j 0)),[],nx,[],[id]⟩ else none
   |_=>none
 |_=>none
def LH (r:Row) (xs:List LV):Option Row:=match rowOf (fun _=>none) r (xs.map fun x=> .l x) with|some (r,[])=>some r|_=>none
def mC (tt:TT) (hp:Nat->Option aq) (nx:Nat) (t:Nat) (p x:AV) (K:fR->Option R):Option R:=
 match p with
 | .one (.l (.eJ id k))=>match hp id,k_ hp x with
   |some (.box bt cells),some xs=>bif xs.length==bh tt t&&Nat.blt 0 xs.length then (bif decide (k+xs.length<=cells.length) then
    K ⟨.l .undef,[(id,some (.box bt (De cells k xs)))],nx,[],[id]⟩ else none) else none
   |_,_=>none
 | .one (.l (.oG id i f))=>match tt t with
   |some e=>match hp id with
    |some (.row bt ver r)=>bif (bif cZ tt t then e.size==r.size&&f==0&&r.n8 else cQ tt t&&Nat.blt f r.size) then match ki hp (cZ tt t) i f x r with
     |some (r',ks,bump)=>bif ks.elem id then none else K ⟨.l .undef,cF ks++[(id,some (.row bt (bif bump then ver+1 else ver) r'))],nx,[],id::ks⟩
     |none=>none
     else none
    |some (.hole bt ver (.rows true l) i' f')=>bif f==0&&cQ tt t then aC (i==i') (match x with
     | .one (.l x)=>match n9 hp x with
       |some (true,y,ks)=>bif ks.elem id then none else K ⟨.l .undef,cF ks++[(id,some (.row bt (ver+1) (.rows true (l.set i y))))],nx,[],id::ks⟩
       |_=>none
     |_=>none) else none
    |_=>none
   |none=>none
 | .one (.l (.arr id m))=>match tt t with
   |some ⟨.array n e,_,_⟩=>match hp id,x,cp tt e with
    |some (.row bt ver r),.one (.agg xs),some r0=>bif xs.length==n&&m==n&&r0.size==1&& !r0.deep&&r.size==1&& !r.deep&&bh tt t==n&&Nat.blt 0 n then (match LH r0 xs with
     |some r'=>K ⟨.l .undef,[(id,some (.row bt (ver+1) r'))],nx,[],[id]⟩
     |none=>none) else none
    |_,_,_=>none
   |_=>none
 | .one (.l (.wT id ver i f j))=>match hp id,x with
   |some (.row bt v r),.one (.l (.i .i64 n))=>bif v==ver&&cQ tt t then (match EV i j n r with
    |some r'=>K ⟨.l .undef,[(id,some (.row bt v r'))],nx,[],[id]⟩
    |none=>none) else none
   |_,_=>none
 |_=>none
def gY (tt:TT) (hp:Nat->Option aq) (nx:Nat) (t:Nat) (x ix:AV) (K:fR->Option R):Option R:=
 HK ix fun i=>match x with
 | .one (.l (.own id))=>match jg hp id with
   |some r=>bif JJ tt t r then aC (decide (0<=i)&&decide (i<r.len)) (K ⟨.l (.oG id i.toNat 0),[],nx,[id],[]⟩) else none
   |none=>none
 | .one (.l (.sub id lo hi))=>match jg hp id with
   |some r=>bif JJ tt t r then aC (decide (0<=i)&&decide (i<((hi-lo:Nat):Int))) (K ⟨.l (.oG id (lo+i.toNat) 0),[],nx,[id],[]⟩) else none
   |none=>none
 | .one (.l (.val p r))=>bif JJ tt t r then aC (decide (0<=i)&&decide (i<r.len)) (kP nx (.l (.C2 p r i.toNat 0)) K) else none
 | .one (.l (.inner id ver e f))=>match lenOf hp (.inner id ver e f) with
   |some (n,rl,rc)=>bif zw tt t==1 then aC (decide (0<=i)&&decide (i<n)) (K ⟨.l (.wT id ver e f i.toNat),[],nx,rl,rc⟩) else none
   |none=>none
 | .one (.l (.arr id n))=>match tt t,jg hp id with
   |some ⟨.array m e,_,_⟩,some r=>bif m==n&&bh tt e==r.size&&Nat.blt 0 r.size then aC (decide (0<=i)&&decide (i<n)) (K ⟨.l (.oG id i.toNat 0),[],nx,[id],[]⟩) else none
   |_,_=>none
 |_=>none
def gZ (tt:TT) (hp:Nat->Option aq) (nx:Nat) (t:Nat) (x:AV) (f:Nat) (K:fR->Option R):Option R:=
 match tt t with
 |some ⟨.struct fs,_,_⟩=>match fs[f]? with
  |some (off,_)=>match x with
   | .one (.l (.eJ id k))=>kP nx (.l (.eJ id (k+off))) K
   | .one (.l (.oG id i g))=>match jg hp id with|some _=>K ⟨.l (.oG id i (g+off)),[],nx,[id],[]⟩|none=>none
   | .one (.l (.C2 p r i g))=>kP nx (.l (.C2 p r i (g+off))) K
   |_=>none
  |none=>none
 |_=>none
def zx (o:Option AV) (d:Int) (K:Int->Option R):Option R:=match o with|none=>K d|some x=>HK x K
def mD (tt:TT) (hp:Nat->Option aq) (nx:Nat) (t:Nat) (x:AV) (lo hi:Option AV) (K:fR->Option R):Option R:=
 match x with
 | .one (.l (.s s))=>match tt t with
   |some ⟨.str,_,_⟩=>zx hi s.size fun h=>aC (decide (0<=h)&&decide (h<=s.size)) (zx lo 0 fun l=>aC (decide (0<=l)&&decide (l<=h)) (kP nx (.l (.s (s.extract l.toNat h.toNat))) K))
   |_=>none
 | .one (.l (.own id))=>match jg hp id with
   |some r=>bif JJ tt t r then (match lo,hi with
    |none,none=>kP nx (.l (.own id)) K
    |_,_=>zx hi r.len fun h=>aC (decide (0<=h)&&decide (h<=r.len)) (zx lo 0 fun l=>aC (decide (0<=l)&&decide (l<=h)) (K ⟨.l (.sub id l.toNat h.toNat),[],nx,[id],[]⟩))) else none
   |none=>none
 | .one (.l (.val p r))=>bif JJ tt t r then match lo,hi with
  |none,none=>kP nx (.l (.val p r)) K
  |none,some h=>HK h fun h=>aC (decide (0<=h)&&decide (h<=r.len)) (kP nx (.l (.val p (r.take h.toNat))) K)
  |some l,none=>HK l fun l=>aC (decide (0<=l)&&decide (l<=r.len)) (kP nx (.l (.val p (r.drop l.toNat))) K)
  |some l,some h=>HK h fun h=>aC (decide (0<=h)&&decide (h<=r.len)) (HK l fun l=>aC (decide (0<=l)&&decide (l<=h)) (kP nx (.l (.val p ((r.take h.toNat).drop l.toNat))) K))
   else none
 |_=>none
def qU (tt:TT) (nx:Nat) (t:Nat) (x ix:AV) (K:fR->Option R):Option R:=
 match x with
 | .one (.l (.s s))=>match tt t with
   |some ⟨.str,_,_⟩=>HK ix fun i=>aC (decide (0<=i)&&decide (i<s.size)) (kP nx (.l (.i .u8 (sb s i.toNat))) K)
   |_=>none
 |_=>none
def jP (tt:TT) (hp:Nat->Option aq) (nx:Nat) (src dst:Nat) (x:AV) (K:fR->Option R):Option R:=
 bif cQ tt src then match x with
 | .one (.l (.i _ n))=>match tt dst with|some ⟨.int k,_,_⟩=>kP nx (.l (.i k (k.wrap n))) K|_=>none
 | .one (.l (.s s))=>match tt dst with|some ⟨.str,_,_⟩=>kP nx (.l (.s s)) K|_=>none
 | .one (.l x)=>match tt dst,fG hp x with
   |some ⟨.str,_,_⟩,some (.ints .u8 l,rc)=>match (jd tt src).bind tt with
    |some ⟨.int .u8,_,_⟩=>K ⟨.l (.s (strOf l)),[],nx,[],rc⟩
    |_=>none
   |_,_=>none
 |_=>none
 else none
def qu:Operand->Operand->Bool
 | .tmp a,.tmp b=>a==b
 | .const (.int _ a),.const (.int _ b)=>a==b
 |_,_=>false
def iQ (tt:TT) (nx:Nat) (t:Nat) (l c:Operand) (x:AV) (K:fR->Option R):Option R:=
 bif qu l c then (match jd tt t with
  |some e=>match cp tt e with
   |some r=>HK x fun n=>aC (decide (0<=n)&&decide (n.toNat*bytesOf tt e<=room)) (K ⟨.l (.own nx),[(nx,some (.row e 0 (e_ n.toNat r)))],nx+1,[],[]⟩)
   |none=>none
  |none=>none) else none
def lh (hp:Nat->Option aq) (r0:Row):LV->Option (Row×List Nat×List Nat)
 | .nil=>some (r0,[],[])
 | .own id=>match hp id with
   |some (.row _ _ r)=>match r with
    | .rows true _=>some (r,[id],[id])
    | .cB _ true _=>some (r,[id],[id])
    |_=>some (r,[],[id])
   |_=>none
 | .sub id lo hi=>match hp id with
   |some (.row _ _ r)=>match r with
    | .rows true _=>none
    | .cB _ true _=>none
    |_=>some ((r.take hi).drop lo,[],[id])
   |_=>none
 | .s s=>some (.ints .u8 (s.data.toList.map fun b=>(b.toNat:Int)),[],[])
 |x=>match fG hp x with|some (r,rc)=>some (r,[],rc)|none=>none
def n_ (tt:TT) (e:Nat) (r0 base y:Row) (ks:List Nat) (up:List (Nat×Option aq)) (nx:Nat) (rc:List Nat) (K:fR->Option R):Option R:=
 match base.y7 y with
 |some r=>bif base.size==r0.size then aC (decide ((base.len+y.len)*bytesOf tt e<=room)) (K ⟨.l (.own nx),cF ks++up++[(nx,some (.row e 0 r))],nx+1,[],rc⟩) else none
 |none=>none
def la (tt:TT) (hp:Nat->Option aq) (nx:Nat) (t:Nat) (tx:Nat) (s x:AV) (K:fR->Option R):Option R:=
 match jd tt t,s,x with
 |some e,.one (.l s),.one (.l x)=>match cp tt e with
  |some r0=>match lh hp r0 x with
   |some (y,ks,rc)=>bif (match x with| .s _=>(match tt tx with|some ⟨.str,_,_⟩=>r0.size==1|_=>false)|_=>(jd tt tx).isSome) then (match s with
    | .nil=>n_ tt e r0 r0 y ks [] nx rc K
    | .own id=>match hp id with
      |some (.row _ _ r)=>bif rc.elem id then none else n_ tt e r0 r y ks [(id,none)] nx (rc++[id]) K
      |_=>none
    | .sub id lo hi=>match hp id with
      |some (.row _ _ r)=>bif rc.elem id then none else bif lo==0 then n_ tt e r0 (r.take hi) y ks [(id,none)] nx (rc++[id]) K else none
      |_=>none
    | .inner id ver i f=>match hp id with
      |some (.row bt v (.rows true l))=>bif rc.elem id then none else bif v==ver then n_ tt e r0 (.ints .i64 (l.getD i [])) y ks [(id,some (.hole bt v (.rows true l) i f)),(nx,none)] (nx+1) (rc++[id]) K else none
      |_=>none
    |_=>none) else none
   |none=>none
  |none=>none
 |_,_,_=>none
def pj (tt:TT) (hp:Nat->Option aq) (nx:Nat) (t:Nat) (d s:AV) (K:fR->Option R):Option R:=
 bif (match jd tt t with|some e=>bh tt e==1|none=>false) then match d,s with
 | .one (.l (.sub id lo hi)),.one (.l (.sub TB gK qk))=>match hp id with
   |some (.row bt ver (.ints k l))=>bif id==TB then
    K ⟨.l (.i .i64 (min (qk-gK) (hi-lo):Nat)),[(id,some (.row bt ver (.ints k (l.take lo++(((l.take qk).drop gK).take (hi-lo)++l.drop (lo+min (qk-gK) (hi-lo)))))))],nx,[],[id]⟩ else none
   |some (.row bt ver (.rows true l))=>bif id==TB then
    aC (lo==gK+1&&hi==l.length&&qk==l.length&&decide (gK<l.length)) (K ⟨.l (.i .i64 ((l.length-lo:Nat):Int)),[(id,some (.hole bt (ver+1) (.rows true (l.take gK++[]::(l.drop gK).dropLast)) gK 0))],nx,[],[id]⟩) else none
   |_=>none
 |_,_=>none
 else none
end
section
variable {R:Type}
def tC (tt:TT) (hp:Nat->Option aq) (m:Mode) (t:Nat):LV->Option (DL×List Nat×List Nat×List Nat)
 | .i k n=>some (.i k n,[],[],[])
 | .b x=>some (.b x,[],[],[])
 | .s x=>some (.s x,[],[],[])
 | .er x=>some (.er x,[],[],[])
 | .nil=>match jd tt t with
   |some e=>match cp tt e with
    |some r=>match m with| .oU=>some (.sl .aZ r.eb,[],[],[])| .eb=>some (.sl .eb r.eb,[],[],[])|_=>some (.sl .own r,[],[],[])
    |none=>none
   |none=>none
 | .val p r=>match m with
   | .oU=>some (.sl .aZ r,[],[],[])
   | .eb=>bif p then some (.sl .eb r,[],[],[]) else none
   |_=>none
 |x=>match m with
  | .oU=>match fG hp x with|some (r,rc)=>some (.sl .aZ r,[],[],rc)|none=>none
  | .Bn=>match x with
    | .own id=>match hp id with|some (.row _ _ r)=>(bif r.owned then some (.sl .own r,[id],[],[]) else none)|_=>none
    | .sub id 0 hi=>match hp id with|some (.row _ _ r)=>(bif r.owned then some (.sl .own (r.take hi),[id],[],[]) else none)|_=>none
    |_=>none
  | .io=>match x with
    | .own id=>match hp id with|some (.row _ _ r)=>(bif r.owned then some (.sl .own r,[],[id],[]) else none)|_=>none
    | .inner id ver i f=>match hp id with
      |some (.row _ v r)=>bif v==ver&&r.owned then some (.sl .own (.ints .i64 (dm r i f)),[],[id],[]) else none
      |_=>none
    |_=>none
  | .eb=>none
def pz (tt:TT) (hp:Nat->Option aq) (m:Mode):List Nat->List LV->Option (List DL×List Nat×List Nat×List Nat)
 | [],[]=>some ([],[],[],[])
 |t::ts,x::xs=>match tC tt hp m t x with
  |some (d,ks,io,rc)=>match pz tt hp m ts xs with
   |some (ds,ks',io',Kj)=>some (d::ds,ks++ks',io++io',rc++Kj)
   |none=>none
  |none=>none
 |_,_=>none
def K8:LV->Option DL
 | .i k n=>some (.i k n)
 | .b x=>some (.b x)
 | .s x=>some (.s x)
 | .val true r=>some (.sl .eb r)
 |_=>none
def CL:List LV->Option (List DL)
 | []=>some []
 |x::xs=>match K8 x with
  |some d=>match CL xs with
   |some ds=>some (d::ds)
   |none=>none
  |none=>none
def BN:LV->Option Nat
 | .eJ id 0=>some id
 |_=>none
def K9 (tt:TT) (t:Nat):Bool:=match tt t with|some ⟨.ptr _,_,_⟩=>true|_=>false
def y_ (tt:TT) (hp:Nat->Option aq) (t id:Nat):Option (List DL):=bif K9 tt t then (match hp id with
 |some (.box _ cells)=>CL cells
 |_=>none) else none
def La (tt:TT) (hp:Nat->Option aq) (m:Mode) (t id:Nat):Option (DV×List Nat×List Nat×List Nat):=match m with
 | .io=>match y_ tt hp t id with|some ds=>some (.ptr ds,[],[id],[])|none=>none
 |_=>none
def EB (tt:TT) (hp:Nat->Option aq) (m:Mode) (t:Nat):AV->Option (DV×List Nat×List Nat×List Nat)
 | .one (.l x)=>match BN x with
   |some id=>La tt hp m t id
   |none=>match tC tt hp m t x with|some (d,ks,io,rc)=>some (.l d,ks,io,rc)|none=>none
 | .one (.agg xs)=>match pz tt hp m (aA tt depth t) xs with|some (ds,ks,io,rc)=>some (.agg ds,ks,io,rc)|none=>none
 | .DM _=>none
def oA (tt:TT) (hp:Nat->Option aq):List Mode->List Nat->List AV->Option (List DV×List Nat×List Nat×List Nat)
 |_,[],[]=>some ([],[],[],[])
 |ms,t::ts,x::xs=>match EB tt hp (ms.headD .oU) t x with
  |some (d,ks,io,rc)=>match oA tt hp ms.tail ts xs with
   |some (ds,ks',io',Kj)=>some (d::ds,ks++ks',io++io',rc++Kj)
   |none=>none
  |none=>none
 |_,_,_=>none
def dI (k:IntKind) (d:DL) (K:Int->Option R):Option R:=match d with| .i k' n=>(bif decide (k=k') then K n else none)|_=>none
def dB (d:DL) (K:Bool->Option R):Option R:=match d with| .b x=>K x|_=>none
def dS (d:DL) (K:ByteArray->Option R):Option R:=match d with| .s x=>K x|_=>none
def dE (d:DL) (K:Bool->Option R):Option R:=match d with| .er x=>K x|_=>none
def uC (oc:kd) (k:IntKind) (d:DL) (K:List Int->Option R):Option R:=match d with| .sl o (.ints k' l)=>(bif decide (o=oc)&&decide (k=k') then K l else none)|_=>none
def qg (oc:kd) (d:DL) (K:List Bool->Option R):Option R:=match d with| .sl o (.cx l)=>(bif decide (o=oc) then K l else none)|_=>none
def xu (oc:kd) (d:DL) (K:List ByteArray->Option R):Option R:=match d with| .sl o (.strs l)=>(bif decide (o=oc) then K l else none)|_=>none
def xw (oc:kd) (d:DL) (K:List (List Int)->Option R):Option R:=match d with| .sl o (.rows o' l)=>(bif decide (o=oc)&&o' ==decide (oc= .own) then K l else none)|_=>none
def xx (oc:kd) (sg:List Bool) (d:DL) (K:List (List jC)->Option R):Option R:=match d with| .sl o (.cB Oe o' l)=>(bif decide (o=oc)&&o' ==decide (oc= .own)&&sg==Oe then K l else none)|_=>none
def uD (ds:List DV) (K:DV->List DV->Option R):Option R:=match ds with|d::ds=>K d ds|_=>none
def Jv (ds:List DV) (K:Option R):Option R:=match ds with| []=>K|_=>none
def dL (d:DV) (K:DL->Option R):Option R:=match d with| .l x=>K x|_=>none
def Lg (d:DV) (K:List DL->Option R):Option R:=match d with| .agg x=>K x|_=>none
def Hv (d:DV) (K:List DL->Option R):Option R:=match d with| .ptr x=>K x|_=>none
def EF (ds:List DL) (K:DL->List DL->Option R):Option R:=match ds with|d::ds=>K d ds|_=>none
def Lf (ds:List DL) (K:Option R):Option R:=match ds with| []=>K|_=>none
def CT (tt:TT) (oc:kd) (t:Nat) (d:DL) (nx:Nat) (K:LV->List (Nat×Option aq)->Nat->Option R):Option R:=
 match tt t with
 |some ⟨.int k,_,_⟩=>dI k d fun n=>K (.i k n) [] nx
 |some ⟨.bool,_,_⟩=>dB d fun x=>K (.b x) [] nx
 |some ⟨.str,_,_⟩=>dS d fun x=>K (.s x) [] nx
 |some ⟨.err,_,_⟩=>dE d fun x=>K (.er x) [] nx
 |some ⟨.slice e,_,_⟩=>
  let fin (r:Row):Option R:=match oc with
   | .own=>K (.own nx) [(nx,some (.row e 0 r))] (nx+1)
   | .eb=>K (.val true r) [] nx
   | .aZ=>K (.val false r) [] nx
  match cp tt e with
  |some (.ints k _)=>uC oc k d fun l=>fin (.ints k l)
  |some (.cx _)=>qg oc d fun l=>fin (.cx l)
  |some (.strs _)=>xu oc d fun l=>fin (.strs l)
  |some (.rows _ _)=>xw oc d fun l=>fin (.rows (decide (oc= .own)) l)
  |some (.cB sg _ _)=>xx oc sg d fun l=>fin (.cB sg (decide (oc= .own)) l)
  |none=>none
 |_=>none
def yr (tt:TT) (oc:kd):List Nat->List DL->Nat->(List LV->List (Nat×Option aq)->Nat->Option R)->Option R
 | [],ds,nx,K=>Lf ds (K [] [] nx)
 |t::ts,ds,nx,K=>EF ds fun d ds=>CT tt oc t d nx fun x up nx=>yr tt oc ts ds nx fun xs fh nx=>K (x::xs) (up++fh) nx
def Hw (tt:TT) (oc:kd) (t:Nat) (d:DV) (nx:Nat) (K:A1->List (Nat×Option aq)->Nat->Option R):Option R:=
 match tt t with
 |some ⟨.struct _,_,_⟩=>Lg d fun ds=>yr tt oc (aA tt depth t) ds nx fun xs up nx=>K (.agg xs) up nx
 |some ⟨.ptr e,_,_⟩=>Hv d fun ds=>yr tt .eb (aA tt depth e) ds (nx+1) fun xs up nK=>K (.l (.eJ nx 0)) (up++[(nx,some (.box e xs))]) nK
 |_=>dL d fun d=>CT tt oc t d nx fun x up nx=>K (.l x) up nx
def CU (tt:TT) (oc:kd):List Nat->List DV->Nat->(List A1->List (Nat×Option aq)->Nat->List DV->Option R)->Option R
 | [],ds,nx,K=>K [] [] nx ds
 |t::ts,ds,nx,K=>uD ds fun d ds=>Hw tt oc t d nx fun x up nx=>CU tt oc ts ds nx fun xs fh nx ds=>K (x::xs) (up++fh) nx ds
def eA (hp:Nat->Option aq):List (Nat×Option aq)->Nat->Option aq
 | []=>hp
 | (i,r)::l=>eA (fun j=>bif j==i then r else hp j) l
def zc:List Nat->Bool
 | []=>true
 |x::l=> !l.elem x&&zc l
def m_:List Nat->List Nat->Bool
 | [],_=>true
 |x::l,m=> !m.elem x&&m_ l m
structure pL where
 params:List Nat
 results:List Nat
 gj:List Mode
 oc:kd
structure fe (R:Type) where
 tt:TT
 Φ:Pd R
 sig:FuncId->Option pL
 nt:Nat
def IF:List A1->AV
 | [x]=> .one x
 |xs=> .DM xs
def pP:List Mode->Bool
 | []=>true
 | .io::_=>false
 |_::ms=>pP ms
def Row.jA (r:Row) (f:Nat):Bool:=match r with
 | .rows _ _=>f==0
 | .cB sg _ _=>sg[f]?.getD false
 |_=>false
def kZ (oc:kd) (rc:List Nat):List (Nat×Option aq):=match oc with| .aZ=>cF rc|_=>[]
def gD (hp:Nat->Option aq) (x:LV) (d:DL) (K:List (Nat×Option aq)->Option R):Option R:=
 match x with
 | .i _ _=>K []
 | .b _=>K []
 | .s _=>K []
 | .er _=>K []
 | .nil=>K []
 | .own id=>match hp id with
   |some (.row e ver (.ints k _))=>uC .own k d fun l=>K [(id,some (.row e (ver+1) (.ints k l)))]
   |some (.row e ver (.cx _))=>qg .own d fun l=>K [(id,some (.row e (ver+1) (.cx l)))]
   |some (.row e ver (.strs _))=>xu .own d fun l=>K [(id,some (.row e (ver+1) (.strs l)))]
   |some (.row e ver (.rows true _))=>xw .own d fun l=>K [(id,some (.row e (ver+1) (.rows true l)))]
   |some (.row e ver (.cB sg true _))=>xx .own sg d fun l=>K [(id,some (.row e (ver+1) (.cB sg true l)))]
   |_=>none
 |_=>none
def fb (hp:Nat->Option aq):List LV->List DL->(List (Nat×Option aq)->Option R)->Option R
 | [],ds,K=>Lf ds (K [])
 |x::xs,ds,K=>EF ds fun d ds=>gD hp x d fun up=>fb hp xs ds fun fh=>K (up++fh)
def lW (x:LV) (d:DL) (K:LV->Option R):Option R:=match x with
 | .i k _=>dI k d fun n=>K (.i k n)
 | .b _=>dB d fun x=>K (.b x)
 | .s _=>dS d fun x=>K (.s x)
 | .val true (.ints k _)=>uC .eb k d fun l=>K (.val true (.ints k l))
 |_=>none
def lA:List LV->List DL->(List LV->Option R)->Option R
 | [],ds,K=>Lf ds (K [])
 |x::xs,ds,K=>EF ds fun d ds=>lW x d fun y=>lA xs ds fun ys=>K (y::ys)
def qO (hp:Nat->Option aq) (id:Nat) (d:DV) (K:List (Nat×Option aq)->Option R):Option R:=Hv d fun ds=>match hp id with
 |some (.box t cells)=>lA cells ds fun cs=>K [(id,some (.box t cs))]
 |_=>none
def k0 (hp:Nat->Option aq) (x:AV) (d:DV) (K:List (Nat×Option aq)->Option R):Option R:=match x with
 | .one (.l x)=>match BN x with
   |some id=>qO hp id d K
   |none=>dL d fun d=>gD hp x d K
 | .one (.agg ys)=>Lg d fun d=>fb hp ys d K
 | .DM _=>none
def iA (hp:Nat->Option aq):List Mode->List AV->List DV->(List (Nat×Option aq)->Option R)->Option R
 | .io::ms,x::xs,ds,K=>uD ds fun d ds=>k0 hp x d fun up=>iA hp ms xs ds fun fh=>K (up++fh)
 |_::ms,_::xs,ds,K=>iA hp ms xs ds K
 |_,_,ds,K=>Jv ds (K [])
def pC:LV->List Nat
 | .own id=>[id]
 |_=>[]
def BP:AV->List Nat
 | .one (.l x)=>match BN x with
   |some id=>[id]
   |none=>pC x
 | .one (.agg xs)=>xs.flatMap pC
 | .DM _=>[]
def jW:List Mode->List AV->List Nat
 | .io::ms,x::xs=>BP x++jW ms xs
 |_::ms,_::xs=>jW ms xs
 |_,_=>[]
def Se:List DL->Option kd
 | []=>none
 | .sl c _::_=>some c
 |_::ds=>Se ds
def Pe:Nat->List DV->Option kd
 |n+1,.l (.sl c _)::_=>some c
 |n+1,.agg xs::ds=>match Se xs with|some c=>some c|none=>Pe n ds
 |n+1,_::ds=>Pe n ds
 |_,_=>none
def O7 (oc:kd) (n:Nat) (rs:List DV):kd:=match oc with
 | .aZ=>match Pe n rs with|some .own=> .own|_=> .aZ
 |c=>c
def pL.to (g:pL) (c:kd):pL:=⟨g.params,g.results,g.gj,c⟩
def yt (G:fe R) (hp:Nat->Option aq) (nx:Nat) (f:FuncId) (g:pL) (xs:List AV) (K:fR->Option R):Option R:=
 match oA G.tt hp g.gj g.params xs with
  |none=>none
  |some (ds,ks,io,rc)=>bif zc (ks++io)&&m_ (ks++io) rc&&io==jW g.gj xs then G.Φ f ds fun rs=>
   CU G.tt (O7 g.oc g.results.length rs) g.results rs nx fun vs up nx tH=>iA hp g.gj xs tH fun fh=>K ⟨IF vs,cF ks++kZ (O7 g.oc g.results.length rs) rc++up++fh,nx,[],ks++io++rc⟩
   else none
def iB:List Mode->List AV->Option (Nat×Nat×Nat×Nat)
 | .io::_,.one (.l (.inner id ver i f))::_=>some (id,ver,i,f)
 |_::ms,_::xs=>iB ms xs
 |_,_=>none
def wS (n:Nat):List Mode->List AV->List AV
 | .io::_,.one (.l (.inner _ _ _ _))::xs=> .one (.l (.own n))::xs
 |_::ms,x::xs=>x::wS n ms xs
 |_,xs=>xs
def Ls (G:fe R) (hp:Nat->Option aq) (nx:Nat) (f:FuncId) (xs:List AV) (K:fR->Option R):Option R:=
 match G.sig f with
 |none=>none
 |some g=>match iB g.gj xs with
  |none=>yt G hp nx f g xs K
  |some (id,ver,i,fl)=>match hp id with
   |some (.row e v r)=>bif v==ver&&r.owned&&r.jA fl&&Nat.blt i r.len then
    let take:List (Nat×Option aq):=[(id,some (.hole e v r i fl)),(nx,some (.row 0 0 (.ints .i64 (dm r i fl))))]
    yt G (eA hp take) (nx+1) f g (wS nx g.gj xs) fun E=>match eA (eA hp take) E.up nx,eA (eA hp take) E.up id with
     |some (.row _ _ (.ints .i64 l)),some (.hole _ _ _ _ _)=>match lX i fl l r with
      |some r'=>K ⟨E.v,take++E.up++[(id,some (.row e (v+1) r')),(nx,none)],E.nx,[],E.rc⟩
      |none=>none
     |_,_=>none
    else none
   |_=>none
def jQ (G:fe R) (hp:Nat->Option aq) (nx:Nat) (b:Builtin) (ts:List Nat) (xs:List AV) (K:fR->Option R):Option R:=
 match b,xs,ts with
 | .len,[.one (.l (.s s))],[t]=>(match G.tt t with|some ⟨.str,_,_⟩=>kP nx (.l (.i .i64 s.size)) K|_=>none)
 | .len,[.one (.l x)],[t]=>(match jd G.tt t,lenOf hp x with
   |some _,some (n,rl,rc)=>K ⟨.l (.i .i64 n),[],nx,rl,rc⟩
   |_,_=>none)
 | .append,[s,x],[t,tx]=>la G.tt hp nx t tx s x K
 | .copy,[d,s],[t,_]=>pj G.tt hp nx t d s K
 | .min,[.one (.l (.i k x)),.one (.l (.i k' y))],_=>bif decide (k=k') then kP nx (.l (.i k (if y<x then y else x))) K else none
 | .max,[.one (.l (.i k x)),.one (.l (.i k' y))],_=>bif decide (k=k') then kP nx (.l (.i k (if y>x then y else x))) K else none
 |_,_,_=>none
def Nr (tt:TT) (t:Nat) (x:LV):Bool:=match x with
 | .b _=>(match tt t with|some ⟨.bool,_,_⟩=>true|_=>false)
 | .er _=>(match tt t with|some ⟨.err,_,_⟩=>true|_=>false)
 |_=>true
def Sf (y:Operand):LV->Bool
 | .er _=>(match y with| .const _=>true|_=>false)
 |_=>true
def gX (G:fe R) (o:Op) (S:Nat->AV) (hp:Nat->Option aq) (nx:Nat) (K:fR->Option R):Option R:=
 let rd:=St.rd G.nt S
 match o with
 | .move x| .assign x=>kP nx (rd x) K
 | .pick c a b=>match rd c with| .one (.l (.b x))=>(match x with|true=>kP nx (rd a) K|false=>kP nx (rd b) K)|_=>none
 | .alloc t=>nJ G.tt nx t K
 | .box t x=>qt G.tt hp nx t (rd x) K
 | .build t ps=>mB G.tt hp nx t (ps.toList.map fun p=>(p.1,rd p.2)) K
 | .buildSlice t n ps=>fa G.tt hp nx t n (ps.toList.map fun p=>(p.1,rd p.2)) K
 | .load t p=>pi G.tt hp nx t (rd p) K
 | .store t p x=>mC G.tt hp nx t (rd p) (rd x) K
 | .nilCheck x=>match rd x with
   | .one (.l (.eJ id k))=>kP nx (.l (.eJ id k)) K
   |_=>none
 | .binOp op t x y _=>match rd x,rd y with
   | .one (.l x'),.one (.l y')=>bif Nr G.tt t x' &&Sf y y' then binOp op x' y' fun v=>kP nx (.l v) K else none
   |_,_=>none
 | .unOp op _ x=>match rd x with
   | .one (.l x)=>unOp op x fun v=>kP nx (.l v) K
   |_=>none
 | .convert a b x=>jP G.tt hp nx a b (rd x) K
 | .makeSlice t l c=>iQ G.tt nx t l c (rd l) K
 | .slice t x lo hi mx=>match mx with|none=>mD G.tt hp nx t (rd x) (lo.map rd) (hi.map rd) K|some _=>none
 | .fieldAddr t x f=>gZ G.tt hp nx t (rd x) f K
 | .indexAddr t x i=>gY G.tt hp nx t (rd x) (rd i) K
 | .index t x i=>qU G.tt nx t (rd x) (rd i) K
 | .extract x j=>match rd x with| .DM xs=>(match xs[j]? with|some y=>kP nx (.one y) K|none=>none)|_=>none
 | .call c=>match c.callee with
   | .builtin b=>jQ G hp nx b c.argTypes.toList (c.args.toList.map rd) K
   | .value f=>match rd f with| .one (.l (.fn f))=>Ls G hp nx f (c.args.toList.map rd) K|_=>none
   | .invoke _ _=>none
 |_=>none
def St.put (S:St) (d:Option Tmp) (v:AV):St:=match d with|none=>S|some d=>{S with sl:=fun j=>bif j==d then v else S.sl j}
def St.y7 (S:St) (d:Option Tmp) (E:fR):St:={sl:=(S.put d E.v).sl,hp:=eA S.hp E.up,nx:=E.nx}
def uP (ops:Array Oper) (j:Nat):Option Tmp:=match ops[j]? with|some o=>o.dst|none=>none
structure HF where
 o:Oper
 w:List Nat
 ids:List Nat
def Sh:LV->List Nat
 | .own id=>[id]
 | .sub id _ _=>[id]
 | .inner id _ _ _=>[id]
 | .eJ id _=>[id]
 | .arr id _=>[id]
 | .oG id _ _=>[id]
 | .wT id _ _ _ _=>[id]
 |_=>[]
def Si:A1->List Nat
 | .l x=>Sh x
 | .agg xs=>xs.flatMap Sh
def UG:AV->List Nat
 | .one x=>Si x
 | .DM xs=>xs.flatMap Si
def BX (rd:Operand->AV) (o:Op):List Nat:=match o with
 | .move _=>[]
 | .assign _=>[]
 | .pick _ _ _=>[]
 | .extract _ _=>[]
 | .nilCheck _=>[]
 | .binOp _ _ _ _ _=>[]
 | .unOp _ _ _=>[]
 |o=>o.operands.toList.flatMap fun x=>UG (rd x)
def cut (hp:Nat->Option aq) (ids:List Nat):Nat->Option aq:=fun j=>bif ids.elem j then hp j else none
def HH (n:Nat) (E:fR):Bool:=Nat.ble n E.nx&&E.up.all fun p=>Nat.blt p.1 E.nx
def writes (n:Nat) (E:fR):List Nat:=E.up.map (·.1)++List.range' n (E.nx-n)
def qP (n:Nat):fR:=⟨.l .undef,[],n,[],[]⟩
def HI (G:fe R) (ops:Array Oper) (draw:Bool) (o:Oper) (S:St) (K:St->HF->Option R):Option R:=
 let exec (S:St):Option R:=gX G o.op S.sl (bif draw then cut S.hp (BX (St.rd G.nt S.sl) o.op) else S.hp) S.nx fun E=>bif HH S.nx E then K (S.y7 o.dst E) ⟨o,writes S.nx E,BX (St.rd G.nt S.sl) o.op⟩ else none
 let skip (S:St):Option R:=K (S.y7 o.dst (qP S.nx)) ⟨o,[],[]⟩
 bif (match o.dst with|some d=>Nat.blt d G.nt|none=>true) then match o.guard with
 |none=>exec S
 |some (j,want)=>match uP ops j with
  |none=>none
  |some t=>bif Nat.blt t G.nt then match S.sl t with
   | .one (.l (.b x))=>(match x with
     |true=>bif want then exec (S.put (some t) (.l (.b true))) else skip (S.put (some t) (.l (.b true)))
     |false=>bif want then skip (S.put (some t) (.l (.b false))) else exec (S.put (some t) (.l (.b false))))
   | .one (.l .undef)=>skip S
   |_=>none
   else none
 else none
def IN (G:fe R) (ops:Array Oper) (draw:Bool):List Oper->St->List HF->(St->List HF->Option R)->Option R
 | [],S,L,K=>K S L
 |o::rest,S,L,K=>HI G ops draw o S fun S l=>IN G ops draw rest S (l::L) K
def uR (acc:List Nat) (o:Oper):Nat:=o.after.toList.foldr (fun e s=>bif Region.binds .any e then (2^e.on ||| (acc[e.on]?.getD 0) ||| s) else s) 0
def lJ:List Nat->List Oper->List Nat
 |acc,[]=>acc
 |acc,o::ops=>lJ (acc++[uR acc o]) ops
def indep (ops:Array Oper) (a b:HF):Bool:=
 a.o.apart ops b.o&&b.o.apart ops a.o&&m_ a.w b.w&&m_ a.w b.ids&&m_ b.w a.ids
def C7 (ops:Array Oper) (bk:Nat) (lk:HF):Nat->List HF->Bool
 |_,[]=>true
 |i,l::ls=>(Nat.testBit bk i||indep ops l lk)&&C7 ops bk lk (i+1) ls
def C6 (ops:Array Oper):List HF->List Nat->List HF->Bool
 |_,_,[]=>true
 |_,[],_=>false
 |done,b::bs,l::ls=>C7 ops b l 0 done&&l.o.after.toList.all (fun e=> !Region.binds .any e||Nat.blt e.on done.length)&&C6 ops (done++[l]) bs ls
def zr (G:fe R) (ops:Array Oper) (draw:Bool) (S:St) (K:St->Option R):Option R:=
 IN G ops draw ops.toList S [] fun S L=>bif draw then (bif C6 ops [] (lJ [] ops.toList) L.reverse then K S else none) else K S
def idx:Nat->List Nat->Option Nat
 |_,[]=>none
 |x,y::l=>bif x==y then some 0 else (match idx x l with|some i=>some (i+1)|none=>none)
def sQ (olds:List Nat) (hp:Nat->Option aq):LV->LV
 | .own id=>match idx id olds with|some j=> .own j|none=> .any
 | .sub id lo hi=>match idx id olds with|some j=> .sub j lo hi|none=> .any
 | .eJ id k=>match idx id olds with|some j=> .eJ j k|none=> .any
 | .oG id i f=>match idx id olds with|some j=> .oG j i f|none=> .any
 | .arr id n=>match idx id olds with|some j=> .arr j n|none=> .any
 | .inner _ _ _ _=> .any
 | .wT _ _ _ _ _=> .any
 |x=>x
def IQ (olds:List Nat) (hp:Nat->Option aq):A1->A1
 | .l x=> .l (sQ olds hp x)
 | .agg xs=> .agg (xs.map (sQ olds hp))
def Od (olds:List Nat) (hp:Nat->Option aq):AV->AV
 | .one x=> .one (IQ olds hp x)
 | .DM xs=> .DM (xs.map (IQ olds hp))
def qR (olds:List Nat) (hp:Nat->Option aq):aq->aq
 | .row _ _ r=> .row 0 0 r
 | .hole _ _ r i f=> .hole 0 0 r i f
 | .box _ cells=> .box 0 (cells.map (sQ olds hp))
 | .dH=> .dH
def LD (l:List (Option aq)) (j:Nat):Option aq:=match l[j]? with|some r=>r|none=>none
def lY (l:List (Nat×AV)) (j:Nat):AV:=match look l j with|some v=>v|none=> .l .any
def pairUp:List Nat->List AV->List (Nat×AV)
 |t::ts,v::vs=>(t,v)::pairUp ts vs
 |_,_=>[]
def cA (live:List Nat) (vs:List AV) (hs:List (Option aq)):St:=⟨lY (pairUp live vs),LD hs,hs.length⟩
def qQ (hp:Nat->Option aq):Nat->LV->List Nat->List Nat
 |d,x,acc=>match (match x with| .own id=>some id| .sub id _ _=>some id| .eJ id _=>some id| .oG id _ _=>some id| .arr id _=>some id|_=>none) with
  |none=>acc
  |some id=>bif acc.elem id then acc else match hp id with
   |none=>acc
   |some (.box _ cells)=>match d with
    |0=>acc++[id]
    |d+1=>cells.foldl (fun acc x=>qQ hp d x acc) (acc++[id])
   |some _=>acc++[id]
def C8 (hp:Nat->Option aq) (x:AV) (acc:List Nat):List Nat:=match x with
 | .one (.l x)=>qQ hp 3 x acc
 | .one (.agg xs)=>xs.foldl (fun acc x=>qQ hp 3 x acc) acc
 | .DM _=>acc
def tJ (live:List Nat) (S:St):List Nat:=live.foldl (fun acc t=>C8 S.hp (S.sl t) acc) []
def pD (live:List Nat) (S:St):List AV:=live.map fun t=>Od (tJ live S) S.hp (S.sl t)
def oK (live:List Nat) (S:St):List (Option aq):=(tJ live S).map fun id=>(S.hp id).map (qR (tJ live S) S.hp)
def yq (hp:Nat->Option aq):LV->Option (LV×Option Nat)
 | .own id=>match hp id with
   |some (.row _ _ r)=>some (.val false r.eb,some id)
   |_=>none
 | .val _ r=>some (.val false r,none)
 |_=>none
def mY (hp:Nat->Option aq):Option Nat->Nat->Option aq
 |some id=>fun j=>bif j==id then none else hp j
 |none=>hp
def Ht (t j:Nat) (S:St):St:=match S.sl t with
 | .one (.agg xs)=>match xs[j]? with
   |some x=>match yq S.hp x with
    |some (y,o)=>⟨fun i=>bif i==t then .one (.agg (xs.set j y)) else S.sl i,mY S.hp o,S.nx⟩
    |none=>S
   |none=>S
 | .one (.l (.eJ id _))=>match S.hp id with
   |some (.box bt cells)=>match cells[j]? with
    |some x=>match yq S.hp x with
     |some (y,o)=>⟨S.sl,fun i=>bif i==id then some (.box bt (cells.set j y)) else mY S.hp o i,S.nx⟩
     |none=>S
    |none=>S
   |_=>S
 |_=>S
def Jt (t:Nat) (S:St):St:=match S.sl t with
 | .one (.l (.own id))=>match S.hp id with
   |some (.row _ _ r)=>⟨fun j=>bif j==t then .one (.l (.val false r.eb)) else S.sl j,fun j=>bif j==id then none else S.hp j,S.nx⟩
   |_=>S
 | .one (.l (.sub id lo hi))=>match S.hp id with
   |some (.row _ _ r)=>⟨fun j=>bif j==t then .one (.l (.val false ((r.eb.take hi).drop lo))) else S.sl j,fun j=>bif j==id then none else S.hp j,S.nx⟩
   |_=>S
 | .one (.l (.val _ r))=>⟨fun j=>bif j==t then .one (.l (.val false r)) else S.sl j,S.hp,S.nx⟩
 | .one (.agg xs)=>(List.range xs.length).foldl (fun S j=>Ht t j S) S
 | .one (.l (.eJ id _))=>match S.hp id with
   |some (.box _ cells)=>(List.range cells.length).foldl (fun S j=>Ht t j S) S
   |_=>S
 |_=>S
def Ld (n:Nat):Row:=match n%8 with
 |0=> .ints .i64 []
 |1=> .ints .u8 []
 |2=> .cx []
 |3=> .strs []
 |4=> .rows true []
 |_=> .cB ((List.range (n/8%64)).map fun i=>Nat.testBit (n/512) i) true []
def ED (t j:Nat) (r:Row) (S:St):St:=match S.sl t with
 | .one (.l .nil)=>⟨fun i=>bif i==t then .one (.l (.own S.nx)) else S.sl i,fun i=>bif i==S.nx then some (.row 0 0 r) else S.hp i,S.nx+1⟩
 | .one (.agg xs)=>match xs[j]? with
   |some .nil=>⟨fun i=>bif i==t then .one (.agg (xs.set j (.own S.nx))) else S.sl i,fun i=>bif i==S.nx then some (.row 0 0 r) else S.hp i,S.nx+1⟩
   |_=>S
 | .one (.l (.eJ id _))=>match S.hp id with
   |some (.box bt cells)=>match cells[j]? with
    |some .nil=>⟨S.sl,fun i=>bif i==id then some (.box bt (cells.set j (.own S.nx))) else bif i==S.nx then some (.row 0 0 r) else S.hp i,S.nx+1⟩
    |_=>S
   |_=>S
 |_=>S
def RR (x:Nat) (S:St):St:=ED (x%4096) (x/4096%64) (Ld (x/262144)) S
def nX (ts:List Nat) (S:St):St:=ts.foldl (fun S t=>bif Nat.blt 999999999 t then RR (t-1000000000) S else Jt t S) S
def fO:Code->Option Nat
 | .region id _ _=>some id
 | .seq a b=>match fO a with|some i=>some i|none=>fO b
 | .cond _ a b=>match fO a with|some i=>some i|none=>fO b
 | .block _ b=>fO b
 | .loop b=>fO b
 |_=>none
def j8 (live:List (Nat×List Nat)) (c:Code):List Nat:=match fO c with|some i=>(look live i).getD []|none=>[]
def Db (live:List (Nat×List Nat)) (c:Code):List Nat:=match fO c with|some i=>(look live (i+100000)).getD []|none=>[]
def pE (live:List (Nat×List Nat)) (c:Code):List Nat:=match fO c with|some i=>(look live (i+200000)).getD []|none=>[]
def zv (live:List (Nat×List Nat)) (c:Code):List Nat:=match fO c with|some i=>(look live (i+300000)).getD []|none=>[]
def LF (live:List Nat) (S:St):St:=cA live (pD live S) (oK live S)
abbrev pJ (R:Type):=Nat->(X->St->Option R)->List AV->List (Option aq)->Option R
def keyOf (c:Code):Nat:=match fO c with|some i=>i|none=>0
def UH (f:(X->St->Option R)->St->Option R) (K:X->St->Option R):X->St->Option R:=fun x S=>match x with| .normal=>f K S|x=>K x S
def LG (id:Nat) (K:X->St->Option R):X->St->Option R:=fun x S=>match x with| .exit j=>(bif j==id then K .normal S else K (.exit j) S)|x=>K x S
def ev (G:fe R) (live:List (Nat×List Nat)) (Λ:pJ R):Code->(X->St->Option R)->St->Option R
 | .skip,K,S=>K .normal S
 | .region _ ops draw,K,S=>zr G ops draw S (K .normal)
 | .seq a b,K,S=>ev G live Λ a (UH (ev G live Λ b) K) S
 | .cond c a b,K,S=>match St.rd G.nt S.sl c with
   | .one (.l (.b x))=>(match x with
     |true=>ev G live Λ a K (match c with| .tmp t=>S.put (some t) (.l (.b true))|_=>S)
     |false=>ev G live Λ b K (match c with| .tmp t=>S.put (some t) (.l (.b false))|_=>S))
   |_=>none
 | .block id body,K,S=>ev G live Λ body (LG id K) S
 | .loop body,K,S=>Λ (keyOf body) K (pD (j8 live body) (nX (pE live body) S)) (oK (j8 live body) (nX (pE live body) S))
 | .exit id,K,S=>K (.exit id) S
 | .ret,K,S=>K .ret S
 |_,_,_=>none
def iter {A:Type} (step:(A->Option R)->A->Option R):Nat->A->Option R
 |0,_=>none
 |n+1,a=>step (iter step n) a
def o9 (tt:TT) (t:Nat) (d:DL) (nx:Nat):Option (LV×List (Nat×Option aq)×Nat):=
 match d with
 | .i k n=>some (.i k n,[],nx)
 | .b x=>some (.b x,[],nx)
 | .s x=>some (.s x,[],nx)
 | .er x=>some (.er x,[],nx)
 | .sl .eb r=>some (.val true r,[],nx)
 | .sl .aZ r=>some (.val false r,[],nx)
 | .sl .own r=>match jd tt t with
   |some e=>some (.own nx,[(nx,some (.row e 0 r))],nx+1)
   |none=>none
def jo (tt:TT):List Nat->List DL->Nat->Option (List LV×List (Nat×Option aq)×Nat)
 | [],[],nx=>some ([],[],nx)
 |t::ts,d::ds,nx=>match o9 tt t d nx with
  |some (x,up,nx)=>match jo tt ts ds nx with
   |some (xs,fh,nx)=>some (x::xs,up++fh,nx)
   |none=>none
  |none=>none
 |_,_,_=>none
def ou (tt:TT) (t:Nat) (d:DV) (nx:Nat):Option (AV×List (Nat×Option aq)×Nat):=
 match d with
 | .l d=>match o9 tt t d nx with|some (x,up,nx)=>some (.l x,up,nx)|none=>none
 | .agg ds=>match jo tt (aA tt depth t) ds nx with|some (xs,up,nx)=>some (.one (.agg xs),up,nx)|none=>none
 | .ptr ds=>match tt t with
   |some ⟨.ptr e,_,_⟩=>match jo tt (aA tt depth e) ds (nx+1) with
    |some (xs,up,nK)=>some (.l (.eJ nx 0),up++[(nx,some (.box e xs))],nK)
    |none=>none
   |_=>none
def fw (tt:TT):List Nat->List DV->Nat->Option (List AV×List (Nat×Option aq)×Nat)
 | [],[],nx=>some ([],[],nx)
 |t::ts,d::ds,nx=>match ou tt t d nx with
  |some (x,up,nx)=>match fw tt ts ds nx with
   |some (xs,fh,nx)=>some (x::xs,up++fh,nx)
   |none=>none
  |none=>none
 |_,_,_=>none
def cY:Nat->List AV->List (Nat×AV)
 |_,[]=>[]
 |i,x::xs=>(i,x)::cY (i+1) xs
def qL (tt:TT) (hp:Nat->Option aq) (oc:kd) (t:Nat) (x:LV):Option (DL×List Nat×List Nat):=
 match x with
 | .i k n=>some (.i k n,[],[])
 | .b x=>some (.b x,[],[])
 | .s x=>some (.s x,[],[])
 | .er x=>some (.er x,[],[])
 | .nil=>match jd tt t with
   |some e=>match cp tt e with
    |some r=>(match oc with| .own=>some (.sl .own r,[],[])|c=>some (.sl c r.eb,[],[]))
    |none=>none
   |none=>none
 | .own id=>match hp id with
   |some (.row _ _ r)=>(match oc with
    | .own=>bif r.owned then some (.sl .own r,[id],[]) else none
    | .eb=>bif r.owned then some (.sl .eb r.eb,[],[id]) else none
    | .aZ=>some (.sl .aZ r.eb,[],[id]))
   |_=>none
 | .sub id lo hi=>match hp id with
   |some (.row _ _ r)=>(match oc with
    | .own=>(bif Nat.beq lo 0&&r.owned then some (.sl .own (r.take hi),[id],[]) else none)
    | .eb=>(bif r.owned then some (.sl .eb ((r.eb.take hi).drop lo),[],[id]) else none)
    |_=>none)
   |_=>none
 | .val p r=>(match oc with| .own=>none| .eb=>(bif p then some (.sl .eb r,[],[]) else none)| .aZ=>some (.sl .aZ r,[],[]))
 |_=>none
def mX (tt:TT) (hp:Nat->Option aq) (oc:kd):List Nat->List LV->Option (List DL×List Nat×List Nat)
 | [],[]=>some ([],[],[])
 |t::ts,x::xs=>match qL tt hp oc t x with
  |some (d,ks,fk)=>match mX tt hp oc ts xs with
   |some (ds,ks',FI)=>some (d::ds,ks++ks',fk++FI)
   |none=>none
  |none=>none
 |_,_=>none
def CP (tt:TT) (hp:Nat->Option aq) (oc:kd) (t:Nat) (x:AV):Option (DV×List Nat×List Nat):=
 match x with
 | .one (.l x)=>match BN x with
  |some id=>match y_ tt hp t id with|some ds=>some (.ptr ds,[id],[])|none=>none
  |none=>match qL tt hp oc t x with|some (d,ks,fk)=>some (.l d,ks,fk)|none=>none
 | .one (.agg xs)=>match mX tt hp oc (aA tt depth t) xs with|some (ds,ks,fk)=>some (.agg ds,ks,fk)|none=>none
 | .DM _=>none
def nE (tt:TT) (hp:Nat->Option aq) (oc:kd):List Nat->List AV->Option (List DV×List Nat×List Nat)
 | [],[]=>some ([],[],[])
 |t::ts,x::xs=>match CP tt hp oc t x with
  |some (d,ks,fk)=>match nE tt hp oc ts xs with
   |some (ds,ks',FI)=>some (d::ds,ks++ks',fk++FI)
   |none=>none
  |none=>none
 |_,_=>none
def kX (tt:TT) (nt:Nat) (S:St):List ResultVar->Option (List AV)
 | []=>some []
 | .tmp t::rs=>bif Nat.blt t nt then (match kX tt nt S rs with|some xs=>some (S.sl t::xs)|none=>none) else none
 | .cell p t::rs=>bif Nat.blt p nt&&cZ tt t then (match S.sl p with
   | .one (.l (.eJ id 0))=>match S.hp id with
     |some (.box _ cells)=>bif cells.length==bh tt t then (match kX tt nt S rs with|some xs=>some (.one (.agg cells)::xs)|none=>none) else none
     |_=>none
   |_=>none) else none
def qe:Nat->List Mode->List Nat->List (Nat×Nat)
 |i,m::ms,t::ts=>(match m with| .io=>[(t,i)]|_=>[])++qe (i+1) ms ts
 |_,_,_=>[]
def finish (tt:TT) (g:pL) (fn:Func) (S:St) (K:List DV->Option R):Option R:=
 match kX tt fn.ntmps S fn.results.toList with
 |none=>none
 |some vs=>match nE tt S.hp g.oc g.results vs with
  |none=>none
  |some (ds,ks,fk)=>
   let VG:=qe fn.ntmps g.gj g.params
   match nE tt S.hp .own (VG.map (·.1)) (VG.map fun p=>S.sl p.2) with
   |none=>none
   |some (tX,ks',FI)=>bif zc (ks++ks' ++(fk++FI)) then K (ds++tX) else none
def IS (live:List (Nat×List Nat)):Bool:=match look live 400000 with|some _=>true|none=>false
def qS (Mm:Bool) (tt:TT) (g:pL) (fn:Func) (S:St) (K:List DV->Option R):Option R:=bif Mm then (match finish (R:=List DV) tt (g.to .own) fn S some with
 |some rs=>K rs
 |none=>finish tt g fn S K) else finish tt g fn S K
def Hn (G:fe R) (live:List (Nat×List Nat)) (Λ:pJ R) (g:pL) (fn:Func) (ds:List DV) (K:List DV->Option R):Option R:=
 match fw G.tt g.params ds 0,fn.body with
 |some (xs,up,nx),some body=>
  ev G live Λ body (fun x S=>match x with
   | .exit _=>none
   |_=>qS (IS live) G.tt g fn S K) ⟨lY (bif pP g.gj then cY 0 xs else cY 0 xs++cY fn.ntmps xs),eA (fun _=>none) up,nx⟩
 |_,_=>none
def Of (vs:List AV) (K:AV->List AV->Option R):Option R:=match vs with|v::vs=>K v vs|_=>none
def Sj (vs:List AV) (K:Option R):Option R:=match vs with| []=>K|_=>none
def Og (hs:List (Option aq)) (K:Option aq->List (Option aq)->Option R):Option R:=match hs with|r::hs=>K r hs|_=>none
def Sk (hs:List (Option aq)) (K:Option R):Option R:=match hs with| []=>K|_=>none
def vL (v:AV) (K:LV->Option R):Option R:=match v with| .one (.l x)=>K x|_=>none
def Pf (v:AV) (K:List LV->Option R):Option R:=match v with| .one (.agg x)=>K x|_=>none
def Oh (xs:List LV) (K:LV->List LV->Option R):Option R:=match xs with|x::xs=>K x xs|_=>none
def Sl (xs:List LV) (K:Option R):Option R:=match xs with| []=>K|_=>none
def lI (k:IntKind) (x:LV) (K:Int->Option R):Option R:=match x with| .i k' n=>(bif decide (k=k') then K n else none)|_=>none
def lB (x:LV) (K:Bool->Option R):Option R:=match x with| .b b=>K b|_=>none
def lS (x:LV) (K:ByteArray->Option R):Option R:=match x with| .s s=>K s|_=>none
def lE (x:LV) (K:Bool->Option R):Option R:=match x with| .er b=>K b|_=>none
def Pg (id:Nat) (x:LV) (K:Option R):Option R:=match x with| .own j=>(bif j==id then K else none)|_=>none
def Ph (id:Nat) (x:LV) (K:Nat->Nat->Option R):Option R:=match x with| .sub j lo hi=>(bif j==id then K lo hi else none)|_=>none
def Pj (id k:Nat) (x:LV) (K:Option R):Option R:=match x with| .eJ j k'=>(bif j==id&&k' ==k then K else none)|_=>none
def Pk (id n:Nat) (x:LV) (K:Option R):Option R:=match x with| .arr j m=>(bif j==id&&m==n then K else none)|_=>none
def Pm (x:LV) (K:Option R):Option R:=match x with| .any=>K|_=>none
def LJ (x:LV) (K:Option R):Option R:=match x with| .nil=>K|_=>none
def Pn (p:Bool) (x:LV) (K:Row->Option R):Option R:=match x with| .val p' r=>(bif p' ==p then K r else none)|_=>none
def HL (k:IntKind) (r:Row) (K:List Int->Option R):Option R:=match r with| .ints k' l=>(bif decide (k=k') then K l else none)|_=>none
def Dh (r:Row) (K:List Bool->Option R):Option R:=match r with| .cx l=>K l|_=>none
def HM (r:Row) (K:List ByteArray->Option R):Option R:=match r with| .strs l=>K l|_=>none
def HN (o:Bool) (r:Row) (K:List (List Int)->Option R):Option R:=match r with| .rows o' l=>(bif o' ==o then K l else none)|_=>none
def HO (sg:List Bool) (o:Bool) (r:Row) (K:List (List jC)->Option R):Option R:=match r with| .cB Oe o' l=>(bif Oe==sg&&o' ==o then K l else none)|_=>none
def Po (x:Option aq) (K:Row->Option R):Option R:=match x with|some (.row 0 0 r)=>K r|_=>none
def Pp (x:Option aq) (K:List LV->Option R):Option R:=match x with|some (.box 0 cells)=>K cells|_=>none
end
end Go.Proofs.YtbmmhdmljajcfaaGreatDoor.V
