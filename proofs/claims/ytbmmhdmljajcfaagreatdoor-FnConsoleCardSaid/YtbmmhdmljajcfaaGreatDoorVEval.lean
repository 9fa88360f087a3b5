/- The abstract evaluator and its soundness: part VEval. Conditions: as each section says. -/
import Derived.Below
import Derived.OwnWalk
import Derived.KernelRfl
import Derived.Orders
set_option linter.unusedVariables false
set_option linter.unusedSimpArgs false
namespace Go.Proofs.YtbmmhdmljajcfaaGreatDoor.V
open Go
inductive TK where
 |int (k:IntKind)|bool|str|slice (e:Nat)|struct (fs:List (Nat×Nat))|array (n e:Nat)|ptr (e:Nat)|err|other
structure TE where
 k:TK
 size:Nat
 bytes:Nat
def look {α:Type}:List (Nat×α)->Nat->Option α
 | [],_=>none
 | (j,x)::l,i=>bif j==i then some x else look l i
abbrev TT:=Nat->Option TE
abbrev LI:=List Int
abbrev LL:=List (List Int)
abbrev t2 {A B C:Type} (r:A×B×C):C:=r.2.2
abbrev t3 {A B C D:Type} (r:A×B×C×D):D:=r.2.2.2
abbrev t4 {A B C D E:Type} (r:A×B×C×D×E):E:=r.2.2.2.2
abbrev t5 {A B C D E F:Type} (r:A×B×C×D×E×F):F:=r.2.2.2.2.2
abbrev t6 {A B C D E F G:Type} (r:A×B×C×D×E×F×G):G:=r.2.2.2.2.2.2
abbrev t7 {A B C D E F G H:Type} (r:A×B×C×D×E×F×G×H):H:=r.2.2.2.2.2.2.2
abbrev t8 {A B C D E F G H I:Type} (r:A×B×C×D×E×F×G×H×I):I:=r.2.2.2.2.2.2.2.2
abbrev t9 {A B C D E F G H I J:Type} (r:A×B×C×D×E×F×G×H×I×J):J:=r.2.2.2.2.2.2.2.2.2
inductive gR where
 |int (n:Int)|ints (l:List Int)
def gi (r:List gR) (f:Nat):Int:=match r[f]? with|some (.int n)=>n|_=>0
def gl (r:List gR) (f:Nat):List Int:=match r[f]? with|some (.ints l)=>l|_=>[]
inductive Row where
 |ints (k:IntKind) (l:List Int)
 |du (l:List Bool)
 |strs (l:List ByteArray)
 |rows (own:Bool) (l:List (List Int))
 |dw (sg:List Bool) (own:Bool) (l:List (List gR))
def Row.len:Row->Nat
 | .ints _ l=>l.length
 | .du l=>l.length
 | .strs l=>l.length
 | .rows _ l=>l.length
 | .dw _ _ l=>l.length
def Row.size:Row->Nat
 | .dw sg _ _=>sg.length
 |_=>1
inductive Cell where
 |sc (v:Value)|sl (own:Bool) (l:List Int)|free
def bD (own:Bool) (r:List gR):Nat->List Bool->List Cell
 |_,[]=>[]
 |f,true::sg=> .sl own (gl r f)::bD own r (f+1) sg
 |f,false::sg=> .sc (.int .i64 (gi r f))::bD own r (f+1) sg
def Row.cells:Row->List Cell
 | .ints k l=>l.map fun n=> .sc (.int k n)
 | .du l=>l.map fun x=> .sc (.bool x)
 | .strs l=>l.map fun x=> .sc (.string x)
 | .rows own l=>l.map fun x=> .sl own x
 | .dw sg own l=>l.flatMap fun r=>bD own r 0 sg
def Row.fL:Row->Row
 | .rows _ l=> .rows false l
 | .dw sg _ l=> .dw sg false l
 |r=>r
def Row.take (n:Nat):Row->Row
 | .ints k l=> .ints k (l.take n)
 | .du l=> .du (l.take n)
 | .strs l=> .strs (l.take n)
 | .rows own l=> .rows own (l.take n)
 | .dw sg own l=> .dw sg own (l.take n)
def Row.drop (n:Nat):Row->Row
 | .ints k l=> .ints k (l.drop n)
 | .du l=> .du (l.drop n)
 | .strs l=> .strs (l.drop n)
 | .rows own l=> .rows own (l.drop n)
 | .dw sg own l=> .dw sg own (l.drop n)
def Row.qC:Row->Bool
 | .dw _ _ _=>true
 |_=>false
def Row.deep:Row->Bool
 | .rows _ _=>true
 | .dw _ _ _=>true
 |_=>false
def Row.owned:Row->Bool
 | .rows own _=>own
 | .dw _ own _=>own
 |_=>true
inductive LV where
 |any|undef
 |i (k:IntKind) (n:Int)|b (x:Bool)|s (x:ByteArray)
 |nil
 |val (p:Bool) (r:Row)
 |own (id:Nat)
 |sub (id lo hi:Nat)
 |inner (id ver i f:Nat)
 |fP (id k:Nat)
 |arr (id n:Nat)
 |q_ (id i f:Nat)
 |Gb (p:Bool) (r:Row) (i f:Nat)
 |zd (id ver i f j:Nat)
 |er (isNil:Bool)
 |fn (f:Nat)
inductive A1 where
 |l (x:LV)|agg (xs:List LV)
inductive AV where
 |one (x:A1)|G4 (xs:List A1)
abbrev AV.l (x:LV):AV:= .one (.l x)
inductive aw where
 |row (e ver:Nat) (r:Row)
 |hole (e ver:Nat) (r:Row) (i f:Nat)
 |box (t:Nat) (cells:List LV)
 |eW
structure St where
 sl:Nat->AV
 hp:Nat->Option aw
 nx:Nat
inductive X where
 |normal|exit (id:Nat)|ret
inductive lO where
 |own|fL|aS
 deriving DecidableEq
inductive DL where
 |i (k:IntKind) (n:Int)|b (x:Bool)|s (x:ByteArray)
 |sl (c:lO) (r:Row)
 |er (isNil:Bool)
inductive DV where
 |l (x:DL)|agg (xs:List DL)|ptr (xs:List DL)
inductive Mode where
 |mS|DD|io|fL
 deriving DecidableEq
structure iy where
 v:AV
 up:List (Nat×Option aw)
 nx:Nat
 rl:List Nat
 rc:List Nat
section
variable {R:Type}
def ay (p:Bool) (x:Option R):Option R:=bif p then x else none
abbrev Ux (R:Type):=FuncId->List DV->(List DV->Option R)->Option R
def aK (tt:TT):Nat->Nat->List Nat
 |0,t=>[t]
 |d+1,t=>match tt t with
  |some ⟨.struct fs,_,_⟩=>fs.flatMap fun f=>aK tt d f.2
  |_=>[t]
def depth:Nat:=6
def zh (tt:TT) (t:Nat):Bool:=match tt t with|some ⟨.slice _,_,_⟩=>true|_=>false
def tU (tt:TT) (t:Nat):Bool:=match tt t with|some ⟨.slice _,_,_⟩=>true|some ⟨.int k,_,_⟩=>decide (k= .i64)|_=>false
def di (tt:TT) (e:Nat):Option Row:=match tt e with
 |some ⟨.int k,_,_⟩=>some (.ints k [])
 |some ⟨.bool,_,_⟩=>some (.du [])
 |some ⟨.str,_,_⟩=>some (.strs [])
 |some ⟨.slice _,_,_⟩=>some (.rows true [])
 |some ⟨.struct _,_,_⟩=>bif (aK tt depth e).all (tU tt) then some (.dw ((aK tt depth e).map (zh tt)) true []) else none
 |_=>none
def ol (tt:TT) (t:Nat):LV:=match tt t with
 |some ⟨.int k,_,_⟩=> .i k 0
 |some ⟨.bool,_,_⟩=> .b false
 |some ⟨.str,_,_⟩=> .s ByteArray.empty
 |some ⟨.slice _,_,_⟩=> .nil
 |some ⟨.err,_,_⟩=> .er true
 |_=> .any
def xL:Bool->gR
 |true=> .ints []
 |false=> .int 0
def gM (n:Nat):Row->Row
 | .ints k _=> .ints k (List.replicate n 0)
 | .du _=> .du (List.replicate n false)
 | .strs _=> .strs (List.replicate n ByteArray.empty)
 | .rows _ _=> .rows true (List.replicate n [])
 | .dw sg _ _=> .dw sg true (List.replicate n (sg.map xL))
def Gp:Value->LV
 | .int k n=> .i k n
 | .bool x=> .b x
 | .string x=> .s x
 | .slice none 0 0=> .nil
 | .nilIface=> .er true
 |_=> .any
def St.rd (nt:Nat) (S:Nat->AV):Operand->AV
 | .tmp t=>bif Nat.blt t nt then S t else .l .any
 | .const v=> .l (Gp v)
 | .func f=> .l (.fn f)
 | .global _=> .l .any
def ib (hp:Nat->Option aw):LV->Option (Row×List Nat)
 | .val _ r=>some (r,[])
 | .own id=>match hp id with|some (.row _ _ r)=>some (r.fL,[id])|_=>none
 | .sub id lo hi=>match hp id with|some (.row _ _ r)=>some (((r.fL).take hi).drop lo,[id])|_=>none
 | .inner id ver i f=>match hp id with
   |some (.row _ v (.rows _ l))=>bif v==ver then some (.ints .i64 (l.getD i []),[id]) else none
   |some (.row _ v (.dw _ _ l))=>bif v==ver then some (.ints .i64 (gl (l.getD i []) f),[id]) else none
   |_=>none
 |_=>none
def kE (hp:Nat->Option aw) (id:Nat):Option Row:=match hp id with
 |some (.row _ _ r)=>some r
 |some (.hole _ _ r _ _)=>some r
 |_=>none
def lenOf (hp:Nat->Option aw):LV->Option (Nat×List Nat×List Nat)
 | .nil=>some (0,[],[])
 | .val _ r=>some (r.len,[],[])
 | .own id=>match kE hp id with|some r=>some (r.len,[id],[])|none=>none
 | .sub id lo hi=>match kE hp id with|some r=>some (hi-lo,[id],[])|none=>none
 | .inner id ver i f=>match hp id with
   |some (.row _ v (.rows _ l))=>bif v==ver then some ((l.getD i []).length,[],[id]) else none
   |some (.row _ v (.dw _ _ l))=>bif v==ver then some ((gl (l.getD i []) f).length,[],[id]) else none
   |_=>none
 |_=>none
def storable (hp:Nat->Option aw):LV->Bool
 | .any=>false
 | .undef=>false
 | .own id=>(kE hp id).isSome
 | .sub id _ _=>(kE hp id).isSome
 | .q_ id _ _=>(kE hp id).isSome
 | .arr id _=>(kE hp id).isSome
 | .inner id ver _ _=>(match hp id with|some (.row _ v _)=>v==ver|_=>false)
 | .zd id ver _ _ _=>(match hp id with|some (.row _ v _)=>v==ver|_=>false)
 |_=>true
def nf (hp:Nat->Option aw):AV->Option (List LV)
 | .one (.l x)=>bif storable hp x then some [x] else none
 | .one (.agg xs)=>bif xs.all (storable hp) then some xs else none
 | .G4 _=>none
def sD (op:BinOp) (k:IntKind) (x y:Int):Int:=
 let a:=BitVec.ofInt k.bits x
 let b:=BitVec.ofInt k.bits y
 match op with
 | .and=>k.wrap (a &&& b).toNat
 | .or=>k.wrap (a ||| b).toNat
 | .xor=>k.wrap (a ^^^ b).toNat
 |_=>k.wrap (a &&& ~~~b).toNat
def fa:Nat:=9223372036854775807
def room:Nat:=140737488355328
def binOp (op:BinOp) (x y:LV) (K:LV->Option R):Option R:=
 match op,x,y with
 | .shl,.i k a,.i _ b=>ay (decide (0<=b)) (K (.i k (k.wrap (a*2^(min b.toNat k.bits)))))
 | .shr,.i k a,.i _ b=>ay (decide (0<=b)) (K (.i k (a.fdiv (2^(min b.toNat k.bits)))))
 |_,.i k a,.i k' b=>
  bif decide (k=k') then
   match op with
   | .add=>K (.i k (k.wrap (a+b)))
   | .sub=>K (.i k (k.wrap (a-b)))
   | .mul=>K (.i k (k.wrap (a*b)))
   | .quo=>ay (!decide (b=0)) (K (.i k (k.wrap (a.tdiv b))))
   | .rem=>ay (!decide (b=0)) (K (.i k (a.tmod b)))
   | .eql=>K (.b (a==b))
   | .neq=>K (.b (a != b))
   | .lss=>K (.b (decide (a<b)))
   | .leq=>K (.b (decide (a<=b)))
   | .gtr=>K (.b (decide (a>b)))
   | .geq=>K (.b (decide (a>=b)))
   | .and| .or| .xor| .andNot=>K (.i k (sD op k a b))
   |_=>none
  else none
 | .add,.s a,.s b=>ay (decide (a.size+b.size<=fa)) (K (.s (a++b)))
 | .eql,.s a,.s b=>K (.b (a.toList==b.toList))
 | .neq,.s a,.s b=>K (.b !(a.toList==b.toList))
 | .eql,.b a,.b b=>K (.b (a==b))
 | .neq,.b a,.b b=>K (.b !(a==b))
 | .eql,.er a,.er true=>K (.b a)
 | .neq,.er a,.er true=>K (.b !a)
 |_,_,_=>none
def unOp (op:UnOp) (x:LV) (K:LV->Option R):Option R:=
 match op,x with
 | .neg,.i k n=>K (.i k (k.wrap (0-n)))
 | .not,.b x=>K (.b !x)
 |_,_=>none
end
def qD (hp:Nat->Option aw):LV->Option (Bool×List Int×List Nat)
 | .nil=>some (true,[],[])
 | .val _ (.ints .i64 l)=>some (false,l,[])
 | .own id=>match hp id with|some (.row _ _ (.ints .i64 l))=>some (true,l,[id])|_=>none
 | .sub id 0 hi=>match hp id with|some (.row _ _ (.ints .i64 l))=>some (true,l.take hi,[id])|_=>none
 |_=>none
def kill (hp:Nat->Option aw) (ids:List Nat):Nat->Option aw:=fun j=>bif ids.elem j then none else hp j
def ig (hp:Nat->Option aw):List Bool->List LV->Option (Bool×List gR×List Nat)
 | [],[]=>some (true,[],[])
 |false::sg,.i .i64 n::xs=>match ig hp sg xs with
  |some (o,r,ks)=>some (o,.int n::r,ks)
  |none=>none
 |true::sg,x::xs=>match qD hp x with
  |some (o,l,ks)=>match ig (kill hp ks) sg xs with
   |some (o',r,ks')=>some (o&&o',.ints l::r,ks++ks')
   |none=>none
  |none=>none
 |_,_=>none
def rowOf (hp:Nat->Option aw):Row->List AV->Option (Row×List Nat)
 |r,[]=>some (r,[])
 | .ints k _,.one (.l (.i k' n))::xs=>bif decide (k=k') then
  match rowOf hp (.ints k []) xs with|some (.ints _ l,ks)=>some (.ints k (n::l),ks)|_=>none else none
 | .du _,.one (.l (.b x))::xs=>match rowOf hp (.du []) xs with|some (.du l,ks)=>some (.du (x::l),ks)|_=>none
 | .strs _,.one (.l (.s x))::xs=>match rowOf hp (.strs []) xs with|some (.strs l,ks)=>some (.strs (x::l),ks)|_=>none
 | .rows _ _,.one (.l x)::xs=>match qD hp x with
   |some (o,y,ks)=>match rowOf (kill hp ks) (.rows true []) xs with
    |some (.rows o' l,ks')=>some (.rows (o&&o') (y::l),ks++ks')
    |_=>none
   |none=>none
 | .dw sg _ _,.one (.agg x)::xs=>match ig hp sg x with
   |some (o,y,ks)=>match rowOf (kill hp ks) (.dw sg true []) xs with
    |some (.dw _ o' l,ks')=>some (.dw sg (o&&o') (y::l),ks++ks')
    |_=>none
   |none=>none
 |_,_=>none
def dJ (ids:List Nat):List (Nat×Option aw):=ids.map fun j=>(j,none)
def Row.Df:Row->Row->Option Row
 | .ints k l,.ints k' l'=>bif decide (k=k') then some (.ints k (l++l')) else none
 | .du l,.du l'=>some (.du (l++l'))
 | .strs l,.strs l'=>some (.strs (l++l'))
 | .rows o l,.rows o' l'=>some (.rows (o&&o') (l++l'))
 | .dw sg o l,.dw SQ o' l'=>bif sg==SQ then some (.dw sg (o&&o') (l++l')) else none
 |_,_=>none
def lm (l:List LV) (k:Nat):List LV->List LV
 | []=>l
 |x::xs=>lm (l.set k x) (k+1) xs
def Gq (l:List LV) (k:Nat) (xs:List LV):List LV:=bif Nat.beq k 0&&Nat.beq xs.length l.length then xs else lm l k xs
def Gr (id ver i:Nat):Row->(f:Nat)->Bool->AV
 | .ints k l,_,_=> .l (.i k (l.getD i 0))
 | .du l,_,_=> .l (.b (l.getD i false))
 | .strs l,_,_=> .l (.s (l.getD i ByteArray.empty))
 | .rows _ _,_,_=> .l (.inner id ver i 0)
 | .dw sg _ l,f,agg=>bif agg then .one (.agg (sg.zipIdx.map fun (b,f)=>bif b then .inner id ver i f else .i .i64 (gi (l.getD i []) f)))
   else match sg[f]? with
    |some true=> .l (.inner id ver i f)
    |some false=> .l (.i .i64 (gi (l.getD i []) f))
    |none=> .l .any
def Gt (p:Bool) (i:Nat):Row->(f:Nat)->Bool->AV
 | .ints k l,_,_=> .l (.i k (l.getD i 0))
 | .du l,_,_=> .l (.b (l.getD i false))
 | .strs l,_,_=> .l (.s (l.getD i ByteArray.empty))
 | .rows _ l,_,_=> .l (.val p (.ints .i64 (l.getD i [])))
 | .dw sg _ l,f,agg=>bif agg then .one (.agg (sg.zipIdx.map fun (b,f)=>bif b then .val p (.ints .i64 (gl (l.getD i []) f)) else .i .i64 (gi (l.getD i []) f)))
   else match sg[f]? with
    |some true=> .l (.val p (.ints .i64 (gl (l.getD i []) f)))
    |some false=> .l (.i .i64 (gi (l.getD i []) f))
    |none=> .l .any
def uQ (sg:List Bool) (r:List gR) (f:Nat) (x:gR):List gR:=sg.zipIdx.map fun (b,g)=>bif g==f then x else bif b then .ints (gl r g) else .int (gi r g)
def lR (hp:Nat->Option aw) (agg:Bool) (i:Nat) (f:Nat) (x:AV):Row->Option (Row×List Nat×Bool)
 | .ints k l=>match x with| .one (.l (.i k' n))=>bif decide (k=k') then some (.ints k (l.set i n),[],false) else none|_=>none
 | .du l=>match x with| .one (.l (.b n))=>some (.du (l.set i n),[],false)|_=>none
 | .strs l=>match x with| .one (.l (.s n))=>some (.strs (l.set i n),[],false)|_=>none
 | .rows o l=>match x with
   | .one (.l x)=>match qD hp x with|some (o',y,ks)=>some (.rows (o&&o') (l.set i y),ks,true)|none=>none
   |_=>none
 | .dw sg o l=>match x with
   | .one (.agg xs)=>bif agg then (match ig hp sg xs with|some (o',y,ks)=>some (.dw sg (o&&o') (l.set i y),ks,true)|none=>none) else none
   | .one (.l (.i .i64 n))=>bif agg then none else (match sg[f]? with|some false=>some (.dw sg o (l.set i (uQ sg (l.getD i []) f (.int n))),[],true)|_=>none)
   |_=>none
def ID (i j:Nat) (n:Int):Row->Option Row
 | .rows true l=>some (.rows true (l.set i ((l.getD i []).set j n)))
 |_=>none
def eB (r:Row) (i f:Nat):List Int:=match r with
 | .rows _ l=>l.getD i []
 | .dw _ _ l=>gl (l.getD i []) f
 |_=>[]
def oe (i f:Nat) (y:List Int):Row->Option Row
 | .rows true l=>some (.rows true (l.set i y))
 | .dw sg true l=>match sg[f]? with|some true=>some (.dw sg true (l.set i (uQ sg (l.getD i []) f (.ints y))))|_=>none
 |_=>none
def strOf (l:List Int):ByteArray:=⟨(l.map fun n=>UInt8.ofNat n.toNat).toArray⟩
def sb (s:ByteArray) (i:Nat):Int:=((s.data[i]?).getD 0).toNat
def eg (tt:TT) (t:Nat):Bool:=match tt t with|some ⟨.struct _,_,_⟩=>true|_=>false
def kB (tt:TT) (t:Nat):Option Nat:=match tt t with|some ⟨.slice e,_,_⟩=>some e|_=>none
def bytesOf (tt:TT) (t:Nat):Nat:=match tt t with|some e=>e.bytes|none=>0
def bz (tt:TT) (t:Nat):Nat:=match tt t with|some e=>e.size|none=>0
def dT (tt:TT) (t:Nat):Bool:=match tt t with
 |some ⟨.int _,_,_⟩=>true
 |some ⟨.bool,_,_⟩=>true
 |some ⟨.str,_,_⟩=>true
 |some ⟨.slice _,_,_⟩=>true
 |some ⟨.ptr _,_,_⟩=>true
 |some ⟨.err,_,_⟩=>true
 |_=>false
def Ck (tt:TT) (t:Nat):Nat:=match tt t with|some ⟨.slice e,_,_⟩=>bz tt e|_=>0
def Nr (tt:TT) (t:Nat) (r:Row):Bool:=Ck tt t==r.size&&Nat.blt 0 r.size
section
variable {R:Type}
def mM (nx:Nat) (v:AV) (K:iy->Option R):Option R:=K ⟨v,[],nx,[],[]⟩
def Kr (x:AV) (K:Int->Option R):Option R:=match x with| .one (.l (.i _ n))=>K n|_=>none
def p_ (tt:TT) (nx:Nat) (t:Nat) (K:iy->Option R):Option R:=
 match tt t with
 |some ⟨.struct _,_,_⟩=>K ⟨.l (.fP nx 0),[(nx,some (.box t ((aK tt depth t).map (ol tt))))],nx+1,[],[]⟩
 |some ⟨.array n e,_,_⟩=>match di tt e with
  |some r=>bif Nat.blt 0 n&&r.size==1&& !r.deep then K ⟨.l (.arr nx n),[(nx,some (.row t 0 (gM n r)))],nx+1,[],[]⟩ else none
  |none=>none
 |some _=>bif dT tt t then K ⟨.l (.fP nx 0),[(nx,some (.box t [ol tt t]))],nx+1,[],[]⟩ else none
 |none=>none
def tV (tt:TT) (hp:Nat->Option aw) (nx:Nat) (t:Nat) (x:AV) (K:iy->Option R):Option R:=
 match tt t with
 |some ⟨.array _ _,_,_⟩=>none
 |some e=>match nf hp x with
  |some xs=>K ⟨.l (.fP nx 0),[(nx,some (.box t xs))],nx+1,[],[]⟩
  |none=>none
 |none=>none
def mE (tt:TT) (hp:Nat->Option aw) (fs:List (Nat×Nat)) (zero:List LV):List (Nat×AV)->Option (List LV)
 | []=>some zero
 | (i,x)::ps=>match fs[i]?,nf hp x with
   |some (off,ft),some xs=>match tt ft with
    |some e=>bif xs.length==e.size&&Nat.ble (off+xs.length) zero.length then mE tt hp fs (lm zero off xs) ps else none
    |none=>none
   |_,_=>none
def oI (tt:TT) (hp:Nat->Option aw) (nx:Nat) (t:Nat) (parts:List (Nat×AV)) (K:iy->Option R):Option R:=
 match tt t with
 |some ⟨.struct fs,_,_⟩=>match mE tt hp fs ((aK tt depth t).map (ol tt)) parts with
  |some xs=>mM nx (.one (.agg xs)) K
  |none=>none
 |some ⟨.array n e,_,_⟩=>match parts,tt e with
  | [],some _=>mM nx (.one (.agg (List.replicate n (ol tt e)))) K
  |_,_=>none
 |_=>none
def xM:Nat->List (Nat×AV)->Option (List AV)
 |_,[]=>some []
 |i,(j,x)::ps=>bif i==j then (match xM (i+1) ps with|some xs=>some (x::xs)|none=>none) else none
def gN (tt:TT) (hp:Nat->Option aw) (nx:Nat) (t len:Nat) (parts:List (Nat×AV)) (K:iy->Option R):Option R:=
 match kB tt t with
 |some e=>match di tt e,xM 0 parts with
  |some r0,some xs=>bif xs.length==len&&Nat.ble (len*r0.size) 16777216 then (match rowOf hp r0 xs with
   |some (r,ks)=>K ⟨.l (.own nx),dJ ks++[(nx,some (.row e 0 r))],nx+1,[],ks⟩
   |none=>none) else none
  |_,_=>none
 |none=>none
def sj (tt:TT) (hp:Nat->Option aw) (nx:Nat) (t:Nat) (p:AV) (K:iy->Option R):Option R:=
 match p with
 | .one (.l (.fP id k))=>match hp id with
   |some (.box _ cells)=>bif eg tt t then (bif Nat.ble (k+bz tt t) cells.length then K ⟨.one (.agg ((cells.drop k).take (bz tt t))),[],nx,[],[id]⟩ else none)
    else bif dT tt t then (match cells[k]? with|some x=>K ⟨.l x,[],nx,[],[id]⟩|none=>none) else none
   |_=>none
 | .one (.l (.q_ id i f))=>match hp id with
   |some (.row _ ver r)=>bif (bif eg tt t then bz tt t==r.size&&f==0&&r.qC else dT tt t&&Nat.blt f r.size) then K ⟨Gr id ver i r f (eg tt t),[],nx,[],[id]⟩ else none
   |_=>none
 | .one (.l (.Gb p r i f))=>bif (bif eg tt t then bz tt t==r.size&&f==0&&r.qC else dT tt t&&Nat.blt f r.size) then mM nx (Gt p i r f (eg tt t)) K else none
 | .one (.l (.zd id ver i f j))=>match hp id with
   |some (.row _ v r)=>bif v==ver&&dT tt t then K ⟨.l (.i .i64 ((eB r i f).getD j 0)),[],nx,[],[id]⟩ else none
   |_=>none
 |_=>none
def Qe (r:Row) (xs:List LV):Option Row:=match rowOf (fun _=>none) r (xs.map fun x=> .l x) with|some (r,[])=>some r|_=>none
def oJ (tt:TT) (hp:Nat->Option aw) (nx:Nat) (t:Nat) (p x:AV) (K:iy->Option R):Option R:=
 match p with
 | .one (.l (.fP id k))=>match hp id,nf hp x with
   |some (.box bt cells),some xs=>bif xs.length==bz tt t&&Nat.blt 0 xs.length then (bif decide (k+xs.length<=cells.length) then
    K ⟨.l .undef,[(id,some (.box bt (Gq cells k xs)))],nx,[],[id]⟩ else none) else none
   |_,_=>none
 | .one (.l (.q_ id i f))=>match tt t with
   |some e=>match hp id with
    |some (.row bt ver r)=>bif (bif eg tt t then e.size==r.size&&f==0&&r.qC else dT tt t&&Nat.blt f r.size) then match lR hp (eg tt t) i f x r with
     |some (r',ks,bump)=>bif ks.elem id then none else K ⟨.l .undef,dJ ks++[(id,some (.row bt (bif bump then ver+1 else ver) r'))],nx,[],id::ks⟩
     |none=>none
     else none
    |some (.hole bt ver (.rows true l) i' f')=>bif f==0&&dT tt t then ay (i==i') (match x with
     | .one (.l x)=>match qD hp x with
       |some (true,y,ks)=>bif ks.elem id then none else K ⟨.l .undef,dJ ks++[(id,some (.row bt (ver+1) (.rows true (l.set i y))))],nx,[],id::ks⟩
       |_=>none
     |_=>none) else none
    |_=>none
   |none=>none
 | .one (.l (.arr id m))=>match tt t with
   |some ⟨.array n e,_,_⟩=>match hp id,x,di tt e with
    |some (.row bt ver r),.one (.agg xs),some r0=>bif xs.length==n&&m==n&&r0.size==1&& !r0.deep&&r.size==1&& !r.deep&&bz tt t==n&&Nat.blt 0 n then (match Qe r0 xs with
     |some r'=>K ⟨.l .undef,[(id,some (.row bt (ver+1) r'))],nx,[],[id]⟩
     |none=>none) else none
    |_,_,_=>none
   |_=>none
 | .one (.l (.zd id ver i f j))=>match hp id,x with
   |some (.row bt v r),.one (.l (.i .i64 n))=>bif v==ver&&dT tt t then (match ID i j n r with
    |some r'=>K ⟨.l .undef,[(id,some (.row bt v r'))],nx,[],[id]⟩
    |none=>none) else none
   |_,_=>none
 |_=>none
def jB (tt:TT) (hp:Nat->Option aw) (nx:Nat) (t:Nat) (x ix:AV) (K:iy->Option R):Option R:=
 Kr ix fun i=>match x with
 | .one (.l (.own id))=>match kE hp id with
   |some r=>bif Nr tt t r then ay (decide (0<=i)&&decide (i<r.len)) (K ⟨.l (.q_ id i.toNat 0),[],nx,[id],[]⟩) else none
   |none=>none
 | .one (.l (.sub id lo hi))=>match kE hp id with
   |some r=>bif Nr tt t r then ay (decide (0<=i)&&decide (i<((hi-lo:Nat):Int))) (K ⟨.l (.q_ id (lo+i.toNat) 0),[],nx,[id],[]⟩) else none
   |none=>none
 | .one (.l (.val p r))=>bif Nr tt t r then ay (decide (0<=i)&&decide (i<r.len)) (mM nx (.l (.Gb p r i.toNat 0)) K) else none
 | .one (.l (.inner id ver e f))=>match lenOf hp (.inner id ver e f) with
   |some (n,rl,rc)=>bif Ck tt t==1 then ay (decide (0<=i)&&decide (i<n)) (K ⟨.l (.zd id ver e f i.toNat),[],nx,rl,rc⟩) else none
   |none=>none
 | .one (.l (.arr id n))=>match tt t,kE hp id with
   |some ⟨.array m e,_,_⟩,some r=>bif m==n&&bz tt e==r.size&&Nat.blt 0 r.size then ay (decide (0<=i)&&decide (i<n)) (K ⟨.l (.q_ id i.toNat 0),[],nx,[id],[]⟩) else none
   |_,_=>none
 |_=>none
def jC (tt:TT) (hp:Nat->Option aw) (nx:Nat) (t:Nat) (x:AV) (f:Nat) (K:iy->Option R):Option R:=
 match tt t with
 |some ⟨.struct fs,_,_⟩=>match fs[f]? with
  |some (off,_)=>match x with
   | .one (.l (.fP id k))=>mM nx (.l (.fP id (k+off))) K
   | .one (.l (.q_ id i g))=>match kE hp id with|some _=>K ⟨.l (.q_ id i (g+off)),[],nx,[id],[]⟩|none=>none
   | .one (.l (.Gb p r i g))=>mM nx (.l (.Gb p r i (g+off))) K
   |_=>none
  |none=>none
 |_=>none
def Cl (o:Option AV) (d:Int) (K:Int->Option R):Option R:=match o with|none=>K d|some x=>Kr x K
def oK (tt:TT) (hp:Nat->Option aw) (nx:Nat) (t:Nat) (x:AV) (lo hi:Option AV) (K:iy->Option R):Option R:=
 match x with
 | .one (.l (.s s))=>match tt t with
   |some ⟨.str,_,_⟩=>Cl hi s.size fun h=>ay (decide (0<=h)&&decide (h<=s.size)) (Cl lo 0 fun l=>ay (decide (0<=l)&&decide (l<=h)) (mM nx (.l (.s (s.extract l.toNat h.toNat))) K))
   |_=>none
 | .one (.l (.own id))=>match kE hp id with
   |some r=>bif Nr tt t r then (match lo,hi with
    |none,none=>mM nx (.l (.own id)) K
    |_,_=>Cl hi r.len fun h=>ay (decide (0<=h)&&decide (h<=r.len)) (Cl lo 0 fun l=>ay (decide (0<=l)&&decide (l<=h)) (K ⟨.l (.sub id l.toNat h.toNat),[],nx,[id],[]⟩))) else none
   |none=>none
 | .one (.l (.val p r))=>bif Nr tt t r then match lo,hi with
  |none,none=>mM nx (.l (.val p r)) K
  |none,some h=>Kr h fun h=>ay (decide (0<=h)&&decide (h<=r.len)) (mM nx (.l (.val p (r.take h.toNat))) K)
  |some l,none=>Kr l fun l=>ay (decide (0<=l)&&decide (l<=r.len)) (mM nx (.l (.val p (r.drop l.toNat))) K)
  |some l,some h=>Kr h fun h=>ay (decide (0<=h)&&decide (h<=r.len)) (Kr l fun l=>ay (decide (0<=l)&&decide (l<=h)) (mM nx (.l (.val p ((r.take h.toNat).drop l.toNat))) K))
   else none
 |_=>none
def uR (tt:TT) (nx:Nat) (t:Nat) (x ix:AV) (K:iy->Option R):Option R:=
 match x with
 | .one (.l (.s s))=>match tt t with
   |some ⟨.str,_,_⟩=>Kr ix fun i=>ay (decide (0<=i)&&decide (i<s.size)) (mM nx (.l (.i .u8 (sb s i.toNat))) K)
   |_=>none
 |_=>none
def ln (tt:TT) (hp:Nat->Option aw) (nx:Nat) (src dst:Nat) (x:AV) (K:iy->Option R):Option R:=
 bif dT tt src then match x with
 | .one (.l (.i _ n))=>match tt dst with|some ⟨.int k,_,_⟩=>mM nx (.l (.i k (k.wrap n))) K|_=>none
 | .one (.l (.s s))=>match tt dst with|some ⟨.str,_,_⟩=>mM nx (.l (.s s)) K|_=>none
 | .one (.l x)=>match tt dst,ib hp x with
   |some ⟨.str,_,_⟩,some (.ints .u8 l,rc)=>match (kB tt src).bind tt with
    |some ⟨.int .u8,_,_⟩=>K ⟨.l (.s (strOf l)),[],nx,[],rc⟩
    |_=>none
   |_,_=>none
 |_=>none
 else none
def tW:Operand->Operand->Bool
 | .tmp a,.tmp b=>a==b
 | .const (.int _ a),.const (.int _ b)=>a==b
 |_,_=>false
def kj (tt:TT) (nx:Nat) (t:Nat) (l c:Operand) (x:AV) (K:iy->Option R):Option R:=
 bif tW l c then (match kB tt t with
  |some e=>match di tt e with
   |some r=>Kr x fun n=>ay (decide (0<=n)&&decide (n.toNat*bytesOf tt e<=room)) (K ⟨.l (.own nx),[(nx,some (.row e 0 (gM n.toNat r)))],nx+1,[],[]⟩)
   |none=>none
  |none=>none) else none
def nn (hp:Nat->Option aw) (r0:Row):LV->Option (Row×List Nat×List Nat)
 | .nil=>some (r0,[],[])
 | .own id=>match hp id with
   |some (.row _ _ r)=>match r with
    | .rows true _=>some (r,[id],[id])
    | .dw _ true _=>some (r,[id],[id])
    |_=>some (r,[],[id])
   |_=>none
 | .sub id lo hi=>match hp id with
   |some (.row _ _ r)=>match r with
    | .rows true _=>none
    | .dw _ true _=>none
    |_=>some ((r.take hi).drop lo,[],[id])
   |_=>none
 | .s s=>some (.ints .u8 (s.data.toList.map fun b=>(b.toNat:Int)),[],[])
 |x=>match ib hp x with|some (r,rc)=>some (r,[],rc)|none=>none
def qE (tt:TT) (e:Nat) (r0 base y:Row) (ks:List Nat) (up:List (Nat×Option aw)) (nx:Nat) (rc:List Nat) (K:iy->Option R):Option R:=
 match base.Df y with
 |some r=>bif base.size==r0.size then ay (decide ((base.len+y.len)*bytesOf tt e<=room)) (K ⟨.l (.own nx),dJ ks++up++[(nx,some (.row e 0 r))],nx+1,[],rc⟩) else none
 |none=>none
def ng (tt:TT) (hp:Nat->Option aw) (nx:Nat) (t:Nat) (tx:Nat) (s x:AV) (K:iy->Option R):Option R:=
 match kB tt t,s,x with
 |some e,.one (.l s),.one (.l x)=>match di tt e with
  |some r0=>match nn hp r0 x with
   |some (y,ks,rc)=>bif (match x with| .s _=>(match tt tx with|some ⟨.str,_,_⟩=>r0.size==1|_=>false)|_=>(kB tt tx).isSome) then (match s with
    | .nil=>qE tt e r0 r0 y ks [] nx rc K
    | .own id=>match hp id with
      |some (.row _ _ r)=>bif rc.elem id then none else qE tt e r0 r y ks [(id,none)] nx (rc++[id]) K
      |_=>none
    | .sub id lo hi=>match hp id with
      |some (.row _ _ r)=>bif rc.elem id then none else bif lo==0 then qE tt e r0 (r.take hi) y ks [(id,none)] nx (rc++[id]) K else none
      |_=>none
    | .inner id ver i f=>match hp id with
      |some (.row bt v (.rows true l))=>bif rc.elem id then none else bif v==ver then qE tt e r0 (.ints .i64 (l.getD i [])) y ks [(id,some (.hole bt v (.rows true l) i f)),(nx,none)] (nx+1) (rc++[id]) K else none
      |_=>none
    |_=>none) else none
   |none=>none
  |none=>none
 |_,_,_=>none
def sk (tt:TT) (hp:Nat->Option aw) (nx:Nat) (t:Nat) (d s:AV) (K:iy->Option R):Option R:=
 bif (match kB tt t with|some e=>bz tt e==1|none=>false) then match d,s with
 | .one (.l (.sub id lo hi)),.one (.l (.sub Ye jk tN))=>match hp id with
   |some (.row bt ver (.ints k l))=>bif id==Ye then
    K ⟨.l (.i .i64 (min (tN-jk) (hi-lo):Nat)),[(id,some (.row bt ver (.ints k (l.take lo++(((l.take tN).drop jk).take (hi-lo)++l.drop (lo+min (tN-jk) (hi-lo)))))))],nx,[],[id]⟩ else none
   |some (.row bt ver (.rows true l))=>bif id==Ye then
    ay (lo==jk+1&&hi==l.length&&tN==l.length&&decide (jk<l.length)) (K ⟨.l (.i .i64 ((l.length-lo:Nat):Int)),[(id,some (.hole bt (ver+1) (.rows true (l.take jk++[]::(l.drop jk).dropLast)) jk 0))],nx,[],[id]⟩) else none
   |_=>none
 |_,_=>none
 else none
end
section
variable {R:Type}
def wa (tt:TT) (hp:Nat->Option aw) (m:Mode) (t:Nat):LV->Option (DL×List Nat×List Nat×List Nat)
 | .i k n=>some (.i k n,[],[],[])
 | .b x=>some (.b x,[],[],[])
 | .s x=>some (.s x,[],[],[])
 | .er x=>some (.er x,[],[],[])
 | .nil=>match kB tt t with
   |some e=>match di tt e with
    |some r=>match m with| .mS=>some (.sl .aS r.fL,[],[],[])| .fL=>some (.sl .fL r.fL,[],[],[])|_=>some (.sl .own r,[],[],[])
    |none=>none
   |none=>none
 | .val p r=>match m with
   | .mS=>some (.sl .aS r,[],[],[])
   | .fL=>bif p then some (.sl .fL r,[],[],[]) else none
   |_=>none
 |x=>match m with
  | .mS=>match ib hp x with|some (r,rc)=>some (.sl .aS r,[],[],rc)|none=>none
  | .DD=>match x with
    | .own id=>match hp id with|some (.row _ _ r)=>(bif r.owned then some (.sl .own r,[id],[],[]) else none)|_=>none
    | .sub id 0 hi=>match hp id with|some (.row _ _ r)=>(bif r.owned then some (.sl .own (r.take hi),[id],[],[]) else none)|_=>none
    |_=>none
  | .io=>match x with
    | .own id=>match hp id with|some (.row _ _ r)=>(bif r.owned then some (.sl .own r,[],[id],[]) else none)|_=>none
    | .inner id ver i f=>match hp id with
      |some (.row _ v r)=>bif v==ver&&r.owned then some (.sl .own (.ints .i64 (eB r i f)),[],[id],[]) else none
      |_=>none
    |_=>none
  | .fL=>none
def sL (tt:TT) (hp:Nat->Option aw) (m:Mode):List Nat->List LV->Option (List DL×List Nat×List Nat×List Nat)
 | [],[]=>some ([],[],[],[])
 |t::ts,x::xs=>match wa tt hp m t x with
  |some (d,ks,io,rc)=>match sL tt hp m ts xs with
   |some (ds,ks',io',Oc)=>some (d::ds,ks++ks',io++io',rc++Oc)
   |none=>none
  |none=>none
 |_,_=>none
def PH:LV->Option DL
 | .i k n=>some (.i k n)
 | .b x=>some (.b x)
 | .s x=>some (.s x)
 | .val true r=>some (.sl .fL r)
 |_=>none
def FN:List LV->Option (List DL)
 | []=>some []
 |x::xs=>match PH x with
  |some d=>match FN xs with
   |some ds=>some (d::ds)
   |none=>none
  |none=>none
def El:LV->Option Nat
 | .fP id 0=>some id
 |_=>none
def PI (tt:TT) (t:Nat):Bool:=match tt t with|some ⟨.ptr _,_,_⟩=>true|_=>false
def B0 (tt:TT) (hp:Nat->Option aw) (t id:Nat):Option (List DL):=bif PI tt t then (match hp id with
 |some (.box _ cells)=>FN cells
 |_=>none) else none
def PK (tt:TT) (hp:Nat->Option aw) (m:Mode) (t id:Nat):Option (DV×List Nat×List Nat×List Nat):=match m with
 | .io=>match B0 tt hp t id with|some ds=>some (.ptr ds,[],[id],[])|none=>none
 |_=>none
def Ii (tt:TT) (hp:Nat->Option aw) (m:Mode) (t:Nat):AV->Option (DV×List Nat×List Nat×List Nat)
 | .one (.l x)=>match El x with
   |some id=>PK tt hp m t id
   |none=>match wa tt hp m t x with|some (d,ks,io,rc)=>some (.l d,ks,io,rc)|none=>none
 | .one (.agg xs)=>match sL tt hp m (aK tt depth t) xs with|some (ds,ks,io,rc)=>some (.agg ds,ks,io,rc)|none=>none
 | .G4 _=>none
def qX (tt:TT) (hp:Nat->Option aw):List Mode->List Nat->List AV->Option (List DV×List Nat×List Nat×List Nat)
 |_,[],[]=>some ([],[],[],[])
 |ms,t::ts,x::xs=>match Ii tt hp (ms.headD .mS) t x with
  |some (d,ks,io,rc)=>match qX tt hp ms.tail ts xs with
   |some (ds,ks',io',Oc)=>some (d::ds,ks++ks',io++io',rc++Oc)
   |none=>none
  |none=>none
 |_,_,_=>none
def dI (k:IntKind) (d:DL) (K:Int->Option R):Option R:=match d with| .i k' n=>(bif decide (k=k') then K n else none)|_=>none
def dB (d:DL) (K:Bool->Option R):Option R:=match d with| .b x=>K x|_=>none
def dS (d:DL) (K:ByteArray->Option R):Option R:=match d with| .s x=>K x|_=>none
def dE (d:DL) (K:Bool->Option R):Option R:=match d with| .er x=>K x|_=>none
def xu (oc:lO) (k:IntKind) (d:DL) (K:List Int->Option R):Option R:=match d with| .sl o (.ints k' l)=>(bif decide (o=oc)&&decide (k=k') then K l else none)|_=>none
def tJ (oc:lO) (d:DL) (K:List Bool->Option R):Option R:=match d with| .sl o (.du l)=>(bif decide (o=oc) then K l else none)|_=>none
def zZ (oc:lO) (d:DL) (K:List ByteArray->Option R):Option R:=match d with| .sl o (.strs l)=>(bif decide (o=oc) then K l else none)|_=>none
def z7 (oc:lO) (d:DL) (K:List (List Int)->Option R):Option R:=match d with| .sl o (.rows o' l)=>(bif decide (o=oc)&&o' ==decide (oc= .own) then K l else none)|_=>none
def z_ (oc:lO) (sg:List Bool) (d:DL) (K:List (List gR)->Option R):Option R:=match d with| .sl o (.dw SQ o' l)=>(bif decide (o=oc)&&o' ==decide (oc= .own)&&sg==SQ then K l else none)|_=>none
def xw (ds:List DV) (K:DV->List DV->Option R):Option R:=match ds with|d::ds=>K d ds|_=>none
def Nd (ds:List DV) (K:Option R):Option R:=match ds with| []=>K|_=>none
def dL (d:DV) (K:DL->Option R):Option R:=match d with| .l x=>K x|_=>none
def PR (d:DV) (K:List DL->Option R):Option R:=match d with| .agg x=>K x|_=>none
def Kb (d:DV) (K:List DL->Option R):Option R:=match d with| .ptr x=>K x|_=>none
def Im (ds:List DL) (K:DL->List DL->Option R):Option R:=match ds with|d::ds=>K d ds|_=>none
def PQ (ds:List DL) (K:Option R):Option R:=match ds with| []=>K|_=>none
def FZ (tt:TT) (oc:lO) (t:Nat) (d:DL) (nx:Nat) (K:LV->List (Nat×Option aw)->Nat->Option R):Option R:=
 match tt t with
 |some ⟨.int k,_,_⟩=>dI k d fun n=>K (.i k n) [] nx
 |some ⟨.bool,_,_⟩=>dB d fun x=>K (.b x) [] nx
 |some ⟨.str,_,_⟩=>dS d fun x=>K (.s x) [] nx
 |some ⟨.err,_,_⟩=>dE d fun x=>K (.er x) [] nx
 |some ⟨.slice e,_,_⟩=>
  let fin (r:Row):Option R:=match oc with
   | .own=>K (.own nx) [(nx,some (.row e 0 r))] (nx+1)
   | .fL=>K (.val true r) [] nx
   | .aS=>K (.val false r) [] nx
  match di tt e with
  |some (.ints k _)=>xu oc k d fun l=>fin (.ints k l)
  |some (.du _)=>tJ oc d fun l=>fin (.du l)
  |some (.strs _)=>zZ oc d fun l=>fin (.strs l)
  |some (.rows _ _)=>z7 oc d fun l=>fin (.rows (decide (oc= .own)) l)
  |some (.dw sg _ _)=>z_ oc sg d fun l=>fin (.dw sg (decide (oc= .own)) l)
  |none=>none
 |_=>none
def A9 (tt:TT) (oc:lO):List Nat->List DL->Nat->(List LV->List (Nat×Option aw)->Nat->Option R)->Option R
 | [],ds,nx,K=>PQ ds (K [] [] nx)
 |t::ts,ds,nx,K=>Im ds fun d ds=>FZ tt oc t d nx fun x up nx=>A9 tt oc ts ds nx fun xs gQ nx=>K (x::xs) (up++gQ) nx
def Kc (tt:TT) (oc:lO) (t:Nat) (d:DV) (nx:Nat) (K:A1->List (Nat×Option aw)->Nat->Option R):Option R:=
 match tt t with
 |some ⟨.struct _,_,_⟩=>PR d fun ds=>A9 tt oc (aK tt depth t) ds nx fun xs up nx=>K (.agg xs) up nx
 |some ⟨.ptr e,_,_⟩=>Kb d fun ds=>A9 tt .fL (aK tt depth e) ds (nx+1) fun xs up qa=>K (.l (.fP nx 0)) (up++[(nx,some (.box e xs))]) qa
 |_=>dL d fun d=>FZ tt oc t d nx fun x up nx=>K (.l x) up nx
def F5 (tt:TT) (oc:lO):List Nat->List DV->Nat->(List A1->List (Nat×Option aw)->Nat->List DV->Option R)->Option R
 | [],ds,nx,K=>K [] [] nx ds
 |t::ts,ds,nx,K=>xw ds fun d ds=>Kc tt oc t d nx fun x up nx=>F5 tt oc ts ds nx fun xs gQ nx ds=>K (x::xs) (up++gQ) nx ds
def fV (hp:Nat->Option aw):List (Nat×Option aw)->Nat->Option aw
 | []=>hp
 | (i,r)::l=>fV (fun j=>bif j==i then r else hp j) l
def B3:List Nat->Bool
 | []=>true
 |x::l=> !l.elem x&&B3 l
def pr:List Nat->List Nat->Bool
 | [],_=>true
 |x::l,m=> !m.elem x&&pr l m
structure ug where
 params:List Nat
 results:List Nat
 iH:List Mode
 oc:lO
structure gV (R:Type) where
 tt:TT
 Φ:Ux R
 sig:FuncId->Option ug
 nt:Nat
def Ls:List A1->AV
 | [x]=> .one x
 |xs=> .G4 xs
def sP:List Mode->Bool
 | []=>true
 | .io::_=>false
 |_::ms=>sP ms
def Row.kZ (r:Row) (f:Nat):Bool:=match r with
 | .rows _ _=>f==0
 | .dw sg _ _=>sg[f]?.getD false
 |_=>false
def m_ (oc:lO) (rc:List Nat):List (Nat×Option aw):=match oc with| .aS=>dJ rc|_=>[]
def je (hp:Nat->Option aw) (x:LV) (d:DL) (K:List (Nat×Option aw)->Option R):Option R:=
 match x with
 | .i _ _=>K []
 | .b _=>K []
 | .s _=>K []
 | .er _=>K []
 | .nil=>K []
 | .own id=>match hp id with
   |some (.row e ver (.ints k _))=>xu .own k d fun l=>K [(id,some (.row e (ver+1) (.ints k l)))]
   |some (.row e ver (.du _))=>tJ .own d fun l=>K [(id,some (.row e (ver+1) (.du l)))]
   |some (.row e ver (.strs _))=>zZ .own d fun l=>K [(id,some (.row e (ver+1) (.strs l)))]
   |some (.row e ver (.rows true _))=>z7 .own d fun l=>K [(id,some (.row e (ver+1) (.rows true l)))]
   |some (.row e ver (.dw sg true _))=>z_ .own sg d fun l=>K [(id,some (.row e (ver+1) (.dw sg true l)))]
   |_=>none
 |_=>none
def gO (hp:Nat->Option aw):List LV->List DL->(List (Nat×Option aw)->Option R)->Option R
 | [],ds,K=>PQ ds (K [])
 |x::xs,ds,K=>Im ds fun d ds=>je hp x d fun up=>gO hp xs ds fun gQ=>K (up++gQ)
def od (x:LV) (d:DL) (K:LV->Option R):Option R:=match x with
 | .i k _=>dI k d fun n=>K (.i k n)
 | .b _=>dB d fun x=>K (.b x)
 | .s _=>dS d fun x=>K (.s x)
 | .val true (.ints k _)=>xu .fL k d fun l=>K (.val true (.ints k l))
 |_=>none
def nH:List LV->List DL->(List LV->Option R)->Option R
 | [],ds,K=>PQ ds (K [])
 |x::xs,ds,K=>Im ds fun d ds=>od x d fun y=>nH xs ds fun ys=>K (y::ys)
def uM (hp:Nat->Option aw) (id:Nat) (d:DV) (K:List (Nat×Option aw)->Option R):Option R:=Kb d fun ds=>match hp id with
 |some (.box t cells)=>nH cells ds fun cs=>K [(id,some (.box t cs))]
 |_=>none
def na (hp:Nat->Option aw) (x:AV) (d:DV) (K:List (Nat×Option aw)->Option R):Option R:=match x with
 | .one (.l x)=>match El x with
   |some id=>uM hp id d K
   |none=>dL d fun d=>je hp x d K
 | .one (.agg ys)=>PR d fun d=>gO hp ys d K
 | .G4 _=>none
def j_ (hp:Nat->Option aw):List Mode->List AV->List DV->(List (Nat×Option aw)->Option R)->Option R
 | .io::ms,x::xs,ds,K=>xw ds fun d ds=>na hp x d fun up=>j_ hp ms xs ds fun gQ=>K (up++gQ)
 |_::ms,_::xs,ds,K=>j_ hp ms xs ds K
 |_,_,ds,K=>Nd ds (K [])
def sM:LV->List Nat
 | .own id=>[id]
 |_=>[]
def En:AV->List Nat
 | .one (.l x)=>match El x with
   |some id=>[id]
   |none=>sM x
 | .one (.agg xs)=>xs.flatMap sM
 | .G4 _=>[]
def lA:List Mode->List AV->List Nat
 | .io::ms,x::xs=>En x++lA ms xs
 |_::ms,_::xs=>lA ms xs
 |_,_=>[]
def W7:List DL->Option lO
 | []=>none
 | .sl c _::_=>some c
 |_::ds=>W7 ds
def Uy:Nat->List DV->Option lO
 |n+1,.l (.sl c _)::_=>some c
 |n+1,.agg xs::ds=>match W7 xs with|some c=>some c|none=>Uy n ds
 |n+1,_::ds=>Uy n ds
 |_,_=>none
def Ur (oc:lO) (n:Nat) (rs:List DV):lO:=match oc with
 | .aS=>match Uy n rs with|some .own=> .own|_=> .aS
 |c=>c
def ug.to (g:ug) (c:lO):ug:=⟨g.params,g.results,g.iH,c⟩
def A_ (G:gV R) (hp:Nat->Option aw) (nx:Nat) (f:FuncId) (g:ug) (xs:List AV) (K:iy->Option R):Option R:=
 match qX G.tt hp g.iH g.params xs with
  |none=>none
  |some (ds,ks,io,rc)=>bif B3 (ks++io)&&pr (ks++io) rc&&io==lA g.iH xs then G.Φ f ds fun rs=>
   F5 G.tt (Ur g.oc g.results.length rs) g.results rs nx fun vs up nx Ab=>j_ hp g.iH xs Ab fun gQ=>K ⟨Ls vs,dJ ks++m_ (Ur g.oc g.results.length rs) rc++up++gQ,nx,[],ks++io++rc⟩
   else none
def ka:List Mode->List AV->Option (Nat×Nat×Nat×Nat)
 | .io::_,.one (.l (.inner id ver i f))::_=>some (id,ver,i,f)
 |_::ms,_::xs=>ka ms xs
 |_,_=>none
def zc (n:Nat):List Mode->List AV->List AV
 | .io::_,.one (.l (.inner _ _ _ _))::xs=> .one (.l (.own n))::xs
 |_::ms,x::xs=>x::zc n ms xs
 |_,xs=>xs
def P2 (G:gV R) (hp:Nat->Option aw) (nx:Nat) (f:FuncId) (xs:List AV) (K:iy->Option R):Option R:=
 match G.sig f with
 |none=>none
 |some g=>match ka g.iH xs with
  |none=>A_ G hp nx f g xs K
  |some (id,ver,i,fl)=>match hp id with
   |some (.row e v r)=>bif v==ver&&r.owned&&r.kZ fl&&Nat.blt i r.len then
    let take:List (Nat×Option aw):=[(id,some (.hole e v r i fl)),(nx,some (.row 0 0 (.ints .i64 (eB r i fl))))]
    A_ G (fV hp take) (nx+1) f g (zc nx g.iH xs) fun E=>match fV (fV hp take) E.up nx,fV (fV hp take) E.up id with
     |some (.row _ _ (.ints .i64 l)),some (.hole _ _ _ _ _)=>match oe i fl l r with
      |some r'=>K ⟨E.v,take++E.up++[(id,some (.row e (v+1) r')),(nx,none)],E.nx,[],E.rc⟩
      |none=>none
     |_,_=>none
    else none
   |_=>none
def lr (G:gV R) (hp:Nat->Option aw) (nx:Nat) (b:Builtin) (ts:List Nat) (xs:List AV) (K:iy->Option R):Option R:=
 match b,xs,ts with
 | .len,[.one (.l (.s s))],[t]=>(match G.tt t with|some ⟨.str,_,_⟩=>mM nx (.l (.i .i64 s.size)) K|_=>none)
 | .len,[.one (.l x)],[t]=>(match kB G.tt t,lenOf hp x with
   |some _,some (n,rl,rc)=>K ⟨.l (.i .i64 n),[],nx,rl,rc⟩
   |_,_=>none)
 | .append,[s,x],[t,tx]=>ng G.tt hp nx t tx s x K
 | .copy,[d,s],[t,_]=>sk G.tt hp nx t d s K
 | .min,[.one (.l (.i k x)),.one (.l (.i k' y))],_=>bif decide (k=k') then mM nx (.l (.i k (if y<x then y else x))) K else none
 | .max,[.one (.l (.i k x)),.one (.l (.i k' y))],_=>bif decide (k=k') then mM nx (.l (.i k (if y>x then y else x))) K else none
 |_,_,_=>none
def RY (tt:TT) (t:Nat) (x:LV):Bool:=match x with
 | .b _=>(match tt t with|some ⟨.bool,_,_⟩=>true|_=>false)
 | .er _=>(match tt t with|some ⟨.err,_,_⟩=>true|_=>false)
 |_=>true
def W8 (y:Operand):LV->Bool
 | .er _=>(match y with| .const _=>true|_=>false)
 |_=>true
def jA (G:gV R) (o:Op) (S:Nat->AV) (hp:Nat->Option aw) (nx:Nat) (K:iy->Option R):Option R:=
 let rd:=St.rd G.nt S
 match o with
 | .move x| .assign x=>mM nx (rd x) K
 | .pick c a b=>match rd c with| .one (.l (.b x))=>(match x with|true=>mM nx (rd a) K|false=>mM nx (rd b) K)|_=>none
 | .alloc t=>p_ G.tt nx t K
 | .box t x=>tV G.tt hp nx t (rd x) K
 | .build t ps=>oI G.tt hp nx t (ps.toList.map fun p=>(p.1,rd p.2)) K
 | .buildSlice t n ps=>gN G.tt hp nx t n (ps.toList.map fun p=>(p.1,rd p.2)) K
 | .load t p=>sj G.tt hp nx t (rd p) K
 | .store t p x=>oJ G.tt hp nx t (rd p) (rd x) K
 | .nilCheck x=>match rd x with
   | .one (.l (.fP id k))=>mM nx (.l (.fP id k)) K
   |_=>none
 | .binOp op t x y _=>match rd x,rd y with
   | .one (.l x'),.one (.l y')=>bif RY G.tt t x' &&W8 y y' then binOp op x' y' fun v=>mM nx (.l v) K else none
   |_,_=>none
 | .unOp op _ x=>match rd x with
   | .one (.l x)=>unOp op x fun v=>mM nx (.l v) K
   |_=>none
 | .convert a b x=>ln G.tt hp nx a b (rd x) K
 | .makeSlice t l c=>kj G.tt nx t l c (rd l) K
 | .slice t x lo hi mx=>match mx with|none=>oK G.tt hp nx t (rd x) (lo.map rd) (hi.map rd) K|some _=>none
 | .fieldAddr t x f=>jC G.tt hp nx t (rd x) f K
 | .indexAddr t x i=>jB G.tt hp nx t (rd x) (rd i) K
 | .index t x i=>uR G.tt nx t (rd x) (rd i) K
 | .extract x j=>match rd x with| .G4 xs=>(match xs[j]? with|some y=>mM nx (.one y) K|none=>none)|_=>none
 | .call c=>match c.callee with
   | .builtin b=>lr G hp nx b c.argTypes.toList (c.args.toList.map rd) K
   | .value f=>match rd f with| .one (.l (.fn f))=>P2 G hp nx f (c.args.toList.map rd) K|_=>none
   | .invoke _ _=>none
 |_=>none
def St.put (S:St) (d:Option Tmp) (v:AV):St:=match d with|none=>S|some d=>{S with sl:=fun j=>bif j==d then v else S.sl j}
def St.Df (S:St) (d:Option Tmp) (E:iy):St:={sl:=(S.put d E.v).sl,hp:=fV S.hp E.up,nx:=E.nx}
def xH (ops:Array Oper) (j:Nat):Option Tmp:=match ops[j]? with|some o=>o.dst|none=>none
structure Kl where
 o:Oper
 w:List Nat
 ids:List Nat
def W9:LV->List Nat
 | .own id=>[id]
 | .sub id _ _=>[id]
 | .inner id _ _ _=>[id]
 | .fP id _=>[id]
 | .arr id _=>[id]
 | .q_ id _ _=>[id]
 | .zd id _ _ _ _=>[id]
 |_=>[]
def W_:A1->List Nat
 | .l x=>W9 x
 | .agg xs=>xs.flatMap W9
def Zy:AV->List Nat
 | .one x=>W_ x
 | .G4 xs=>xs.flatMap W_
def Ew (rd:Operand->AV) (o:Op):List Nat:=match o with
 | .move _=>[]
 | .assign _=>[]
 | .pick _ _ _=>[]
 | .extract _ _=>[]
 | .nilCheck _=>[]
 | .binOp _ _ _ _ _=>[]
 | .unOp _ _ _=>[]
 |o=>o.operands.toList.flatMap fun x=>Zy (rd x)
def cut (hp:Nat->Option aw) (ids:List Nat):Nat->Option aw:=fun j=>bif ids.elem j then hp j else none
def Kn (n:Nat) (E:iy):Bool:=Nat.ble n E.nx&&E.up.all fun p=>Nat.blt p.1 E.nx
def writes (n:Nat) (E:iy):List Nat:=E.up.map (·.1)++List.range' n (E.nx-n)
def uN (n:Nat):iy:=⟨.l .undef,[],n,[],[]⟩
def Ko (G:gV R) (ops:Array Oper) (draw:Bool) (o:Oper) (S:St) (K:St->Kl->Option R):Option R:=
 let exec (S:St):Option R:=jA G o.op S.sl (bif draw then cut S.hp (Ew (St.rd G.nt S.sl) o.op) else S.hp) S.nx fun E=>bif Kn S.nx E then K (S.Df o.dst E) ⟨o,writes S.nx E,Ew (St.rd G.nt S.sl) o.op⟩ else none
 let skip (S:St):Option R:=K (S.Df o.dst (uN S.nx)) ⟨o,[],[]⟩
 bif (match o.dst with|some d=>Nat.blt d G.nt|none=>true) then match o.guard with
 |none=>exec S
 |some (j,want)=>match xH ops j with
  |none=>none
  |some t=>bif Nat.blt t G.nt then match S.sl t with
   | .one (.l (.b x))=>(match x with
     |true=>bif want then exec (S.put (some t) (.l (.b true))) else skip (S.put (some t) (.l (.b true)))
     |false=>bif want then skip (S.put (some t) (.l (.b false))) else exec (S.put (some t) (.l (.b false))))
   | .one (.l .undef)=>skip S
   |_=>none
   else none
 else none
def LA (G:gV R) (ops:Array Oper) (draw:Bool):List Oper->St->List Kl->(St->List Kl->Option R)->Option R
 | [],S,L,K=>K S L
 |o::rest,S,L,K=>Ko G ops draw o S fun S l=>LA G ops draw rest S (l::L) K
def xJ (acc:List Nat) (o:Oper):Nat:=o.after.toList.foldr (fun e s=>bif Region.binds .any e then (2^e.on ||| (acc[e.on]?.getD 0) ||| s) else s) 0
def nW:List Nat->List Oper->List Nat
 |acc,[]=>acc
 |acc,o::ops=>nW (acc++[xJ acc o]) ops
def indep (ops:Array Oper) (a b:Kl):Bool:=
 a.o.apart ops b.o&&b.o.apart ops a.o&&pr a.w b.w&&pr a.w b.ids&&pr b.w a.ids
def Gg (ops:Array Oper) (bk:Nat) (lk:Kl):Nat->List Kl->Bool
 |_,[]=>true
 |i,l::ls=>(Nat.testBit bk i||indep ops l lk)&&Gg ops bk lk (i+1) ls
def Gf (ops:Array Oper):List Kl->List Nat->List Kl->Bool
 |_,_,[]=>true
 |_,[],_=>false
 |done,b::bs,l::ls=>Gg ops b l 0 done&&l.o.after.toList.all (fun e=> !Region.binds .any e||Nat.blt e.on done.length)&&Gf ops (done++[l]) bs ls
def Cg (G:gV R) (ops:Array Oper) (draw:Bool) (S:St) (K:St->Option R):Option R:=
 LA G ops draw ops.toList S [] fun S L=>bif draw then (bif Gf ops [] (nW [] ops.toList) L.reverse then K S else none) else K S
def idx:Nat->List Nat->Option Nat
 |_,[]=>none
 |x,y::l=>bif x==y then some 0 else (match idx x l with|some i=>some (i+1)|none=>none)
def vu (olds:List Nat) (hp:Nat->Option aw):LV->LV
 | .own id=>match idx id olds with|some j=> .own j|none=> .any
 | .sub id lo hi=>match idx id olds with|some j=> .sub j lo hi|none=> .any
 | .fP id k=>match idx id olds with|some j=> .fP j k|none=> .any
 | .q_ id i f=>match idx id olds with|some j=> .q_ j i f|none=> .any
 | .arr id n=>match idx id olds with|some j=> .arr j n|none=> .any
 | .inner _ _ _ _=> .any
 | .zd _ _ _ _ _=> .any
 |x=>x
def LC (olds:List Nat) (hp:Nat->Option aw):A1->A1
 | .l x=> .l (vu olds hp x)
 | .agg xs=> .agg (xs.map (vu olds hp))
def SO (olds:List Nat) (hp:Nat->Option aw):AV->AV
 | .one x=> .one (LC olds hp x)
 | .G4 xs=> .G4 (xs.map (LC olds hp))
def uP (olds:List Nat) (hp:Nat->Option aw):aw->aw
 | .row _ _ r=> .row 0 0 r
 | .hole _ _ r i f=> .hole 0 0 r i f
 | .box _ cells=> .box 0 (cells.map (vu olds hp))
 | .eW=> .eW
def Qa (l:List (Option aw)) (j:Nat):Option aw:=match l[j]? with|some r=>r|none=>none
def wo (l:List (Nat×AV)) (j:Nat):AV:=match look l j with|some v=>v|none=> .l .any
def pairUp:List Nat->List AV->List (Nat×AV)
 |t::ts,v::vs=>(t,v)::pairUp ts vs
 |_,_=>[]
def bZ (live:List Nat) (vs:List AV) (hs:List (Option aw)):St:=⟨wo (pairUp live vs),Qa hs,hs.length⟩
def uO (hp:Nat->Option aw):Nat->LV->List Nat->List Nat
 |d,x,acc=>match (match x with| .own id=>some id| .sub id _ _=>some id| .fP id _=>some id| .q_ id _ _=>some id| .arr id _=>some id|_=>none) with
  |none=>acc
  |some id=>bif acc.elem id then acc else match hp id with
   |none=>acc
   |some (.box _ cells)=>match d with
    |0=>acc++[id]
    |d+1=>cells.foldl (fun acc x=>uO hp d x acc) (acc++[id])
   |some _=>acc++[id]
def Gh (hp:Nat->Option aw) (x:AV) (acc:List Nat):List Nat:=match x with
 | .one (.l x)=>uO hp 3 x acc
 | .one (.agg xs)=>xs.foldl (fun acc x=>uO hp 3 x acc) acc
 | .G4 _=>acc
def wk (live:List Nat) (S:St):List Nat:=live.foldl (fun acc t=>Gh S.hp (S.sl t) acc) []
def tS (live:List Nat) (S:St):List AV:=live.map fun t=>SO (wk live S) S.hp (S.sl t)
def sN (live:List Nat) (S:St):List (Option aw):=(wk live S).map fun id=>(S.hp id).map (uP (wk live S) S.hp)
def AZ (hp:Nat->Option aw):LV->Option (LV×Option Nat)
 | .own id=>match hp id with
   |some (.row _ _ r)=>some (.val false r.fL,some id)
   |_=>none
 | .val _ r=>some (.val false r,none)
 |_=>none
def pp (hp:Nat->Option aw):Option Nat->Nat->Option aw
 |some id=>fun j=>bif j==id then none else hp j
 |none=>hp
def Ka (t j:Nat) (S:St):St:=match S.sl t with
 | .one (.agg xs)=>match xs[j]? with
   |some x=>match AZ S.hp x with
    |some (y,o)=>⟨fun i=>bif i==t then .one (.agg (xs.set j y)) else S.sl i,pp S.hp o,S.nx⟩
    |none=>S
   |none=>S
 | .one (.l (.fP id _))=>match S.hp id with
   |some (.box bt cells)=>match cells[j]? with
    |some x=>match AZ S.hp x with
     |some (y,o)=>⟨S.sl,fun i=>bif i==id then some (.box bt (cells.set j y)) else pp S.hp o i,S.nx⟩
     |none=>S
    |none=>S
   |_=>S
 |_=>S
def Nb (t:Nat) (S:St):St:=match S.sl t with
 | .one (.l (.own id))=>match S.hp id with
   |some (.row _ _ r)=>⟨fun j=>bif j==t then .one (.l (.val false r.fL)) else S.sl j,fun j=>bif j==id then none else S.hp j,S.nx⟩
   |_=>S
 | .one (.l (.sub id lo hi))=>match S.hp id with
   |some (.row _ _ r)=>⟨fun j=>bif j==t then .one (.l (.val false ((r.fL.take hi).drop lo))) else S.sl j,fun j=>bif j==id then none else S.hp j,S.nx⟩
   |_=>S
 | .one (.l (.val _ r))=>⟨fun j=>bif j==t then .one (.l (.val false r)) else S.sl j,S.hp,S.nx⟩
 | .one (.agg xs)=>(List.range xs.length).foldl (fun S j=>Ka t j S) S
 | .one (.l (.fP id _))=>match S.hp id with
   |some (.box _ cells)=>(List.range cells.length).foldl (fun S j=>Ka t j S) S
   |_=>S
 |_=>S
def PN (n:Nat):Row:=match n%8 with
 |0=> .ints .i64 []
 |1=> .ints .u8 []
 |2=> .du []
 |3=> .strs []
 |4=> .rows true []
 |_=> .dw ((List.range (n/8%64)).map fun i=>Nat.testBit (n/512) i) true []
def Ik (t j:Nat) (r:Row) (S:St):St:=match S.sl t with
 | .one (.l .nil)=>⟨fun i=>bif i==t then .one (.l (.own S.nx)) else S.sl i,fun i=>bif i==S.nx then some (.row 0 0 r) else S.hp i,S.nx+1⟩
 | .one (.agg xs)=>match xs[j]? with
   |some .nil=>⟨fun i=>bif i==t then .one (.agg (xs.set j (.own S.nx))) else S.sl i,fun i=>bif i==S.nx then some (.row 0 0 r) else S.hp i,S.nx+1⟩
   |_=>S
 | .one (.l (.fP id _))=>match S.hp id with
   |some (.box bt cells)=>match cells[j]? with
    |some .nil=>⟨S.sl,fun i=>bif i==id then some (.box bt (cells.set j (.own S.nx))) else bif i==S.nx then some (.row 0 0 r) else S.hp i,S.nx+1⟩
    |_=>S
   |_=>S
 |_=>S
def WM (x:Nat) (S:St):St:=Ik (x%4096) (x/4096%64) (PN (x/262144)) S
def qx (ts:List Nat) (S:St):St:=ts.foldl (fun S t=>bif Nat.blt 999999999 t then WM (t-1000000000) S else Nb t S) S
def iu:Code->Option Nat
 | .region id _ _=>some id
 | .seq a b=>match iu a with|some i=>some i|none=>iu b
 | .cond _ a b=>match iu a with|some i=>some i|none=>iu b
 | .block _ b=>iu b
 | .loop b=>iu b
 |_=>none
def lF (live:List (Nat×List Nat)) (c:Code):List Nat:=match iu c with|some i=>(look live i).getD []|none=>[]
def Gl (live:List (Nat×List Nat)) (c:Code):List Nat:=match iu c with|some i=>(look live (i+100000)).getD []|none=>[]
def sO (live:List (Nat×List Nat)) (c:Code):List Nat:=match iu c with|some i=>(look live (i+200000)).getD []|none=>[]
def Cj (live:List (Nat×List Nat)) (c:Code):List Nat:=match iu c with|some i=>(look live (i+300000)).getD []|none=>[]
def Qb (live:List Nat) (S:St):St:=bZ live (tS live S) (sN live S)
abbrev va (R:Type):=Nat->(X->St->Option R)->List AV->List (Option aw)->Option R
def keyOf (c:Code):Nat:=match iu c with|some i=>i|none=>0
def Zz (f:(X->St->Option R)->St->Option R) (K:X->St->Option R):X->St->Option R:=fun x S=>match x with| .normal=>f K S|x=>K x S
def Qd (id:Nat) (K:X->St->Option R):X->St->Option R:=fun x S=>match x with| .exit j=>(bif j==id then K .normal S else K (.exit j) S)|x=>K x S
def ev (G:gV R) (live:List (Nat×List Nat)) (Λ:va R):Code->(X->St->Option R)->St->Option R
 | .skip,K,S=>K .normal S
 | .region _ ops draw,K,S=>Cg G ops draw S (K .normal)
 | .seq a b,K,S=>ev G live Λ a (Zz (ev G live Λ b) K) S
 | .cond c a b,K,S=>match St.rd G.nt S.sl c with
   | .one (.l (.b x))=>(match x with
     |true=>ev G live Λ a K (match c with| .tmp t=>S.put (some t) (.l (.b true))|_=>S)
     |false=>ev G live Λ b K (match c with| .tmp t=>S.put (some t) (.l (.b false))|_=>S))
   |_=>none
 | .block id body,K,S=>ev G live Λ body (Qd id K) S
 | .loop body,K,S=>Λ (keyOf body) K (tS (lF live body) (qx (sO live body) S)) (sN (lF live body) (qx (sO live body) S))
 | .exit id,K,S=>K (.exit id) S
 | .ret,K,S=>K .ret S
 |_,_,_=>none
def iter {A:Type} (step:(A->Option R)->A->Option R):Nat->A->Option R
 |0,_=>none
 |n+1,a=>step (iter step n) a
def rV (tt:TT) (t:Nat) (d:DL) (nx:Nat):Option (LV×List (Nat×Option aw)×Nat):=
 match d with
 | .i k n=>some (.i k n,[],nx)
 | .b x=>some (.b x,[],nx)
 | .s x=>some (.s x,[],nx)
 | .er x=>some (.er x,[],nx)
 | .sl .fL r=>some (.val true r,[],nx)
 | .sl .aS r=>some (.val false r,[],nx)
 | .sl .own r=>match kB tt t with
   |some e=>some (.own nx,[(nx,some (.row e 0 r))],nx+1)
   |none=>none
def kM (tt:TT):List Nat->List DL->Nat->Option (List LV×List (Nat×Option aw)×Nat)
 | [],[],nx=>some ([],[],nx)
 |t::ts,d::ds,nx=>match rV tt t d nx with
  |some (x,up,nx)=>match kM tt ts ds nx with
   |some (xs,gQ,nx)=>some (x::xs,up++gQ,nx)
   |none=>none
  |none=>none
 |_,_,_=>none
def qU (tt:TT) (t:Nat) (d:DV) (nx:Nat):Option (AV×List (Nat×Option aw)×Nat):=
 match d with
 | .l d=>match rV tt t d nx with|some (x,up,nx)=>some (.l x,up,nx)|none=>none
 | .agg ds=>match kM tt (aK tt depth t) ds nx with|some (xs,up,nx)=>some (.one (.agg xs),up,nx)|none=>none
 | .ptr ds=>match tt t with
   |some ⟨.ptr e,_,_⟩=>match kM tt (aK tt depth e) ds (nx+1) with
    |some (xs,up,qa)=>some (.l (.fP nx 0),up++[(nx,some (.box e xs))],qa)
    |none=>none
   |_=>none
def ir (tt:TT):List Nat->List DV->Nat->Option (List AV×List (Nat×Option aw)×Nat)
 | [],[],nx=>some ([],[],nx)
 |t::ts,d::ds,nx=>match qU tt t d nx with
  |some (x,up,nx)=>match ir tt ts ds nx with
   |some (xs,gQ,nx)=>some (x::xs,up++gQ,nx)
   |none=>none
  |none=>none
 |_,_,_=>none
def iK:Nat->List AV->List (Nat×AV)
 |_,[]=>[]
 |i,x::xs=>(i,x)::iK (i+1) xs
def uJ (tt:TT) (hp:Nat->Option aw) (oc:lO) (t:Nat) (x:LV):Option (DL×List Nat×List Nat):=
 match x with
 | .i k n=>some (.i k n,[],[])
 | .b x=>some (.b x,[],[])
 | .s x=>some (.s x,[],[])
 | .er x=>some (.er x,[],[])
 | .nil=>match kB tt t with
   |some e=>match di tt e with
    |some r=>(match oc with| .own=>some (.sl .own r,[],[])|c=>some (.sl c r.fL,[],[]))
    |none=>none
   |none=>none
 | .own id=>match hp id with
   |some (.row _ _ r)=>(match oc with
    | .own=>bif r.owned then some (.sl .own r,[id],[]) else none
    | .fL=>bif r.owned then some (.sl .fL r.fL,[],[id]) else none
    | .aS=>some (.sl .aS r.fL,[],[id]))
   |_=>none
 | .sub id lo hi=>match hp id with
   |some (.row _ _ r)=>(match oc with
    | .own=>(bif Nat.beq lo 0&&r.owned then some (.sl .own (r.take hi),[id],[]) else none)
    | .fL=>(bif r.owned then some (.sl .fL ((r.fL.take hi).drop lo),[],[id]) else none)
    |_=>none)
   |_=>none
 | .val p r=>(match oc with| .own=>none| .fL=>(bif p then some (.sl .fL r,[],[]) else none)| .aS=>some (.sl .aS r,[],[]))
 |_=>none
def po (tt:TT) (hp:Nat->Option aw) (oc:lO):List Nat->List LV->Option (List DL×List Nat×List Nat)
 | [],[]=>some ([],[],[])
 |t::ts,x::xs=>match uJ tt hp oc t x with
  |some (d,ks,fk)=>match po tt hp oc ts xs with
   |some (ds,ks',Jj)=>some (d::ds,ks++ks',fk++Jj)
   |none=>none
  |none=>none
 |_,_=>none
def FU (tt:TT) (hp:Nat->Option aw) (oc:lO) (t:Nat) (x:AV):Option (DV×List Nat×List Nat):=
 match x with
 | .one (.l x)=>match El x with
  |some id=>match B0 tt hp t id with|some ds=>some (.ptr ds,[id],[])|none=>none
  |none=>match uJ tt hp oc t x with|some (d,ks,fk)=>some (.l d,ks,fk)|none=>none
 | .one (.agg xs)=>match po tt hp oc (aK tt depth t) xs with|some (ds,ks,fk)=>some (.agg ds,ks,fk)|none=>none
 | .G4 _=>none
def pV (tt:TT) (hp:Nat->Option aw) (oc:lO):List Nat->List AV->Option (List DV×List Nat×List Nat)
 | [],[]=>some ([],[],[])
 |t::ts,x::xs=>match FU tt hp oc t x with
  |some (d,ks,fk)=>match pV tt hp oc ts xs with
   |some (ds,ks',Jj)=>some (d::ds,ks++ks',fk++Jj)
   |none=>none
  |none=>none
 |_,_=>none
def mY (tt:TT) (nt:Nat) (S:St):List ResultVar->Option (List AV)
 | []=>some []
 | .tmp t::rs=>bif Nat.blt t nt then (match mY tt nt S rs with|some xs=>some (S.sl t::xs)|none=>none) else none
 | .cell p t::rs=>bif Nat.blt p nt&&eg tt t then (match S.sl p with
   | .one (.l (.fP id 0))=>match S.hp id with
     |some (.box _ cells)=>bif cells.length==bz tt t then (match mY tt nt S rs with|some xs=>some (.one (.agg cells)::xs)|none=>none) else none
     |_=>none
   |_=>none) else none
def tH:Nat->List Mode->List Nat->List (Nat×Nat)
 |i,m::ms,t::ts=>(match m with| .io=>[(t,i)]|_=>[])++tH (i+1) ms ts
 |_,_,_=>[]
def finish (tt:TT) (g:ug) (fn:Func) (S:St) (K:List DV->Option R):Option R:=
 match mY tt fn.ntmps S fn.results.toList with
 |none=>none
 |some vs=>match pV tt S.hp g.oc g.results vs with
  |none=>none
  |some (ds,ks,fk)=>
   let ios:=tH fn.ntmps g.iH g.params
   match pV tt S.hp .own (ios.map (·.1)) (ios.map fun p=>S.sl p.2) with
   |none=>none
   |some (wF,ks',Jj)=>bif B3 (ks++ks' ++(fk++Jj)) then K (ds++wF) else none
def SP (live:List (Nat×List Nat)):Bool:=match look live 400000 with|some _=>true|none=>false
def Ba (QP:Bool) (tt:TT) (g:ug) (fn:Func) (S:St) (K:List DV->Option R):Option R:=bif QP then (match finish (R:=List DV) tt (g.to .own) fn S some with
 |some rs=>K rs
 |none=>finish tt g fn S K) else finish tt g fn S K
def J5 (G:gV R) (live:List (Nat×List Nat)) (Λ:va R) (g:ug) (fn:Func) (ds:List DV) (K:List DV->Option R):Option R:=
 match ir G.tt g.params ds 0,fn.body with
 |some (xs,up,nx),some body=>
  ev G live Λ body (fun x S=>match x with
   | .exit _=>none
   |_=>Ba (SP live) G.tt g fn S K) ⟨wo (bif sP g.iH then iK 0 xs else iK 0 xs++iK fn.ntmps xs),fV (fun _=>none) up,nx⟩
 |_,_=>none
def SR (vs:List AV) (K:AV->List AV->Option R):Option R:=match vs with|v::vs=>K v vs|_=>none
def Xa (vs:List AV) (K:Option R):Option R:=match vs with| []=>K|_=>none
def SS (hs:List (Option aw)) (K:Option aw->List (Option aw)->Option R):Option R:=match hs with|r::hs=>K r hs|_=>none
def Xb (hs:List (Option aw)) (K:Option R):Option R:=match hs with| []=>K|_=>none
def vL (v:AV) (K:LV->Option R):Option R:=match v with| .one (.l x)=>K x|_=>none
def Uz (v:AV) (K:List LV->Option R):Option R:=match v with| .one (.agg x)=>K x|_=>none
def SU (xs:List LV) (K:LV->List LV->Option R):Option R:=match xs with|x::xs=>K x xs|_=>none
def Xc (xs:List LV) (K:Option R):Option R:=match xs with| []=>K|_=>none
def lI (k:IntKind) (x:LV) (K:Int->Option R):Option R:=match x with| .i k' n=>(bif decide (k=k') then K n else none)|_=>none
def lB (x:LV) (K:Bool->Option R):Option R:=match x with| .b b=>K b|_=>none
def lS (x:LV) (K:ByteArray->Option R):Option R:=match x with| .s s=>K s|_=>none
def lE (x:LV) (K:Bool->Option R):Option R:=match x with| .er b=>K b|_=>none
def UA (id:Nat) (x:LV) (K:Option R):Option R:=match x with| .own j=>(bif j==id then K else none)|_=>none
def UB (id:Nat) (x:LV) (K:Nat->Nat->Option R):Option R:=match x with| .sub j lo hi=>(bif j==id then K lo hi else none)|_=>none
def UC (id k:Nat) (x:LV) (K:Option R):Option R:=match x with| .fP j k'=>(bif j==id&&k' ==k then K else none)|_=>none
def UD (id n:Nat) (x:LV) (K:Option R):Option R:=match x with| .arr j m=>(bif j==id&&m==n then K else none)|_=>none
def UE (x:LV) (K:Option R):Option R:=match x with| .any=>K|_=>none
def Qf (x:LV) (K:Option R):Option R:=match x with| .nil=>K|_=>none
def UF (p:Bool) (x:LV) (K:Row->Option R):Option R:=match x with| .val p' r=>(bif p' ==p then K r else none)|_=>none
def Ks (k:IntKind) (r:Row) (K:List Int->Option R):Option R:=match r with| .ints k' l=>(bif decide (k=k') then K l else none)|_=>none
def Gu (r:Row) (K:List Bool->Option R):Option R:=match r with| .du l=>K l|_=>none
def Kt (r:Row) (K:List ByteArray->Option R):Option R:=match r with| .strs l=>K l|_=>none
def Ku (o:Bool) (r:Row) (K:List (List Int)->Option R):Option R:=match r with| .rows o' l=>(bif o' ==o then K l else none)|_=>none
def Kv (sg:List Bool) (o:Bool) (r:Row) (K:List (List gR)->Option R):Option R:=match r with| .dw SQ o' l=>(bif SQ==sg&&o' ==o then K l else none)|_=>none
def UG (x:Option aw) (K:Row->Option R):Option R:=match x with|some (.row 0 0 r)=>K r|_=>none
def UH (x:Option aw) (K:List LV->Option R):Option R:=match x with|some (.box 0 cells)=>K cells|_=>none
end
end Go.Proofs.YtbmmhdmljajcfaaGreatDoor.V
